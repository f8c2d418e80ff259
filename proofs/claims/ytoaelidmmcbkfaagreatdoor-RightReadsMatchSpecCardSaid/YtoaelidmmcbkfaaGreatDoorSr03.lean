/- Parts of the proof, joined: Package num: long division. Package num: gcd. append of one element, t. -/
import Derived.Test.YtoaelidmmcbkfaaGreatDoorSr02
import Derived.Lib.Strings
set_option maxRecDepth 100000
set_option maxHeartbeats 8000000
namespace Go.Proofs.YtoaelidmmcbkfaaGreatDoor
open Go.RowKit Dw
theorem lz_c (x:Nat) (w:World) (h:x<4294967296):Calls Tryz.prog 214 #[.int .u32 (x:Int)] w (zAr (.int .i64 (32 - (Lib.bitLen x:Int))) w):=by
 have h:=Any.bits_LeadingZeros32 Tryz.lays133 (x:Int) w za za
 change Calls Tryz.prog 214 _ _ _ at h
 rw [Int.toNat_natCast] at h;exact h.mono fun _ _ ⟨he,hw⟩=>⟨he,hw.symm⟩
theorem cutW (g j n N:Nat) (h:j+n+1≤N) (W:World):(Instr.slice 154 (.slice (some ⟨g,0,none⟩) N N) (some (.int .i64 (j:Int))) (some (.int .i64 ((j:Int)+(n:Int)+1))) none).run Tryz.prog W = .ok (.slice (some ⟨g,j,none⟩) (n+1) (N - j)) W:=by
 have e1:¬ N=j:=za;have h1:(0:Int)≤(j:Int):=za;have h2:(j:Int)≤(j:Int)+(n:Int)+1:=za;have h3:(j:Int)+(n:Int)+1≤(N:Int):=za;simp [go_sem,h1,h2,h3]
 exact ⟨fun e=>absurd e e1,za⟩
theorem cutV (A:Option Addr) (n N:Nat) (h:n≤N) (W:World):(Instr.slice 154 (.slice A N N) none (some (.int .i64 (n:Int))) none).run Tryz.prog W = .ok (.slice A n N) W:=by
 have h3:(n:Int)≤(N:Int):=za;simp [go_sem,h3]
def RvRel (w:World) (gu gq gr:Nat) (U Q:List Nat) (s nb:Nat) (m:Nat) (iv:Value) (wr:World):Prop :=
 ∃ (k:Nat) (R:List Nat),k+m=nb∧iv = .int .i64 k∧zCj wr gr R∧R.length=nb∧WLt B32 R∧2 ^ s*zAi B32 (R.take k)+U.getD 0 0 % 2 ^ s=zAi B32 (U.take k)+B32 ^ k*(U.getD k 0 % 2 ^ s) ∧
  zCj wr gu U∧zCj wr gq Q∧Below w.heap.size w wr∧w.heap.size≤gr∧gu<gr∧gq<gr
theorem RvRel.step {w wr:World} {gu gq gr:Nat} {U Q R:List Nat} {s nb k gk T:Nat} (hkm:k+gk=nb) (hlt:k<nb) (hR:zCj wr gr R) (hRl:R.length=nb) (hRW:WLt B32 R) (hs:s<32) (hU1:k+1<U.length) (hUW:WLt B32 U)
  (hV:2 ^ s*zAi B32 (R.take k)+U.getD 0 0 % 2 ^ s=zAi B32 (U.take k)+B32 ^ k*(U.getD k 0 % 2 ^ s)) (hU:zCj wr gu U) (hQ:zCj wr gq Q) (hb:Below w.heap.size w wr) (h1:w.heap.size≤gr) (h2:gu<gr) (h3:gq<gr)
  (hT:T=U[k]+4294967296*U[k+1]) {iv mv:Value} (hi:iv = .int .i64 ((k:Int)+1)) (hm:mv = .int .u32 ((T / 2 ^ s % 4294967296:Nat):Int)) {wd:World} (hd:∃ n,wd=(wr.drewN n).setCell ⟨gr,k,none⟩ mv):RvRel w gu gq gr U Q s nb (gk - 1) iv wd:=by
 obtain ⟨n,rfl⟩:=hd;subst hi hm;have hR':zCj (wr.drewN n) gr R:=hR;have hU':zCj (wr.drewN n) gu U:=hU;have hQ':zCj (wr.drewN n) gq Q:=hQ;refine ⟨k+1,R.set k (T / 2 ^ s % 4294967296),za,zn,hR'.set k _,by simpa using hRl,hRW.set (modB _) k,?_,hU'.far (show gu≠gr by omega) _,hQ'.far (show gq≠gr by omega) _,(zAc hb n).setCell h1 _,h1,h2,h3⟩
 rw [wval_put za,zAH (by omega:k<U.length)]
 have e0:U.getD k 0=U[k]:=by simp [List.getD,show k<U.length by omega]
 have e1:U.getD (k+1) 0=U[k+1]:=by simp [List.getD,hU1]
 rw [e1];rw [e0] at hV;have hx:=hUW.get k za
 have hdv:(2 ^ s)∣B32:=by
  refine ⟨2 ^ (32 - s),?_⟩
  rw [←Nat.pow_add,show s+(32 - s)=32 by omega]
  rfl
 exact shr_col zCw (cU s) hdv hx hV (by rw [hT];rfl)
theorem divisor {r V:List Nat} {top s:Nat} (hr:WLt B32 r) (hn:0<r.length) (htop:r.getLast?=some top) (h1:top*2 ^ s<4294967296) (h0:0<top) (hs:s<32) (hVl:V.length=r.length+1) (hVW:WLt B32 V) (hVv:zAi B32 V=zAi B32 r*2 ^ s) :
  zAi B32 r*2 ^ s<B32 ^ r.length∧0<zAi B32 r*2 ^ s∧zAi B32 (V.take r.length)=zAi B32 r*2 ^ s∧(∀ h:r.length - 1<(V.take r.length).length,0<(V.take r.length)[r.length - 1]):=by
 have ht:r[r.length - 1]'(by omega)=top:=by
  rw [List.getLast?_eq_getElem?,List.getElem?_eq_getElem za] at htop
  injection htop
 have e1:=zAH (B:=B32) (l:=r) (i:=r.length - 1) za;rw [show r.length - 1+1=r.length by omega,bM,ht] at e1
 have e2:=zDS (hr.take (r.length - 1));rw [bE,bF za] at e2;have e3:B32 ^ (r.length - 1)*B32=B32 ^ r.length:=by rw [←aR,show (r.length - 1).succ=r.length by omega]
 have h2:(top+1)*2 ^ s≤B32:=by
  have e4:(4294967296:Nat)=2 ^ (32 - s)*2 ^ s:=by rw [←Nat.pow_add,show 32 - s+s=32 by omega]
  have h3:top<2 ^ (32 - s):=by
   rw [e4] at h1;exact Nat.lt_of_mul_lt_mul_right h1
  have h4:=aN (2 ^ s) (show top+1≤2 ^ (32 - s) from h3)
  rw [←e4] at h4;exact h4
 have hp:=cU s
 have hlt:zAi B32 r*2 ^ s<B32 ^ r.length:=by
  have h5:zAi B32 r+1≤B32 ^ (r.length - 1)*(top+1):=by rw [aS,bP];omega
  have h6:=aN (2 ^ s) h5;have h7:=bC (B32 ^ (r.length - 1)) h2;rw [e3,←aU] at h7;rw [aV,Nat.one_mul] at h6;omega
 have hge:B32 ^ (r.length - 1)≤zAi B32 r:=by
  have:=bC (B32 ^ (r.length - 1)) (show 1≤top from h0)
  rw [bP] at this;omega
 have hbp:0<B32 ^ (r.length - 1):=Nat.pow_pos zCw;have hpos:0<zAi B32 r*2 ^ s:=Nat.mul_pos za hp;have hz:zAi B32 (V.drop (0+r.length))=0:=zDR (n:=r.length) (by rw [cT,hVv];exact hlt) za
 have hsp:=zCP B32 r.length V za;rw [bJ] at hz;rw [hz,bI,cO,hVv] at hsp;refine ⟨hlt,hpos,hsp.symm,fun h=>?_⟩
 rcases bH ((V.take r.length)[r.length - 1]) with h0 | h0
 ·exfalso
  have e5:=zAH (B:=B32) (l:=V.take r.length) (i:=r.length - 1) h;rw [h0,bI,cO,List.take_take,List.take_take,bF za,bF za] at e5;rw [show r.length - 1+1=r.length by omega,←hsp] at e5
  have e6:=zDS (hVW.take (r.length - 1));rw [bE,bF za] at e6;have e7:=bC (zAi B32 r) hp;rw [bP] at e7;omega
 ·exact h0
theorem first_part {U:List Nat} {a b s na nb:Nat} (hU:U.length=na+1) (hUv:zAi B32 U=a*2 ^ s) (ha:a<B32 ^ na) (hb:B32 ^ (nb - 1)≤b) (h1:1≤nb) (h2:nb≤na):zAi B32 (U.drop (na - nb+1))<b*2 ^ s:=by
 have e:=zCP B32 (na - nb+1) U za;have hp:=cU s
 have h3:B32 ^ (na - nb+1)*zAi B32 (U.drop (na - nb+1))<B32 ^ na*2 ^ s:=by
  have:=cW ha hp;omega
 have e2:B32 ^ na=B32 ^ (na - nb+1)*B32 ^ (nb - 1):=by rw [←Nat.pow_add,show na - nb+1+(nb - 1)=na by omega]
 rw [e2,aU] at h3;exact cX (Nat.lt_of_mul_lt_mul_left h3) (aN _ hb)
theorem Div_long (A A2:Option Addr) (c c2 a b:Nat) (w:World) (h:Nt w A c a) (h2:Nt w A2 c2 b) (hn:(zAe B32 a).length≤400000000) (hn2:2<(zAe B32 a).length) (hm:2≤(zAe B32 b).length) (hge:b≤a) :
  Calls Tryz.prog 202 #[ntV A c a,ntV A2 c2 b] w (GivesNN (a / b) (a % b) w):=by
 obtain ⟨z,hz,hc⟩:=Cmp_ge h h2 za hge;have hlen:=zAL zAJ hge
 obtain ⟨top,htop,ht0⟩:∃ top,(zAe B32 b).getLast?=some top∧0<top:=by
  have hb0:=zDr (B:=B32) zAJ (n:=b) za;exact ⟨_,by rw [List.getLast?_eq_getElem?,List.getElem?_eq_getElem za],za⟩
 have hl1:=zBb zAJ a;have hl2:=zBb zAJ b;have HVA:=zq (zAw zAJ a);have HVB:=zq (zAw zAJ b);obtain ⟨h,hcap⟩:=h;obtain ⟨h2,hcap2⟩:=h2;have hsm:=small_no A c a w ⟨h,hcap⟩ hn2 za;have HS:=zq (fun nd:Nat=>small_no A c a (w.drewN nd) ⟨h.drewN nd,hcap⟩ hn2 za)
 have HC:=zq hc;clear hc hsm;unfold ntV at HC HS ⊢;generalize zAe B32 a=l at *;generalize zAe B32 b=r at *;obtain ⟨na,hna⟩:∃ na,na=l.length:=⟨_,rfl⟩;obtain ⟨nb,hnb⟩:∃ nb,nb=r.length:=⟨_,rfl⟩;obtain ⟨b2,o2,hA2,hlt2,hcl⟩:=h2.at_ za;subst hA2;have hc0:=hcl (r.length - 1) za
 have htop2:r[r.length - 1]'(by omega)=top:=by
  rw [List.getLast?_eq_getElem?,List.getElem?_eq_getElem za] at htop
  injection htop
 have ht1:top<4294967296:=by rw [←htop2];exact hl2.get _ za
 rw [zCb,htop2] at hc0;obtain ⟨hs1,hs2,hs3⟩:=shift_ok ht0 ht1;have HLZ:=zq (fun W:World=>lz_c top W ht1)
 obtain ⟨s,hs⟩:∃ s,s=32 - Lib.bitLen top:=⟨_,rfl⟩;have hsI:(32:Int) - (Lib.bitLen top:Int)=(s:Int):=za;rw [hsI] at HLZ;have hs4:s<32:=za;have HL1:=zq (fun W (hW:Wds W A l)=>left_l A c s l W hW hl1 za hs4)
 have HL2:=zq (fun W (hW:Wds W (some ⟨b2,o2,none⟩) r)=>left_l (some ⟨b2,o2,none⟩) c2 s r W hW hl2 za hs4)
 have HTOP:Hid (r.getLast?=some top∧top*2 ^ s<4294967296∧0<top):=⟨htop,by rw [hs];exact hs3,ht0⟩
 rw [←hnb] at hc0;clear htop htop2 hs1 hs2 hs3 hs hsI hcl
 have hmk:∀ w:World,(Instr.makeSlice 154 (.int .i64 ((na:Int) - (nb:Int)+1)) (.int .i64 ((na:Int) - (nb:Int)+1))).run Tryz.prog w =
   .ok (.slice (some ⟨w.heap.size,0,none⟩) (na - nb+1) (na - nb+1)) (w.alloc (.cells (Array.replicate (na - nb+1) (.int .u32 0)) 213)):=by
  have e:(na:Int) - (nb:Int)+1=((na - nb+1:Nat):Int):=za;rw [e];exact mk_nat (na - nb+1) za
 rw [←hna] at hn hn2 hlen hcap;rw [←hnb] at hm hlen hcap2;simp only [←hna,←hnb] at HS HL1 HL2 HC ⊢;have HNA:=zq hna;have HNB:=zq hnb;clear hna hnb
 go_enter Tryz.func202,Tryz.ntmps202
 go_wp2_with fail
 with_reducible refine HC.o.mono ?_
 rintro e w' ⟨rfl,nd,rfl⟩;clear HC
 go_wp2_with fail
 with_reducible refine (HS.o nd).mono ?_
 rintro e w' ⟨rfl,nd1,rfl⟩;clear HS
 go_wp2_with fail
 with_reducible refine (HLZ.o _).mono ?_
 rintro e w' ⟨rfl,rfl⟩;clear HLZ
 go_wp2_with fail
 with_reducible refine (HL1.o _ (h.drewN (nd+nd1))).mono ?_
 rintro e w3 ⟨gu,U,rfl,hU,hUl,hUW,hUv,hb3,hg3⟩;clear HL1;have hb3':Below w.heap.size w w3:=(zAc (bS w.heap.size w) _).trans hb3;have HB3:=zq hb3';have hg3':w.heap.size≤gu:=hg3;clear hb3 hb3' hg3
 go_wp2_with fail
 with_reducible refine (HL2.o _ (h2.below HB3.o)).mono ?_
 rintro e w4 ⟨gv,V,rfl,hV,hVl,hVW,hVv,hb4,hg4⟩;clear HL2;have hU4:=hU.below hb4;have hgu3:=hU.lt;have HB4:=zq (zAb HB3.o hb4);have hz3:=HB3.o.size;clear hb4 hU
 go_wp2_with fail
 have hnew:=zCj.new w4 (na - nb+1);have hbel:Below w4.heap.size w4 (w4.alloc (.cells (Array.replicate (na - nb+1) (.int .u32 0)) 213)):=(bS _ _).alloc (aB _) _;have hU5:=hU4.below hbel;have hV5:=hV.below hbel;have hgv4:=hV.lt;have hbw5:=zAb HB4.o hbel;obtain ⟨gq,hgq⟩:∃ gq,gq=w4.heap.size:=⟨_,rfl⟩;obtain ⟨w5,hw5⟩:∃ w5,w5=w4.alloc (.cells (Array.replicate (na - nb+1) (.int .u32 0)) 213):=⟨_,rfl⟩;rw [←hgq] at hnew;rw [←hw5] at hnew hU5 hV5 hbw5;rw [←hgq,←hw5];have hgv:gu<gv:=za;have hgqv:gv<gq:=za;have HB5:=zq hbw5;clear hbel hbw5 hw5 hgq hmk hU4 hV HB4 HB3 hgv4 hgu3 hz3 hg4 hc0 hlt2;obtain ⟨htop,hts,htp⟩:=HTOP.o;have hrn:=HNB.o;have hln:=HNA.o;have HD:=divisor hl2 za htop hts htp hs4 za hVW hVv;rw [←hrn,HVB.o] at HD
 have hbB:B32 ^ (nb - 1)≤b:=by
  have:=wval_ge (B:=B32) (l:=r) za (by rw [List.getLast?_eq_getElem?,List.getElem?_eq_getElem za] at htop;injection htop with e;omega)
  rwa [←hrn,HVB.o] at this
 have haB:a<B32 ^ na:=by
  have:=zDS hl1
  rwa [HVA.o,←hln] at this
 rw [HVA.o] at hUv;rw [HVB.o] at hVv;obtain ⟨v,hv⟩:∃ v,v=b*2 ^ s:=⟨_,rfl⟩;have hF:=first_part hUl hUv haB hbB za hlen;rw [←hv] at HD hF;obtain ⟨HD1,HD2,HD3,HD4⟩:=HD;obtain ⟨Vn,hVn⟩:∃ Vn,Vn=V.take nb:=⟨_,rfl⟩;rw [←hVn] at HD3 HD4;have hVnl:Vn.length=nb:=by rw [hVn,bE];omega
 have HVN:=zq hVn;have HVNL:=zq hVnl;have hVnW:WLt B32 Vn:=by rw [hVn];exact hVW.take nb
 have HV:=zq hv;have HD1:=zq HD1;have HD3:=zq HD3;have HD4:=zq HD4;have HF:=zq hF;have HUV:=zq hUv;have HUL:=zq hUl;clear htop hts htp hrn hln hbB haB hv hF hVn hVnl hUv hVv hUl HTOP hl1 hl2 hcap hcap2 h h2 HVA HVB HNA HNB hge hVl
 go_loopg [15] (na - nb+1) (DvRel w gu gv gq U V v na nb)
 case atStart =>
  refine ⟨U,List.replicate (na - nb+1) 0,_,rfl,?_,aB _,hU5,HUL.o,hUW,hV5,hnew,zd,WLt.zeros zCw _,rfl,(aZ HF.o).symm,?_,HB5.o⟩
  ·congr 1;omega
  ·rw [aA zd,Nat.div_eq_of_lt HF.o];rfl
 case round =>
  clear hU5 hV5 hnew;obtain ⟨U',Q,zz,hzz,rfl,hgk,hU',hUl',hUW',hV',hQ,hQl,hQW,hTk,hRm,hQt,hbw⟩:=hrel;have HTK:=zq hTk;have HRM:=zq hRm;have HQT:=zq hQt;have HQL:=zq hQl;have HUL':=zq hUl';clear hTk hRm hQt hQl hUl'
  rcases bH gk with h0 | h0
  ·subst h0
   obtain rfl:zz = -1:=hzz
   have hrem:zAi B32 U'=(a % b)*2 ^ s:=by
    have:=HRM.o
    rwa [cT,cT,HUV.o,HV.o,Nat.mul_mod_mul_right] at this
   have hquo:zAi B32 Q=a / b:=by
    have:=HQT.o
    rwa [cT,cT,HUV.o,HV.o,Nat.mul_div_mul_right _ _ (cU s)] at this
   have hrl:zAi B32 U'<B32 ^ nb:=by
    have:=HRM.o;rw [cT] at this;rw [this];exact Nat.lt_trans (bA _ HD2) HD1.o
   have HREM:=zq hrem;have HQUO:=zq hquo;have HRL:=zq hrl;clear hrem hquo hrl HTK HRM HQT HD3 HD4
   have hmk:∀ w:World,(Instr.makeSlice 154 (.int .i64 (nb:Int)) (.int .i64 (nb:Int))).run Tryz.prog w =
     .ok (.slice (some ⟨w.heap.size,0,none⟩) nb nb) (w.alloc (.cells (Array.replicate nb (.int .u32 0)) 213)):=mk_nat nb za
   go_wp2;clear hmk;have hnew:=zCj.new wr nb;have hbel:Below wr.heap.size wr (wr.alloc (.cells (Array.replicate nb (.int .u32 0)) 213)):=(bS _ _).alloc (aB _) _;have hU5:=hU'.below hbel;have hQ5:=hQ.below hbel;have hgu5:=hU'.lt;have hgq5:=hQ.lt;have hbw5:=zAb hbw hbel;have hsz5:=hbw.size;obtain ⟨gr,hgr⟩:∃ gr,gr=wr.heap.size:=⟨_,rfl⟩;obtain ⟨w5,hw5⟩:∃ w5,w5=wr.alloc (.cells (Array.replicate nb (.int .u32 0)) 213):=⟨_,rfl⟩;rw [←hgr] at hnew hgu5 hgq5 hsz5;rw [←hw5] at hnew hU5 hQ5 hbw5;rw [←hgr,←hw5];clear hgr hw5 hbel hbw hV' hU' hQ
   go_loopg [100] nb (RvRel w gu gq gr U' Q s nb)
   case atStart=>exact ⟨0,List.replicate nb 0,za,rfl,hnew,zd,WLt.zeros zCw _,vh,hU5,hQ5,hbw5,hsz5,hgu5,hgq5⟩
   case round =>
    clear hnew hU5 hQ5 hbw5;obtain ⟨k,R,hkm,rfl,hR,hRl,hRW,hVR,hU5,hQ5,hbw5,_,_,_⟩:=hrel;have HKM:=zq hkm;have HRL2:=zq hRl;have HVR:=zq hVR;clear hkm hRl hVR
    by_cases hlt:k<nb
    ·have hk1:k+1<U'.length:=by have:=HUL'.o;omega
     have hc0:=hU5.cell k za;have hc1:=hU5.cell (k+1) hk1;have hc2:=hR.cell k (by have:=HRL2.o;omega)
     have hf2:=hR.frozen k;have hx0:U'[k]<4294967296:=hUW'.get k za;have hx1:U'[k+1]<4294967296:=hUW'.get (k+1) hk1;obtain ⟨T,hT⟩:∃ T,T=U'[k]+4294967296*U'[k+1]:=⟨_,rfl⟩;have hor:bits .or .u64 (U'[k]:Int) ((U'[k+1]:Int)*4294967296)=(T:Int):=by rw [or_u64 _ _ hx0 hx1,hT];simp
     obtain ⟨D,hD⟩:∃ D,D=T / 2 ^ s:=⟨_,rfl⟩;have hDe:(T:Int) / 2 ^ s=(D:Int):=by rw [hD,Int.natCast_ediv,Int.natCast_pow];rfl
     have hDT:D≤T:=by rw [hD];exact Nat.div_le_self _ _
     have hTB:T≤18446744073709551615:=za;have HT:=zq hT;have HD:=zq hD;clear hT hD;have hsh:IntKind.u64.wrap ((U'[k+1]:Int)*4294967296)=(U'[k+1]:Int)*4294967296:=IntWalk.u64_in _ za;have hw1:IntKind.i64.wrap ((k:Int)+1)=(k:Int)+1:=IntWalk.i64_in _ za;go_wp2;have y1:(k:Int)<(na:Int)+1:=za;have y2:(k:Int)+1<(na:Int)+1:=za;have y3:(k:Int)<(nb:Int):=za;have y4:(0:Int)≤(k:Int)+1:=za;have y5:((k:Int)+1).toNat=k+1:=za;have y6:(0:Int)≤(k:Int):=za;refine wp_region_still_tail 19 zb zb ?_
     simp only [bL,List.take_zero,List.drop_succ_cons,cT]
     repeat still_step
     refine wpStill_nil ?_
     change wpList _ _ _ _ _ wr.drew
     clear y1 y2 y3 y4 y5 y6 hsh hw1;go_wp2
     go_roundg (gk - 1)
     case measure=>have:=HKM.o;omega
     case rel=>exact RvRel.step HKM.o hlt hR HRL2.o hRW hs4 hk1 hUW' HVR.o hU5 hQ5 hbw5 hsz5 hgu5 hgq5 HT.o rfl (by rw [←HD.o];rfl) ⟨1,rfl⟩
    ·obtain rfl:k=nb:=by have:=HKM.o;omega
     have HR:Hid (zAi B32 R=a % b):=by
      show _=_
      have h1:=HVR.o;have hul:=HUL'.o;have h2:zAi B32 (U'.drop (0+k))=0:=zDR (n:=k) (by rw [cT];exact HRL.o) za
      rw [bJ] at h2;have h3:=zCP B32 k U' za;rw [h2,bI,cO,HREM.o] at h3
      have h4:U'.getD k 0=0:=by
       have h5:=zDB (B:=B32) (l:=U') (i:=k) za;rw [h2] at h5;have h6:U'.getD k 0=U'[k]'(by omega):=by simp [List.getD,show k<U'.length by omega]
       rw [h6];omega
      rw [cS (by rw [HRL2.o];omega),←h3,h4,Nat.zero_mod,bI,cO] at h1
      have hp:=cU s;have h7:=aY (· / 2 ^ s) h1;simp only [Nat.mul_div_cancel _ hp] at h7;rw [Nat.add_comm,Nat.add_mul_div_left _ _ hp,Nat.div_eq_of_lt (bA _ hp),bJ] at h7;exact h7
     have hql:=HQL.o;have hrl:=HRL2.o
     go_wp2_with fail
     rw [←hql];with_reducible refine (trim_n _ _ Q _ wr za (aB _) (by have:=hQ5.rd Q.length;rwa [bM] at this) hQW (bS _ _) HQUO.o).mono ?_
     rintro e w7 ⟨A7,c7,rfl,hn7,hb7⟩;clear hql;have hR7:=hR.below hb7
     go_wp2_with fail
     rw [←hrl];with_reducible refine (trim_n _ _ R _ w7 za (aB _) (by have:=hR7.rd R.length;rwa [bM] at this) hRW (bS _ _) HR.o).mono ?_
     rintro e w8 ⟨A8,c8,rfl,hn8,hb8⟩;clear hrl;go_wp2;go_ret2
     exact ⟨A7,c7,A8,c8,rfl,hn7.below hb8,hn8,zAb (zAb hbw5 hb7) hb8⟩
  ·obtain ⟨j,rfl⟩:∃ j,gk=j+1:=⟨gk - 1,za⟩
   obtain rfl:zz=(j:Int):=za;clear hzz;have hj:j+nb≤na:=za;obtain ⟨hw1,hw2,hw3,hw4⟩:=window (n:=nb) (v:=v) HUL'.o HUL.o za HTK.o HRM.o HD1.o HD2 hUW';obtain ⟨X,hX⟩:∃ X,X=(U'.drop j).take (nb+1):=⟨_,rfl⟩;rw [←hX] at hw1;have hst:=step_n gu j (na+1 - j) (nb+1) nb (some ⟨gv,0,none⟩) U' Vn X wr.drew za (show zCj wr.drew gu U' from hU') (by rw [HUL'.o];omega) hX hUW' (by rw [HVN.o];exact (show zCj wr.drew gv V from hV').rd nb) hVnW HVNL.o za HD4.o (by rw [HD3.o,hw1];exact hw2)
   rw [HD3.o,hw1] at hst;have HST:=zq hst;have HW2:=zq hw2;have HW3:=zq hw3;have HW4:=zq hw4;have hjq:j<Q.length:=by rw [HQL.o];omega
   have hc1:=hQ.cell j hjq;have hf1:=hQ.frozen j;clear hst hw1 hw2 hw3 hw4 hX;go_wp2;have hs1:IntKind.i64.wrap ((j:Int)+(nb:Int))=(j:Int)+(nb:Int):=IntWalk.i64_in _ za;have hs2:IntKind.i64.wrap ((j:Int)+(nb:Int)+1)=(j:Int)+(nb:Int)+1:=IntWalk.i64_in _ za;have hji:(j:Int)<((na - nb+1:Nat):Int):=za;have hji2:(j:Int)<((na - nb:Nat):Int)+1:=za;have hji3:(0:Int)≤(j:Int):=za;have hcw:=cutW gu j nb (na+1) za;have hcv:=cutV (some ⟨gv,0,none⟩) nb (nb+1) za
   go_region_held3 (fun _=>True) (trivial)
    (first
     | ((go_at_call 216;(with_reducible refine HST.o.mono ?_);rintro e w6 ⟨rfl,W,hWl,hWW,hWv,hU6,hg6⟩;have hQ6:zCj w6 gq Q:=(hg6.block gq hQ.lt (fun e=>vy)).trans hQ;have hc6:=hQ6.cell j hjq;have hf6:=hQ6.frozen j)))
   have hbw6:Below w.heap.size w w6:=⟨hg6.os.trans hbw.os,hg6.tape.trans hbw.tape,hg6.output.trans hbw.output,cV hbw.size hg6.size,fun i hi=>(hg6.block i (cX hi hbw.size) (fun e=>vy)).trans (hbw.block i hi)⟩
   have hV6:zCj w6 gv V:=(hg6.block gv hV'.lt (fun e=>vy)).trans hV'
   clear hs1 hs2 hcw hcv hji hji2 hji3 hc1 hf1 hc6 hf6 hg6;go_wp2
   go_roundg j
   case measure=>omega
   case rel =>
    clear HST;have hy:=Nat.div_add_mod' (zAi B32 (U.drop (j+1))) v;have hn:=div_next (B:=B32) (v:=v) (x:=U[j]'(by have:=HUL.o;omega)) (r:=zAi B32 (U.drop (j+1)) % v) HD2 (zAi B32 (U.drop (j+1)) / v)
    rw [hy] at hn;have hUj:zAi B32 (U.drop j)=U[j]'(by have:=HUL.o;omega)+B32*zAi B32 (U.drop (j+1)):=zDB (by have:=HUL.o;omega)
    rw [←hUj,←HW4.o] at hn;have hul:=HUL'.o;have hql:=HQL.o;have htk:(U'.take j).length=j:=by rw [bE];omega
    refine ⟨U'.take j++W++U'.drop (j+(nb+1)),Q.set j (zAi B32 (U'.drop j) / v),_,rfl,rfl,za,hU6.far (show gu≠gq by omega) _,?_,((hUW'.take j).append hWW).append (hUW'.drop _),hV6.far (show gv≠gq by omega) _,hQ6.set j _,by simpa using hql,hQW.set (quot_lt HW2.o) j,?_,?_,?_,hbw6.setCell (show w.heap.size≤gq by omega) _⟩
    ·rw [cY,cY,htk,hWl,bK];omega
    ·rw [cC,List.take_append_of_le_length za,List.take_take,Nat.min_self]
     have h1:=aY (List.take j) HTK.o
     rwa [List.take_take,List.take_take,bF za] at h1
    ·rw [wval_window za hWl HW3.o,hWv,hn.2]
    ·rw [zEk Q j _ hjq,zAi,HQT.o,hn.1,Nat.add_comm]
theorem Div_c (A A2:Option Addr) (c c2 a b:Nat) (w:World) (h:Nt w A c a) (h2:Nt w A2 c2 b) (hn:(zAe B32 a).length≤400000000) (hb:0<b) :
  Calls Tryz.prog 202 #[ntV A c a,ntV A2 c2 b] w (GivesNN (a / b) (a % b) w):=by
 rcases bO a b with hlt | hge
 ·exact Div_lt A A2 c c2 a b w h h2 hn hlt
 ·by_cases h3:(zAe B32 a).length≤2
  ·exact Div_small A A2 c c2 a b w h h2 h3 hge hb
  ·have h4:(zAe B32 b).length≠0:=fun e=>by
    have:=(zDz zAJ (n:=b)).1 (cZ e);omega
   by_cases h5:(zAe B32 b).length=1
   ·exact Div_word A A2 c c2 a b w h h2 hn za h5 hge
   ·exact Div_long A A2 c c2 a b w h h2 hn za za hge
def GcRel (w:World) (G N:Nat) (m:Nat) (av bv:Value) (wr:World):Prop :=
 ∃ (A:Option Addr) (c:Nat) (A2:Option Addr) (c2 aa:Nat),av=ntV A c aa∧bv=ntV A2 c2 m∧Nt wr A c aa∧Nt wr A2 c2 m∧(zAe B32 aa).length≤N∧(zAe B32 m).length≤N∧Nat.gcd aa m=G∧Below w.heap.size w wr
def GcRel2 (w:World) (G:Nat) (m:Nat) (xv yv:Value) (wr:World):Prop :=
 ∃ xx:Nat,xv = .int .u64 (xx:Int)∧yv = .int .u64 (m:Int)∧xx≤18446744073709551615∧m≤18446744073709551615∧Nat.gcd xx m=G∧Below w.heap.size w wr
theorem gcd_c (A A2:Option Addr) (c c2 a b:Nat) (w:World) (h:Nt w A c a) (h2:Nt w A2 c2 b) (hn:(zAe B32 a).length≤400000000) (hn2:(zAe B32 b).length≤400000000) :
  Calls Tryz.prog 201 #[ntV A c a,ntV A2 c2 b] w (GivesN (Nat.gcd a b) w):=by
 go_enter Tryz.func201,Tryz.ntmps201
 go_wp2
 go_loopg [0,1] b (GcRel w (Nat.gcd a b) 400000000)
 case atStart=>exact ⟨A,c,A2,c2,a,rfl,rfl,h,h2,hn,hn2,rfl,bS _ _⟩
 case round =>
  clear h h2 hn hn2;obtain ⟨A3,c3,A4,c4,aa,rfl,rfl,h,h2,hn,hn2,hG,hb⟩:=hrel;have HG:=zq hG;have HB:=zq hb;clear hG hb
  rcases bH gk with h0 | h0
  ·subst h0
   go_wp2;go_ret
   have e:aa=Nat.gcd a b:=by rw [←HG.o,Nat.gcd_zero_right]
   rw [←e];exact ⟨A3,c3,rfl,h,HB.o⟩
  ·have hl:0<(zAe B32 gk).length:=by
    rcases bH (zAe B32 gk).length with e | e
    ·have:=(zDz zAJ (n:=gk)).1 (cZ e)
     omega
    ·exact e
   by_cases hs:(zAe B32 aa).length≤2∧(zAe B32 gk).length≤2
   ·obtain ⟨hs1,hs2⟩:=hs
    have la:=small_lt hs1;have lb:=small_lt hs2
    go_wp2_with fail
    with_reducible refine (zDy A3 c3 aa _ h hs1).mono ?_
    rintro e w' ⟨rfl,nd,rfl⟩
    go_wp2_with fail
    with_reducible refine (zDy A4 c4 gk _ (h2.drewN nd) hs2).mono ?_
    rintro e w' ⟨rfl,nd2,rfl⟩;go_wp2;have HB2:Hid (Below w.heap.size w (wr.drewN (nd+nd2))):=zAc HB.o _;obtain ⟨wo,hwo⟩:∃ wo:World,wo=wr.drewN (nd+nd2):=⟨_,rfl⟩;rw [←hwo] at HB2 ⊢;clear hwo HB h0 hl
    go_loopg [5,7] gk (GcRel2 w (Nat.gcd a b))
    case atStart=>exact ⟨aa,rfl,rfl,la,lb,HG.o,HB2.o⟩
    case round =>
     clear HG la lb HB2;obtain ⟨xx,rfl,rfl,hx,hy,hG2,hb2⟩:=hrel;have HG2:=zq hG2;clear hG2
     rcases bH gk with h0 | h0
     ·subst h0
      go_wp2_with fail
      have e:xx=Nat.gcd a b:=by rw [←HG2.o,Nat.gcd_zero_right]
      have HE:=zq e;clear e;with_reducible refine (natOf_c xx _ za).mono ?_
      rintro e w5 ⟨A5,c5,rfl,h5,hb5⟩;go_wp2;go_ret
      rw [←HE.o];exact ⟨A5,c5,rfl,h5,zAb hb2 hb5⟩
     ·have hbz:¬ gk=0:=by omega
      obtain ⟨r,hr⟩:∃ r,xx % gk=r:=⟨_,rfl⟩;have hrl:r<gk:=by rw [←hr];exact bA _ h0
      have e2:(xx:Int).tmod (gk:Int)=(r:Int):=by rw [IntWalk.rem_in _ _ za,←hr];exact (Int.natCast_emod xx gk).symm
      have e4:IntKind.u64.wrap (r:Int)=(r:Int):=IntWalk.u64_in _ za;have HR:=zq hr;clear hr;go_wp2
      go_quiet (fail)
      clear e2 e4 hbz;go_wp2
      go_roundg r
      case measure=>exact hrl
      case rel=>exact ⟨gk,rfl,rfl,hy,za,by rw [←HG2.o,←HR.o,←gcd_step],zAc hb2 _⟩
   ·have hsa:=fun nd:Nat=>small_c A3 c3 aa (wr.drewN nd) (h.drewN nd) za
    have hsb:=fun nd:Nat=>small_c A4 c4 gk (wr.drewN nd) (h2.drewN nd) za
    have hd:=fun nd:Nat=>Div_c A3 A4 c3 c4 aa gk (wr.drewN nd) (h.drewN nd) (h2.drewN nd) hn h0
    have hsa0:=small_c A3 c3 aa wr h za;unfold smV at hsa hsb hsa0
    have HLB:Hid ((zAe B32 (aa % gk)).length≤400000000):=by
     show _≤_
     exact cV (zAL zAJ (bG (bA aa h0))) hn2
    have hq:(decide ((zAe B32 aa).length≤2)&&decide ((zAe B32 gk).length≤2))=false:=by
     rw [←Bool.decide_and];exact cQ hs
    generalize decide ((zAe B32 aa).length≤2)=p1 at *;generalize decide ((zAe B32 gk).length≤2)=p2 at *;generalize (if (zAe B32 aa).length≤2 then (aa:Int) else 0)=v1 at *
    generalize (if (zAe B32 gk).length≤2 then (gk:Int) else 0)=v2 at *
    have HSA:=zq hsa;have HSB:=zq hsb;have HSA0:=zq hsa0;have HD:=zq hd;clear hsa hsb hsa0 hd hs;have HQ:=zq hq;clear hq
    cases p1
    case' true =>
     obtain rfl:p2=false:=by have:=HQ.o;simpa using this
    all_goals
     go_wp2_with fail
     with_reducible refine HSA0.o.mono ?_
     rintro e w' ⟨rfl,nd,rfl⟩
     go_wp2_with fail
     with_reducible refine (HSB.o nd).mono ?_
     rintro e w' ⟨rfl,nd2,rfl⟩
     go_wp2_with fail
     with_reducible refine (HD.o (nd+nd2)).mono ?_
     rintro e w6 ⟨A5,c5,A6,c6,rfl,h5,h6,hb6⟩;have hb7:Below wr.heap.size wr w6:=(zAc (bS wr.heap.size wr) _).trans hb6;have hn7:=h2.below hb7;have HB7:=zq (zAb HB.o hb7);clear hb6 hb7 h5;go_wp2
     go_roundg (aa % gk)
     case measure=>exact bA _ h0
     case rel=>exact ⟨A4,c4,A6,c6,gk,rfl,rfl,hn7,h6,hn2,HLB.o,by rw [←HG.o,←gcd_step],HB7.o⟩
end Go.Proofs.YtoaelidmmcbkfaaGreatDoor
namespace Dw
open Go Go.RowKit
theorem zAp {P:Program} {α:Type} {enc:α→List Value} {k:Nat} {ops:Array Oper} {rest:List Oper} {o:Oper} {a:Act} {w:World} {Q:Exit→Act→World→Prop}
  {e:TypeId} {z:Value} {bytes:Nat} (s x:Operand) (t:TypeId) (hT:ElemT P t e z k bytes) (hgd:o.guard=none) (ho:o.op = .call { callee:=.builtin .append,args:=#[s,x],argTypes:=#[t,t] })
  (base:Nat) (v:Value) (l:List α) (hs:a.eval s=v) (hown:zAF enc k w base e v l)
  (g cp:Nat) (y:α) (hx:a.eval x = .slice (some ⟨g,0,none⟩) 1 cp) (hnew:w.heap[g]?=some (.cells (enc y).toArray e (0,0)))
  (hk:(enc y).length=k) (hone:∀ u∈enc y,u.oneCell'=true) (hlen:l.length+1≤maxLen) (hbytes:(l.length+1)*bytes≤140737488355328) (hbase:base≤w.heap.size)
  (h:∀ A' c' w',zAF enc k w' base e (.slice A' (l.length+1) c') (l++[y])→w.grownBy w' v.ownBlock→Below base w w'→((Value.slice A' (l.length+1) c').ownBlock=v.ownBlock∨(Value.slice A' (l.length+1) c').ownBlock=some w.heap.size) →
   wpList P ops Q rest (a.put o.dst (.slice A' (l.length+1) c')) w'):wpList P ops Q (o::rest) a w:=by
 obtain ⟨i,hi,hz0,hz1,hz2⟩:=info_parts hT.info;refine wpList_append_own_at _ hgd s x t ho base e i z k bytes hT.ty hi hz0 hz1 hz2 hT.zs hT.pos v l.length (l.flatMap enc) hs hown ⟨g,0,none⟩ 1 cp (enc y) hx (by rw [hk];omega) ?_ hone hlen hbytes hbase ?_
 ·intro j u hj
  exact World.news_of_block hnew j u xg
 ·intro v' w' h1 h2 _ h4
  have ho':zAF enc k w' base e v' (l++[y]):=by
   unfold zAF
   simpa using h1
  obtain ⟨A',c',rfl⟩:∃ A' c',v' = .slice A' (l.length+1) c':=by
   rcases h1.2 with ⟨rfl,hn⟩ | ⟨g,cap,cur,rfl,_⟩
   ·omega
   ·exact ⟨_,_,rfl⟩
  exact h A' c' w' ho' h2 ((bS _ _).grown h2 hbase fun j hj=>(bT hown j hj).1) h4
end Dw
namespace Go.Proofs.YtoaelidmmcbkfaaGreatDoor
open Go.RowKit Dw
def encU:Nat→List Value:=fun n=>[u32V n]
abbrev OwnU (w:World) (B:Nat) (v:Value) (L:List Nat):Prop:=zAF encU 1 w B 213 v L
theorem ownU_map (L:List Nat):L.flatMap encU=L.map u32V:=flat1 L
theorem OwnU.get {w:World} {B g c n:Nat} {L:List Nat} (h:OwnU w B (.slice (some ⟨g,0,none⟩) n c) L) (hn:n=L.length) (i:Nat) (hi:i<L.length):w.cell? ⟨g,i,none⟩=some (.int .u32 ((L[i]:Nat):Int))∧w.frozen? ⟨g,i,none⟩=false:=by
 subst hn;unfold OwnU zAF at h;rw [ownU_map] at h;have h1:=World.ownsRow.cellAt h i za;exact ⟨by rw [h1];simp [hi,u32V],World.ownsRow.frozenAt h i⟩
theorem OwnU.put {w:World} {B g c n:Nat} {L:List Nat} (h:OwnU w B (.slice (some ⟨g,0,none⟩) n c) L) (hn:n=L.length) (i x:Nat) :
  OwnU (w.setCell ⟨g,i,none⟩ (.int .u32 (x:Int))) B (.slice (some ⟨g,0,none⟩) n c) (L.set i x):=by
 subst hn;unfold OwnU zAF at h ⊢;rw [ownU_map] at h ⊢;have h1:=(World.ownsRow.stored h i (.int .u32 (x:Int))).1;rw [List.map_set,List.length_set];exact h1
theorem words_of {L:List Nat} (h:WLt B32 L) (h2:L=[]∨B32 ^ (L.length - 1)≤zAi B32 L):L=zAe B32 (zAi B32 L):=by
 rw [←zCt zAJ h]
 rcases h2 with rfl | h2
 ·rfl
 ·rcases bH L.length with h0 | h0
  ·rw [cZ h0];rfl
  ·have e:L.length - 1<L.length:=by omega
   have h3:=zEv (L:=L) (k:=L.length - 1) e;rw [show L.length - 1+1=L.length by omega,bM] at h3
   refine (h3 fun h0=>?_).symm
   have h4:=zAH (B:=B32) (l:=L) (i:=L.length - 1) e;rw [h0,show L.length - 1+1=L.length by omega,bM,bI,cO] at h4
   have h5:=zDS (h.take (L.length - 1));rw [bE,bF za] at h5;omega
theorem dgB_of {c:UInt8} (h:dgB c=true):48≤c.toNat∧c.toNat≤57:=by
 unfold dgB at h
 simpa using h
theorem decV_snoc (l:List UInt8) (c:UInt8):zBQ (l++[c])=10*zBQ l+(c.toNat - 48):=by
 rw [zEi];have:zBQ [c]=c.toNat - 48:=by simp [zBQ]
 rw [this];simp;omega
theorem decV_dg {l:List UInt8} (h:l.all dgB=true):zBQ l<10 ^ l.length :=
 decV_lt fun c hc=>by have:=dgB_of (List.all_eq_true.1 h c hc);omega
theorem last_words {n:Nat}:zAe B32 n=[]∨B32 ^ ((zAe B32 n).length - 1)≤n:=by
 rcases bH (zAe B32 n).length with h0 | h0
 ·exact .inl (cZ h0)
 ·have:=wval_ge (B:=B32) h0 (zDr zAJ h0)
  rw [zAw zAJ] at this;exact .inr this
theorem scale_step {L L2:List Nat} {i cy sc c0 t:Nat} (hi:i<L.length) (hl:L2.length=L.length) (hd:L2.drop i=L.drop i) (ht:t=cy+sc*L[i]) (hV:zAi B32 (L2.take i)+B32 ^ i*cy=zAi B32 (L.take i)*sc+c0) :
  zAi B32 ((L2.set i (t % 4294967296)).take (i+1))+B32 ^ (i+1)*(t / 4294967296)=zAi B32 (L.take (i+1))*sc+c0∧(L2.set i (t % 4294967296)).drop (i+1)=L.drop (i+1):=by
 refine ⟨?_,?_⟩
 ·rw [wval_put za,zAH hi]
  have e:=scale_col (B:=B32) (i:=i) (o:=zAi B32 (L2.take i)) ht;rw [zCK] at e ⊢;rw [zCK] at hV;rw [e,hV,aV,aU,aT L[i] sc];omega
 ·rw [List.drop_set_of_lt (bW i)]
  have h1:=aY (List.drop 1) hd
  rwa [bY,bY] at h1
theorem scale_words {L2:List Nat} {n cy N:Nat} (hW:WLt B32 L2) (hl:L2.length=(zAe B32 n).length) (hV:zAi B32 L2+B32 ^ (zAe B32 n).length*cy=N) (hn:n≤N) (hcy:cy<B32) :
  (cy=0→L2=zAe B32 N)∧(0<cy→L2++[cy]=zAe B32 N):=by
 refine ⟨fun h=>?_,fun h=>?_⟩
 ·rw [h,bI,cO] at hV
  rw [←hV];refine words_of hW ?_
  rcases last_words (n:=n) with e | e
  ·rw [e] at hl
   exact .inl (cZ hl)
  ·rw [hl,hV]
   exact .inr (cV e hn)
 ·have e:zAi B32 (L2++[cy])=N:=by rw [zAY,zBR,hl,hV]
  rw [←e];refine words_of (hW.append (WLt.cons hcy WLt.nil)) (.inr ?_)
  rw [zAY,zBR];have h2:=bC (B32 ^ L2.length) h;rw [bP] at h2;have e3:(L2++[cy]).length - 1=L2.length:=zd;rw [e3];exact cV h2 (Nat.le_add_left _ _)
def NtRel (w:World) (s:BA) (m:Nat) (sv av:Value) (wr:World):Prop :=
 ∃ (t:BA) (pre:List UInt8) (A:Option Addr) (c:Nat),sv = .string t∧m=t.size∧pre++t.data.toList=s.data.toList∧av=ntV A c (zBQ pre)∧OwnU wr w.heap.size (ntV A c (zBQ pre)) (zAe B32 (zBQ pre))∧Below w.heap.size w wr
def NtRel2 (w1:World) (t:BA) (k:Nat) (m:Nat) (cv scv iv:Value) (wr:World):Prop :=
 ∃ i:Nat,i+m=k∧iv = .int .i64 i∧cv = .int .u64 ((zBQ (t.data.toList.take i):Nat):Int)∧scv = .int .u64 ((10 ^ i:Nat):Int)∧wr=w1
def NtRel3 (w:World) (A:Option Addr) (c:Nat) (L:List Nat) (c0 sc:Nat) (m:Nat) (cv iv:Value) (wr:World):Prop :=
 ∃ (i cy:Nat) (L2:List Nat),i+m=L.length∧iv = .int .i64 i∧cv = .int .u64 (cy:Int)∧cy≤1000000000∧L2.length=L.length∧WLt B32 L2∧L2.drop i=L.drop i ∧
  zAi B32 (L2.take i)+B32 ^ i*cy=zAi B32 (L.take i)*sc+c0∧OwnU wr w.heap.size (.slice A L.length c) L2∧Below w.heap.size w wr
theorem OwnU.nt {w:World} {B c n:Nat} {A:Option Addr} (h:OwnU w B (ntV A c n) (zAe B32 n)):Nt w A c n:=by
 have hcap:(zAe B32 n).length≤c:=by
  rcases h.2 with ⟨h',hn⟩ | ⟨g',cap',cur,h',_,_,hnc,_⟩
  ·rw [hn];exact aX _
  ·simp only [ntV,Value.slice.injEq] at h'
   omega
 obtain ⟨A',c',hv,hr⟩:=zAF.rd1 (f:=u32V) h;simp only [ntV,Value.slice.injEq,true_and] at hv;obtain ⟨rfl,rfl⟩:=hv;exact ⟨hr,hcap⟩
theorem zCl (s:BA) (k:Nat) (h:k<s.size):s.data.toList[k]'(by simpa using h)=s[k]:=rfl
theorem decV_take {t:BA} {i:Nat} (h:i<t.size):zBQ (t.data.toList.take (i+1))=10*zBQ (t.data.toList.take i)+(t[i].toNat - 48):=by
 rw [bD qj,decV_snoc,zCl t i h]
theorem natText_c (s:BA) (w:World) (hd:s.data.toList.all dgB=true) (hs:s.size≤2000) :
  Calls Tryz.prog 145 #[.string s] w (GivesN (zAK s) w):=by
 go_enter Tryz.func145,Tryz.ntmps145
 go_wp2
 go_loopg [0,3] s.size (NtRel w s)
 case atStart=>exact ⟨s,[],none,0,rfl,rfl,rfl,rfl,zAF.nil encU 1 w w.heap.size 213,bS _ _⟩
 case round =>
  obtain ⟨t,pre,A,c,rfl,hm,hpre,rfl,hown,hbw⟩:=hrel;have HM:=zq hm;have HPRE:=zq hpre
  have htd:t.data.toList.all dgB=true:=by
   rw [←hpre,List.all_append,dA] at hd;exact hd.2
  have hpd:pre.all dgB=true:=by
   rw [←hpre,List.all_append,dA] at hd;exact hd.1
  have hlen:pre.length+t.size≤2000:=by
   have:=aY List.length hpre;rw [cY] at this;have e1:t.data.toList.length=t.size:=zd;have e2:s.data.toList.length=s.size:=zd;omega
  have HTD:=zq htd;have HPD:=zq hpd
  have hwl:(zAe B32 (zBQ pre)).length≤2000:=by
   have h1:=decV_dg hpd;have h2:10 ^ pre.length≤B32 ^ pre.length:=Nat.pow_le_pow_left zc _;have:=zBn zAJ (cX h1 h2);omega
  clear hm hpre htd hpd
  rcases bH t.size with h0 | h0
  ·go_wp2
   go_ret
   have e:zAK s=zBQ pre:=by
    unfold zAK;rw [←HPRE.o,cZ (l:=t.data.toList) (by simpa using h0),aD]
   rw [e];exact ⟨A,c,rfl,hown.nt,hbw⟩
  ·obtain ⟨k,hk⟩:∃ k,k=min 9 t.size:=⟨_,rfl⟩
   have hmin:min (9:Int) (t.size:Int)=(k:Int):=by rw [hk];omega
   have hk1:k≤9:=za;have hk2:k≤t.size:=za;have hk3:1≤k:=za;clear hk;go_wp2;obtain ⟨wo,hwo⟩:∃ wo:World,wo=wr:=⟨_,rfl⟩;subst hwo;clear hmin
   go_loopg [5,6,16] k (NtRel2 wo t k)
   case atStart=>exact ⟨0,za,rfl,rfl,rfl,rfl⟩
   case round =>
    obtain ⟨i,him,rfl,rfl,rfl,hw⟩:=hrel;subst hw;have HIM:=zq him;clear him;obtain ⟨cc,hcc⟩:∃ cc,zBQ (t.data.toList.take i)=cc:=⟨_,rfl⟩;obtain ⟨sc,hsc⟩:∃ sc,10 ^ i=sc:=⟨_,rfl⟩;rw [hcc,hsc]
    have hcsc:cc<sc:=by
     have h1:=decV_dg (l:=t.data.toList.take i) (by
      rw [List.all_eq_true];exact fun x hx=>List.all_eq_true.1 HTD.o x (List.mem_of_mem_take hx))
     rw [bE] at h1;have e2:t.data.toList.length=t.size:=zd;have e3:min i t.data.toList.length=i:=by have:=HIM.o;omega
     rw [e3,hcc,hsc] at h1;exact h1
    by_cases hlt:i<k
    ·have hsc9:sc≤100000000:=by
      rw [←hsc];exact cV (bN za (show i≤8 by omega)) zc
     have hit:i<t.size:=za;have hdg:=dgB_of (List.all_eq_true.1 HTD.o t[i] (by rw [←zCl t i hit];exact aI _))
     obtain ⟨hd1,hd2⟩:=hdg;have HCC:=zq hcc;have HSC:=zq hsc;clear hcc hsc;go_wp2
     go_roundg (gk - 1)
     case measure=>have:=HIM.o;omega
     case rel =>
      refine ⟨i+1,by have:=HIM.o;omega,zn,?_,?_,rfl⟩
      ·rw [decV_take hit,HCC.o]
       congr 1
       omega
      ·rw [aR,HSC.o]
       congr 1
       omega
    ·obtain rfl:i=k:=by have:=HIM.o;omega
     have hsc9:sc≤1000000000:=by
      rw [←hsc];exact cV (bN za hk1) zc
     have hsc1:1≤sc:=by rw [←hsc];exact Nat.pow_pos za
     have HNV:Hid (zBQ (pre++t.data.toList.take i)=zBQ pre*sc+cc):=by
      show _=_
      have e2:(t.data.toList.take i).length=i:=by rw [bE];simp;omega
      rw [zEi,e2,hcc,hsc]
     have HNX:Hid ((pre++t.data.toList.take i)++(t.extract i t.size).data.toList=s.data.toList):=by
      show _=_
      rw [cC,Lib.extract_data,cS (l:=List.drop i t.data.toList) (by rw [bK];simp),List.take_append_drop]
      exact HPRE.o
     have hxs:(t.extract i t.size).size=t.size - i:=zd;have HXS:=zq hxs;have hL:=zBb zAJ (zBQ pre);have HWV:=zq (zAw zAJ (zBQ pre))
     have HLW:Hid (∀ (L2:List Nat) (cy:Nat),WLt B32 L2→L2.length=(zAe B32 (zBQ pre)).length→zAi B32 L2+B32 ^ (zAe B32 (zBQ pre)).length*cy=zBQ pre*sc+cc→cy<B32→(cy=0→L2=zAe B32 (zBQ pre*sc+cc))∧(0<cy→L2++[cy]=zAe B32 (zBQ pre*sc+cc))) :=
      fun L2 cy h1 h2 h3 h4=>scale_words h1 h2 h3 (cV (Nat.le_mul_of_pos_right _ hsc1) (Nat.le_add_right _ _)) h4
     clear hcc hsc hxs;unfold ntV at hown ⊢;obtain ⟨L,hLd⟩:∃ L,zAe B32 (zBQ pre)=L:=⟨_,rfl⟩;rw [hLd] at hown hL HWV HLW hwl;rw [hLd];have HLD:=zq hLd;clear hLd;go_wp2;have HBW:=zq hbw;clear hbw
     go_loopg [5,35] L.length (NtRel3 w A c L cc sc)
     case atStart=>exact ⟨0,cc,L,za,rfl,rfl,za,rfl,hL,rfl,vh,hown,HBW.o⟩
     case round =>
      clear hown HBW;obtain ⟨j,cy,L2,hjm,rfl,rfl,hcy,hl2,hW2,hdr,hV2,hown,hbw⟩:=hrel;have HJM:=zq hjm;have HL2:=zq hl2;have HDR:=zq hdr;have HV2:=zq hV2;clear hjm hl2 hdr hV2
      by_cases hj:j<L.length
      ·have hj2:j<L2.length:=by have:=HL2.o;omega
       have e2:L2[j]=L[j]:=by
        have h1:=HDR.o;rw [aF hj2,aF hj] at h1
        injection h1
       obtain ⟨g,cap',hv,_,hglt⟩:=World.ownsRow.form hown za;simp only [Value.slice.injEq] at hv;obtain ⟨rfl,_,_⟩:=hv;obtain ⟨hc1,hf1⟩:=OwnU.get hown HL2.o.symm j hj2;rw [e2] at hc1;have hx:L[j]<4294967296:=hL.get j hj;obtain ⟨p,hp⟩:∃ p,p=sc*L[j]:=⟨_,rfl⟩;have hpB:p≤1000000000*4294967295:=by rw [hp];exact Nat.mul_le_mul hsc9 za
       have hpe:(sc:Int)*(L[j]:Int)=(p:Int):=by rw [hp];exact (cJ _ _).symm
       obtain ⟨T,hT⟩:∃ T,T=cy+p:=⟨_,rfl⟩;have hTe:(cy:Int)+(p:Int)=(T:Int):=by rw [hT];exact (Int.natCast_add _ _).symm
       have hTB:T≤4294967296000000000:=za;have hst:=scale_step (t:=T) hj HL2.o HDR.o (by rw [hT,hp]) HV2.o
       have HST:=zq hst;clear hp hT hst e2 hpB;go_wp2
       go_roundg (gk - 1)
       case measure=>have:=HJM.o;omega
       case rel =>
        refine ⟨j+1,T / 4294967296,L2.set j (T % 4294967296),qe,zn,rfl,za,by rw [List.length_set];exact HL2.o,hW2.set (modB T) j,HST.o.2,HST.o.1,OwnU.put hown HL2.o.symm j _,hbw.setCell (bT hown g (by simp [Value.ownBlock])).1 _⟩
      ·obtain rfl:j=L.length:=by have:=HJM.o;omega
       have hres:=HLW.o L2 cy hW2 HL2.o (by
        have h1:=HV2.o;rw [cS (by have:=HL2.o;omega),cS (aB _),HWV.o] at h1
        exact h1) jj
       have HRES:=zq hres;clear hres
       rcases bH cy with h0 | h0
       ·subst h0
        have hlw:=HRES.o.1 rfl;have HLW2:=zq hlw;clear hlw;go_wp2
        go_roundg (t.size - i)
        case measure=>have:=HM.o;omega
        case rel =>
         have e:=HLW2.o;have e2:=HL2.o;refine ⟨t.extract i t.size,pre++t.data.toList.take i,A,c,rfl,HXS.o.symm,HNX.o,?_,?_,hbw⟩
         ·rw [HNV.o]
          show Value.slice A L.length c = .slice A (zAe B32 (zBQ pre*sc+cc)).length c
          rw [←e,e2]
         ·rw [HNV.o]
          show OwnU wr w.heap.size (.slice A (zAe B32 (zBQ pre*sc+cc)).length c) (zAe B32 (zBQ pre*sc+cc))
          rw [←e,e2];exact hown
       ·have hlw:=HRES.o.2 h0
        have HLW2:=zq hlw;have hl2:=HL2.o;clear hlw;rw [←hl2] at hown hwl ⊢
        go_wp2_with (at_builtin;refine zAp _ _ _ elNat rfl rfl w.heap.size _ L2 rfl (zAF.alloc hown _) wr.heap.size 1 cy rfl (cI _ _) rfl (by simp [encU,u32V,Value.oneCell']) zt za (by simp;exact Nat.le_succ_of_le hbw.size) ?_;intro A7 c7 w7 hown7 hg7 hb7 hat7)
        have hbw7:=(hbw.alloc hbw.size _).trans hb7;go_wp2
        go_roundg (t.size - i)
        case measure=>have:=HM.o;omega
        case rel =>
         have e:=HLW2.o;have e3:(zAe B32 (zBQ pre*sc+cc)).length=L2.length+1:=by rw [←e];simp
         refine ⟨t.extract i t.size,pre++t.data.toList.take i,A7,c7,rfl,HXS.o.symm,HNX.o,?_,?_,hbw7⟩
         ·rw [HNV.o]
          show Value.slice A7 (L.length+1) c7 = .slice A7 (zAe B32 (zBQ pre*sc+cc)).length c7
          rw [e3,HL2.o]
         ·rw [HNV.o]
          show OwnU w7 w.heap.size (.slice A7 (zAe B32 (zBQ pre*sc+cc)).length c7) (zAe B32 (zBQ pre*sc+cc))
          rw [e3,←e];exact hown7
def LiesRel (w:World) (l:List Rg) (a:List Ar) (res:Bool) (m:Nat) (name:Value) (wr:World):Prop :=
 wr=w∧((∃ j,∃ hj:j<l.length,name = .string (l[j]).nm∧upN l m j=none∧liesF l a m j=res)∨(name = .string emp∧res=false))
def LiesRel2 (w:World) (a:List Ar) (nm:BA) (m:Nat) (i:Value) (wr:World):Prop :=
 wr=w∧∃ k:Nat,k+m=a.length∧i = .int .i64 k∧∀ j (h:j<a.length),j<k→(a[j]).rg≠nm
theorem lies_c (A A2:Option Addr) (c c2:Nat) (l:List Rg) (a:List Ar) (w:World) (g:GoodR l) (h:Rgs w A l) (h2:Ars w A2 a) (hn2:a.length≤100) (i:Nat) (hi:i<l.length) :
  Calls Tryz.prog 164 #[.slice A l.length c,.slice A2 a.length c2,.string (l[i]).nm] w (zAr (.bool (lies l a i)) w):=by
 have hn:=g.len;generalize hres:lies l a i=res;have HR:=zq hres;clear hres
 go_enter Tryz.func164,Tryz.ntmps164
 go_wp2
 go_loopg [2] (l.length+2) (LiesRel w l a res)
 case atStart=>exact ⟨rfl,.inl ⟨i,hi,rfl,g.ends i hi,HR.o⟩⟩
 case round =>
  obtain ⟨hw,hrel⟩:=hrel;subst hw
  rcases hrel with ⟨j,hj,rfl,hup,hun⟩ | ⟨rfl,hres⟩
  ·have HU:=zq hup
   have HN:=zq hun;clear hup hun;have hne:=zAk (g.nm_ne hj)
   obtain ⟨m,rfl⟩:∃ m,gk=m+1:=by
    cases gk with
    | zero=>exact absurd HU.o (by simp [upN])
    | succ m=>exact ⟨m,rfl⟩
   go_wp2;obtain ⟨wo,hwo⟩:∃ wo:World,wo=wr:=⟨_,rfl⟩;subst hwo
   go_loopg [7] a.length (LiesRel2 wo a (l[j]).nm)
   case atStart=>exact ⟨rfl,0,za,rfl,fun j _ hj=>absurd hj za⟩
   case round =>
    obtain ⟨hw,k,hk,rfl,hpre⟩:=hrel;subst hw;have HK:=zq hk;have HP:=zq hpre;have hk1:k≤a.length:=za;clear hk hpre
    by_cases hlt:k<a.length
    ·obtain ⟨b2,o2,rfl,hb2,hc2⟩:=h2.at_ za
     have hc0:=(hc2 k hlt).1;have hc1:=(hc2 k hlt).2;clear hc2
     by_cases hq:(a[k]).rg=(l[j]).nm
     ·have hqb:=zAy hq
      have hf:=findA_some hlt hq (fun j hj hjk=>HP.o j hj hjk)
      have hres:res = !(a[k]).out:=by
       rw [←HN.o,liesF,zBF hj,hf]
      have HS:=zq hres;clear hres hf hq;go_wp2;go_ret
      exact zAr.mk (zAu HS.o.symm) rfl
     ·have hqb:=zAo hq
      have HQ:=zq hq;clear hq;go_wp2
      go_roundg (gk - 1)
      case measure=>have:=HK.o;omega
      case rel =>
       refine ⟨rfl,k+1,zl,zn,fun j hj hjk=>?_⟩
       rcases bO j k with h1 | h1
       ·exact HP.o j hj h1
       ·obtain rfl:j=k:=by omega
        exact HQ.o
    ·have hfn:findA a (nmAt l j)=none:=findA_none fun t ht=>by rw [zBF hj];exact HP.o t ht za
     have HF:=zq hfn;clear hfn;have hix:idxI l (l[j]).nm=(j:Int):=by unfold idxI;rw [g.inc.idx hj]
     have HX:=zq hix;clear hix;obtain ⟨b,o,rfl,hb,hc⟩:=h.at_ za;have hc1:=(hc j hj).2;clear hc
     go_wp2_with fail
     refine (zCE _ _ _ _ _ hn h).mono ?_
     rintro e w' ⟨rfl,rfl⟩;rw [HX.o];go_wp2
     by_cases hp:(l[j]).par=emp
     ·have hu:=up_none hj hp
      go_roundg m
      case measure=>omega
      case rel =>
       refine ⟨rfl,.inr ⟨by rw [hp],?_⟩⟩
       have:=HN.o;rw [liesF,HF.o,hu] at this;exact this.symm
     ·obtain ⟨j',hj',hu,he⟩:=g.up_some hj hp
      go_roundg m
      case measure=>omega
      case rel =>
       refine ⟨rfl,.inl ⟨j',hj',by rw [he],?_,?_⟩⟩
       ·have:=HU.o
        simpa only [upN,hu] using this
       ·have:=HN.o
        rw [liesF,HF.o,hu] at this;exact this
  ·have HS:=zq hres
   clear hres;have hne:=emp_isEmpty;go_wp2;go_ret
   exact zAr.mk (zAu HS.o.symm) rfl
def zDs (v:Value) (w:World) (e:Ending) (w':World):Prop:=e = .returned v∧∃ n,w'=w.drewN n
theorem zDs.mk {v v':Value} {w w':World} (h:v=v') (hw:∃ n,w'=w.drewN n):zDs v' w (.returned v) w':=⟨jf,hw⟩
def ChkARel (w:World) (l:List Rg) (a:List Ar) (m:Nat) (i:Value) (wr:World):Prop :=
 ∃ n,wr=w.drewN n∧∃ k:Nat,k+m=a.length∧i = .int .i64 k∧∀ j,j<k→zBB l a j=none
theorem checkAreaR_c (A A2:Option Addr) (c c2:Nat) (l:List Rg) (a:List Ar) (w:World) (hn:l.length≤200) (h:Rgs w A l) (h2:Ars w A2 a) :
  Calls Tryz.prog 122 #[.slice A l.length c,.slice A2 a.length c2] w (zDs (.int .i64 (zDN l a)) w):=by
 generalize hres:zDN l a=res;have HR:=zq hres;clear hres
 by_cases hlen:100<a.length
 ·go_enter Tryz.func122,Tryz.ntmps122
  go_wp2;go_ret
  refine zDs.mk (zAC ?_) ⟨0,rfl⟩
  rw [←HR.o];unfold zDN;rw [aE hlen]
 ·have hlen2:a.length≤100:=by omega
  go_enter Tryz.func122,Tryz.ntmps122
  go_wp2
  go_loopg [5] a.length (ChkARel w l a)
  case atStart=>exact ⟨0,rfl,0,za,rfl,fun j hj=>absurd hj za⟩
  case round =>
   obtain ⟨n,hw,k,hk,rfl,hpre⟩:=hrel;subst hw;have HK:=zq hk;have HP:=zq hpre;have hk1:k≤a.length:=za;clear hk hpre
   by_cases hlt:k<a.length
   ·obtain ⟨b2,o2,rfl,hb2,hc2⟩:=h2.at_ za
    have hc0:=(hc2 k hlt).1;have hr0:=zEq hlt
    by_cases hq:idx l (a[k]).rg=none
    ·have hix:idxI l (a[k]).rg = -1:=by unfold idxI;rw [hq]
     have hres:res=5:=by
      rw [←HR.o];unfold zDN;rw [aC hlen,zAZ hlt HP.o (x:=5) (by unfold zBB;rw [hr0,aE hq])]
     have HS:=zq hres;have HX:=zq hix;clear hc2 hr0 hq hres hix
     go_wp2_with fail
     refine (zCE _ _ _ _ _ hn (h.drewN _)).mono ?_
     rintro e w' ⟨rfl,rfl⟩;rw [HX.o];go_wp2;go_ret
     exact zDs.mk (zAC HS.o.symm) ⟨_,rfl⟩
    ·obtain ⟨x,hx⟩:=Option.ne_none_iff_exists'.1 hq
     have hix:idxI l (a[k]).rg=(x:Int):=by unfold idxI;rw [hx]
     have HX:=zq hix;have HQ:=zq hq;clear hix hx hq
     by_cases hk0:0<k
     ·have hd:decide ((0:Int)<(k:Int))=true:=by simp;omega
      have hcp:=(hc2 (k - 1) za).1;have hr1:=zEq (a:=a) (i:=k - 1) za
      by_cases hle:sle (a[k]).rg (a[k - 1]).rg=true
      ·have hleb:=hle
       unfold sle at hleb
       have hres:res=8:=by
        rw [←HR.o];unfold zDN;rw [aC hlen,zAZ hlt HP.o (x:=8) (by unfold zBB;rw [hr0,hr1,aC HQ.o,aE ⟨hk0,hle⟩])]
       have HS:=zq hres;clear hc2 hr0 hr1 hres hle
       go_wp2_with fail
       refine (zCE _ _ _ _ _ hn (h.drewN _)).mono ?_
       rintro e w' ⟨rfl,rfl⟩;rw [HX.o];go_wp2
       go_quiet (fail)
       go_wp2;go_ret
       exact zDs.mk (zAC HS.o.symm) ⟨_,World.drewN_drewN _ _ _⟩
      ·have hle':sle (a[k]).rg (a[k - 1]).rg=false:=by simpa using hle
       have hleb:=hle';unfold sle at hleb
       have HF:Hid (zBB l a k=none):=by
        show zBB l a k=none
        unfold zBB;rw [hr0,hr1,aC HQ.o,aC (fun hh=>hle hh.2)]
       clear hc2 hr0 hr1 hle hle'
       go_wp2_with fail
       refine (zCE _ _ _ _ _ hn (h.drewN _)).mono ?_
       rintro e w' ⟨rfl,rfl⟩;rw [HX.o];go_wp2
       go_quiet (fail)
       go_wp2
       go_roundg (gk - 1)
       case measure=>have:=HK.o;omega
       case rel =>
        refine ⟨_,rfl,k+1,zl,zn,fun j hj=>?_⟩
        rcases bO j k with h1 | h1
        ·exact HP.o j h1
        ·obtain rfl:j=k:=by omega
         exact HF.o
     ·have hd:decide ((0:Int)<(k:Int))=false:=by simp;omega
      have HF:Hid (zBB l a k=none):=by
       show zBB l a k=none
       unfold zBB;rw [hr0,aC HQ.o,aC za]
      clear hc2 hr0
      go_wp2_with fail
      refine (zCE _ _ _ _ _ hn (h.drewN _)).mono ?_
      rintro e w' ⟨rfl,rfl⟩;rw [HX.o];go_wp2
      go_quiet (fail)
      go_wp2
      go_roundg (gk - 1)
      case measure=>have:=HK.o;omega
      case rel =>
       refine ⟨_,rfl,k+1,zl,zn,fun j hj=>?_⟩
       rcases bO j k with h1 | h1
       ·exact HP.o j h1
       ·obtain rfl:j=k:=by omega
        exact HF.o
   ·have hres:res=0:=by
     rw [←HR.o];unfold zDN;rw [aC hlen,zBk (fun j hj=>HP.o j za)]
    have HS:=zq hres;clear hres;go_wp2;go_ret
    exact zDs.mk (zAC HS.o.symm) ⟨_,rfl⟩
theorem data_get (s:BA) (k:Nat) (h:k<s.size):s.data.toList[k]'(by simpa using h)=s[k]:=rfl
theorem zCB (s:BA) (h:0<s.size):s.data.toList.headD 0=s[0]:=by
 rw [←data_get s 0 h,List.headD_eq_head?_getD,List.head?_eq_getElem?];simp [h]
def NameRel (w:World) (s:BA) (m:Nat) (i:Value) (wr:World):Prop :=
 wr=w∧∃ k:Nat,k+m=s.size∧i = .int .i64 k∧∀ j (h:j<s.size),j<k→okB s[j]=true
theorem isNm_all {s:BA} (h1:1≤s.size) (h2:s.size≤40) (h3:97≤(s[0]'h1).toNat) (h4:(s[0]'h1).toNat≤122):zBA s=s.data.toList.all okB:=by
 unfold zBA;rw [zCB s h1];simp [h1,h2,h3,h4]
theorem zBy (s:BA) (w:World) (hs:s.size≤9223372036854775807) :
  Calls Tryz.prog 55 #[.string s] w (zAr (.bool (zBA s)) w):=by
 generalize hres:zBA s=res;have HR:=zq hres;clear hres
 by_cases h1:1≤s.size
 ·have he:s.toList.isEmpty=false:=zAk (fun e=>by rw [e] at h1;exact absurd h1 zc)
  by_cases h2:s.size≤40
  ·by_cases h3:97≤(s[0]'h1).toNat
   ·by_cases h4:(s[0]'h1).toNat≤122
    ·have hall:=isNm_all h1 h2 h3 h4
     have HA:=zq hall;clear hall
     go_enter Tryz.func55,Tryz.ntmps55
     go_wp2
     go_loopg [3] s.size (NameRel w s)
     case atStart=>exact ⟨rfl,0,za,rfl,fun j _ hj=>absurd hj za⟩
     case round =>
      obtain ⟨hw,k,hk,rfl,hpre⟩:=hrel;subst hw;have HK:=zq hk;have HP:=zq hpre;have hk1:k≤s.size:=za;clear hk hpre
      by_cases hlt:k<s.size
      ·have hcase:((97≤s[k].toNat∧s[k].toNat≤122)∨(48≤s[k].toNat∧s[k].toNat≤57)∨(45≤s[k].toNat∧s[k].toNat≤45))∨((122<s[k].toNat∧1≤s.size)∨(57<s[k].toNat∧s[k].toNat<97)∨(s[k].toNat<48∧s[k].toNat≠45)):=by omega
       rcases hcase with hcase | hcase
       ·have hok:okB s[k]=true:=by
         unfold okB
         rcases hcase with ⟨a1,a2⟩ | ⟨a1,a2⟩ | ⟨a1,a2⟩
         ·simp [a1,a2]
         ·simp [a1,a2]
         ·have:s[k].toNat=45:=by omega
          simp [this]
        have HO:=zq hok;clear hok
        have fin:∀ j (h:j<s.size),j<k+1→okB s[j]=true:=fun j hj hjk=>by
         rcases bO j k with h1 | h1
         ·exact HP.o j hj h1
         ·obtain rfl:j=k:=by omega
          exact HO.o
        have HF:=zq fin;clear fin
        rcases hcase with ⟨a1,a2⟩ | ⟨a1,a2⟩ | ⟨a1,a2⟩
        ·go_wp2
         go_roundg (gk - 1)
         case measure=>have:=HK.o;omega
         case rel=>exact ⟨rfl,k+1,zl,zn,HF.o⟩
        ·go_wp2
         go_roundg (gk - 1)
         case measure=>have:=HK.o;omega
         case rel=>exact ⟨rfl,k+1,zl,zn,HF.o⟩
        ·have hb:((s[k].toNat:Int) == 45)=true:=by rw [beq_iff_eq];omega
         go_wp2
         go_roundg (gk - 1)
         case measure=>have:=HK.o;omega
         case rel=>exact ⟨rfl,k+1,zl,zn,HF.o⟩
       ·have hb:((s[k].toNat:Int) == 45)=false:=by rw [aG];omega
        have hno:okB s[k]=false:=by
         unfold okB;simp
         omega
        have hres:res=false:=by
         rw [←HR.o,HA.o,List.all_eq_false];exact ⟨s[k],by rw [←data_get s k hlt];exact aI _,by simp [hno]⟩
        have HS:=zq hres;clear hres hno
        rcases hcase with ⟨a1,a2⟩ | ⟨a1,a2⟩ | ⟨a1,a2⟩
        ·have d1:decide ((s[k].toNat:Int)≤122)=false:=by simp;omega
         have d2:decide ((s[k].toNat:Int)≤57)=false:=zg;go_wp2;go_ret
         exact zAr.mk (zAu HS.o.symm) rfl
        ·have d2:decide ((s[k].toNat:Int)≤57)=false:=by simp;omega
         go_wp2;go_ret
         exact zAr.mk (zAu HS.o.symm) rfl
        ·go_wp2
         go_ret
         exact zAr.mk (zAu HS.o.symm) rfl
      ·go_wp2
       go_ret
       refine zAr.mk (zAu ?_) rfl
       rw [←HR.o,HA.o,eq_comm,List.all_eq_true];intro x hx;obtain ⟨j,hj,rfl⟩:=aJ hx;have hj':j<s.size:=xg;exact HP.o j hj' za
    ·go_enter Tryz.func55,Tryz.ntmps55
     go_wp2;go_ret
     refine zAr.mk (zAu ?_) rfl
     rw [←HR.o];unfold zBA;rw [zCB s h1];simp [h4]
   ·go_enter Tryz.func55,Tryz.ntmps55
    go_wp2;go_ret
    refine zAr.mk (zAu ?_) rfl
    rw [←HR.o];unfold zBA;rw [zCB s h1];simp [h3]
  ·go_enter Tryz.func55,Tryz.ntmps55
   go_wp2;go_ret
   refine zAr.mk (zAu ?_) rfl
   rw [←HR.o];unfold zBA;simp [h2]
 ·have he:s.toList.isEmpty=true:=by
   cases hs:s.toList with
   | nil=>rfl
   | cons a l =>
    have:=aY List.length hs;rw [toList_eq] at this;simp at this
    omega
  go_enter Tryz.func55,Tryz.ntmps55
  go_wp2;go_ret
  refine zAr.mk (zAu ?_) rfl
  rw [←HR.o];unfold zBA;simp [h1]
def ChkR1 (w:World) (l:List Rg) (m:Nat) (i:Value) (wr:World):Prop :=
 ∃ n,wr=w.drewN n∧∃ k:Nat,k+m=l.length∧i = .int .i64 k∧∀ j,j<k→zBd l j=none
def ChkR2 (w:World) (l:List Rg) (m:Nat) (i:Value) (wr:World):Prop :=
 ∃ n,wr=w.drewN n∧∃ k:Nat,k+m=l.length∧i = .int .i64 k∧∀ j (h:j<l.length),j<k→zBX l l[j]=false
def ChkR3 (w:World) (l:List Rg) (m:Nat) (i:Value) (wr:World):Prop :=
 ∃ n,wr=w.drewN n∧∃ k:Nat,k+m=l.length∧i = .int .i64 k∧∀ j,j<k→∀ d,0<d→d≤l.length+1→upN l d j≠some j
def ChkR4 (w:World) (l:List Rg) (i:Nat) (m:Nat) (at_ n:Value) (wr:World):Prop :=
 wr=w∧∃ k:Nat,k+m=l.length+1∧n = .int .i64 k∧∃ j,j<l.length∧at_ = .int .i64 j∧upN l k i=some j∧∀ d,0<d→d≤k→upN l d i≠some i
theorem parBad_false {l:List Rg} (h:∀ j (h:j<l.length),zBX l l[j]=false) {i:Nat} (hi:i<l.length) (hp:(l[i]).par≠emp):∃ j,idx l (l[i]).par=some j:=by
 have:=h i hi;unfold zBX at this
 cases hx:idx l (l[i]).par with
 | some j=>exact ⟨j,rfl⟩
 | none=>rw [hx] at this;simp [hp] at this
theorem chkR_head {l:List Rg} (h1:l≠[]) (h2:¬ 200<l.length):zEd l=match (List.range l.length).findSome? (zBd l) with
 | some f=>f
 | none=>if l.any (zBX l)=true then 5 else if EndsR l then 0 else 14:=by
 unfold zEd;rw [aC h1,aC h2]<;>rfl
theorem chkR_first {l:List Rg} (h1:l≠[]) (h2:¬ 200<l.length) {k:Nat} {x:Int} (hk:k<l.length) (hpre:∀ j,j<k→zBd l j=none) (h:zBd l k=some x):zEd l=x:=by
 rw [chkR_head h1 h2,zAZ hk hpre h]
theorem chkR_par {l:List Rg} (h1:l≠[]) (h2:¬ 200<l.length) (hpre:∀ j,j<l.length→zBd l j=none) {k:Nat} (hk:k<l.length) (h:zBX l l[k]=true):zEd l=5:=by
 rw [chkR_head h1 h2,zBk hpre];simp only [];rw [aE (List.any_eq_true.2 ⟨l[k],aI hk,h⟩)]
theorem chkR_last {l:List Rg} (h1:l≠[]) (h2:¬ 200<l.length) (hpre:∀ j,j<l.length→zBd l j=none) (h:∀ j (h:j<l.length),zBX l l[j]=false):zEd l=if EndsR l then 0 else 14:=by
 rw [chkR_head h1 h2,zBk hpre];simp only [];rw [aC];intro hh;obtain ⟨x,hx,hb⟩:=List.any_eq_true.1 hh;obtain ⟨j,hj,rfl⟩:=aJ hx;rw [h j hj] at hb;cases hb
theorem CheckRegionsR_c (A:Option Addr) (c:Nat) (l:List Rg) (w:World) (h:Rgs w A l) (hz:∀ i (h:i<l.length),(l[i]).nm.size≤9223372036854775807) :
  Calls Tryz.prog 54 #[.slice A l.length c] w (zDs (.int .i64 (zEd l)) w):=by
 generalize hres:zEd l=res;have HR:=zq hres;clear hres
 by_cases h1:l=[]
 ·subst h1
  go_enter Tryz.func54,Tryz.ntmps54
  go_wp2;go_ret
  refine zDs.mk (zAC ?_) ⟨0,rfl⟩
  rw [←HR.o];rfl
 have h1':0<l.length:=List.length_pos_iff.2 h1;have hl0:((l.length:Int) == 0)=false:=ja
 by_cases hlen:200<l.length
 ·go_enter Tryz.func54,Tryz.ntmps54
  go_wp2;go_ret
  refine zDs.mk (zAC ?_) ⟨0,rfl⟩
  rw [←HR.o];unfold zEd;rw [aC h1,aE hlen]
 have hn:l.length≤200:=za;obtain ⟨b,o,rfl,hb,hc⟩:=h.at_ h1';have HC:=zq hc;have HZ:=zq hz;have H1:=zq h1;clear hc hz h1
 go_enter Tryz.func54,Tryz.ntmps54
 go_wp2
 go_loopg [3] l.length (ChkR1 w l)
 case atStart=>exact ⟨0,rfl,0,za,rfl,fun j hj=>absurd hj za⟩
 case round =>
  obtain ⟨n,hw,k,hk,rfl,hpre⟩:=hrel;subst hw;have HK:=zq hk;have HP:=zq hpre;have hk1:k≤l.length:=za;clear hk hpre
  by_cases hlt:k<l.length
  ·have hc0:=(HC.o k hlt).1
   have hr0:=zBF hlt;have hzk:=HZ.o k hlt
   by_cases hq:zBA (l[k]).nm=true
   ·by_cases hk0:0<k
    ·have hd:decide ((0:Int)<(k:Int))=true:=by simp;omega
     have hcp:=(HC.o (k - 1) za).1;have hr1:=zBF (l:=l) (i:=k - 1) za
     by_cases hle:sle (l[k]).nm (l[k - 1]).nm=true
     ·have hleb:=hle
      unfold sle at hleb
      have hres:res=8:=by
       rw [←HR.o,chkR_first H1.o hlen hlt HP.o (x:=8) (by unfold zBd;rw [hr0,hr1,aC (by rw [hq];simp),aE ⟨hk0,hle⟩])]
      have HS:=zq hres;have HQ:=zq hq;clear hr0 hr1 hres hle hq
      go_wp2_with fail
      refine (zBy _ _ hzk).mono ?_
      rintro e w' ⟨rfl,rfl⟩;rw [HQ.o];go_wp2
      go_quiet (fail)
      go_wp2;go_ret
      exact zDs.mk (zAC HS.o.symm) ⟨_,World.drewN_drewN _ _ _⟩
     ·have hle':sle (l[k]).nm (l[k - 1]).nm=false:=by simpa using hle
      have hleb:=hle';unfold sle at hleb
      have HF:Hid (zBd l k=none):=by
       show zBd l k=none
       unfold zBd;rw [hr0,hr1,aC (by rw [hq];simp),aC (fun hh=>hle hh.2)]
      have HQ:=zq hq;clear hr0 hr1 hle hle' hq
      go_wp2_with fail
      refine (zBy _ _ hzk).mono ?_
      rintro e w' ⟨rfl,rfl⟩;rw [HQ.o];go_wp2
      go_quiet (fail)
      go_wp2
      go_roundg (gk - 1)
      case measure=>have:=HK.o;omega
      case rel =>
       refine ⟨_,rfl,k+1,zl,zn,fun j hj=>?_⟩
       rcases bO j k with h1 | h1
       ·exact HP.o j h1
       ·obtain rfl:j=k:=by omega
        exact HF.o
    ·have hd:decide ((0:Int)<(k:Int))=false:=by simp;omega
     have HF:Hid (zBd l k=none):=by
      show zBd l k=none
      unfold zBd;rw [hr0,aC (by rw [hq];simp),aC za]
     have HQ:=zq hq;clear hr0 hq
     go_wp2_with fail
     refine (zBy _ _ hzk).mono ?_
     rintro e w' ⟨rfl,rfl⟩;rw [HQ.o];go_wp2
     go_quiet (fail)
     go_wp2
     go_roundg (gk - 1)
     case measure=>have:=HK.o;omega
     case rel =>
      refine ⟨_,rfl,k+1,zl,zn,fun j hj=>?_⟩
      rcases bO j k with h1 | h1
      ·exact HP.o j h1
      ·obtain rfl:j=k:=by omega
       exact HF.o
   ·have hq':zBA (l[k]).nm=false:=by simpa using hq
    have hres:res=5:=by
     rw [←HR.o,chkR_first H1.o hlen hlt HP.o (x:=5) (by unfold zBd;rw [hr0,aE hq'])]
    have HS:=zq hres;have HQ:=zq hq';clear hr0 hres hq hq'
    go_wp2_with fail
    refine (zBy _ _ hzk).mono ?_
    rintro e w' ⟨rfl,rfl⟩;rw [HQ.o];go_wp2;go_ret
    exact zDs.mk (zAC HS.o.symm) ⟨_,rfl⟩
  ·have hF0:∀ j,j<l.length→zBd l j=none:=fun j hj=>HP.o j za
   have HF0:=zq hF0;clear hF0;go_wp2;clear HK HP hk1 hlt
   go_loopg [4] l.length (ChkR2 w l)
   case atStart=>exact ⟨_,rfl,0,za,rfl,fun j _ hj=>absurd hj za⟩
   case round =>
    obtain ⟨n2,hw,k,hk,rfl,hpre⟩:=hrel;subst hw;have HK:=zq hk;have HP:=zq hpre;have hk1:k≤l.length:=za;clear hk hpre
    by_cases hlt:k<l.length
    ·have hc0:=(HC.o k hlt).2
     by_cases hp:(l[k]).par=emp
     ·have he:=zAm hp
      have HF:Hid (zBX l l[k]=false):=by
       show zBX l l[k]=false
       simp [zBX,hp]
      clear hp;go_wp2
      go_roundg (gk - 1)
      case measure=>have:=HK.o;omega
      case rel =>
       refine ⟨_,rfl,k+1,zl,zn,fun j hj hjk=>?_⟩
       rcases bO j k with h1 | h1
       ·exact HP.o j hj h1
       ·obtain rfl:j=k:=by omega
        exact HF.o
     ·have he:=zAk hp
      cases hix:idx l (l[k]).par with
      | none =>
       have hi0:idxI l (l[k]).par = -1:=by unfold idxI;rw [hix]
       have hres:res=5:=by
        rw [←HR.o];exact chkR_par H1.o hlen HF0.o hlt (by simp [zBX,hp,hix])
       have HS:=zq hres;have HX:=zq hi0;clear hres hi0 hix hp
       go_wp2_with fail
       refine (zCE _ _ _ _ _ hn (h.drewN _)).mono ?_
       rintro e w' ⟨rfl,rfl⟩;rw [HX.o];go_wp2;go_ret
       exact zDs.mk (zAC HS.o.symm) ⟨_,rfl⟩
      | some x =>
       have hi0:idxI l (l[k]).par=(x:Int):=by unfold idxI;rw [hix]
       have HF:Hid (zBX l l[k]=false):=by
        show zBX l l[k]=false
        simp [zBX,hix]
       have HX:=zq hi0;clear hi0 hix hp
       go_wp2_with fail
       refine (zCE _ _ _ _ _ hn (h.drewN _)).mono ?_
       rintro e w' ⟨rfl,rfl⟩;rw [HX.o];go_wp2
       go_roundg (gk - 1)
       case measure=>have:=HK.o;omega
       case rel =>
        refine ⟨_,rfl,k+1,zl,zn,fun j hj hjk=>?_⟩
        rcases bO j k with h1 | h1
        ·exact HP.o j hj h1
        ·obtain rfl:j=k:=by omega
         exact HF.o
    ·have hP0:∀ j (h:j<l.length),zBX l l[j]=false:=fun j hj=>HP.o j hj za
     have HP0:=zq hP0;clear hP0;go_wp2;clear HK HP hk1 hlt
     go_loopg [5] l.length (ChkR3 w l)
     case atStart=>exact ⟨_,rfl,0,za,rfl,fun j hj=>absurd hj za⟩
     case round =>
      obtain ⟨n3,hw,i,hk,rfl,hpre⟩:=hrel;subst hw;have HK:=zq hk;have HP:=zq hpre;have hk1:i≤l.length:=za;clear hk hpre;obtain ⟨g1,hg1⟩:∃ g1,g1=gk:=⟨_,rfl⟩;subst hg1
      by_cases hlt:i<l.length
      ·go_wp2
       go_loopg [6,7] (l.length+1) (ChkR4 (w.drewN n3) l i)
       case atStart=>exact ⟨rfl,0,za,rfl,i,hlt,rfl,rfl,fun d h1 h2=>absurd h1 za⟩
       case round =>
        obtain ⟨hw,k,hk,rfl,j,hj,rfl,hup,hno⟩:=hrel;subst hw;have HK4:=zq hk;have HU:=zq hup;have HN:=zq hno;have hk2:k≤l.length+1:=za;clear hk hup hno
        by_cases hlt2:k≤l.length
        ·have hc1:=(HC.o j hj).2
         by_cases hp:(l[j]).par=emp
         ·have he:=zAm hp
          have hstop:∀ d,0<d→d≤l.length+1→upN l d i≠some i:=fun d h1 h2=>by
           rcases bO k d with h3 | h3
           ·have:upN l (k+1) i=none:=by rw [zEr,HU.o];simp [upN,up_none hj hp]
            rw [zBW this h3];simp
           ·exact HN.o d h1 h3
          have HS:=zq hstop;clear hstop hp;go_wp2
          go_roundg (g1 - 1)
          case measure=>have:=HK.o;omega
          case rel =>
           refine ⟨_,rfl,i+1,zl,zn,fun t ht d h1 h2=>?_⟩
           rcases bO t i with h3 | h3
           ·exact HP.o t h3 d h1 h2
           ·obtain rfl:t=i:=by omega
            exact HS.o d h1 h2
         ·have he:=zAk hp
          obtain ⟨j',hx⟩:=parBad_false HP0.o hj hp;obtain ⟨hj',hnm⟩:=idx_some hx;have hi0:idxI l (l[j]).par=(j':Int):=by unfold idxI;rw [hx]
          have hup':upN l (k+1) i=some j':=by
           rw [zEr,HU.o];simp [upN,up_of hj,hp,hx]
          have HX:=zq hi0;have HU':=zq hup';clear hi0 hup' hx hnm hp
          by_cases hji:j'=i
          ·have hji':((j':Int) == (i:Int))=true:=by rw [beq_iff_eq];omega
           have hres:res=14:=by
            rw [←HR.o,chkR_last H1.o hlen HF0.o HP0.o,aC];rw [not_ends_iff];refine twice_of_long hlt (fun hnn=>?_)
            have e:upN l (k+1) i=some i:=by rw [HU'.o,hji]
            have h3:=zDI e l.length
            rw [zBW hnn (by
             have:l.length*1≤(k+1)*l.length:=by rw [aT];exact aN _ za
             omega)] at h3
            cases h3
           have HS:=zq hres;have HJ:=zq hji;clear hres hji
           go_wp2_with fail
           refine (zCE _ _ _ _ _ hn (h.drewN _)).mono ?_
           rintro e w' ⟨rfl,rfl⟩;rw [HX.o];go_wp2;go_ret
           exact zDs.mk (zAC HS.o.symm) ⟨_,rfl⟩
          ·have hji':((j':Int) == (i:Int))=false:=by rw [aG];omega
           have HJ:=zq hji;clear hji
           go_wp2_with fail
           refine (zCE _ _ _ _ _ hn (h.drewN _)).mono ?_
           rintro e w' ⟨rfl,rfl⟩;rw [HX.o];go_wp2
           go_roundg (gk - 1)
           case measure=>have:=HK4.o;omega
           case rel =>
            refine ⟨rfl,k+1,by have:=HK4.o;omega,zn,j',hj',rfl,HU'.o,fun d h1 h2=>?_⟩
            rcases bO k d with h3 | h3
            ·obtain rfl:d=k+1:=by omega
             rw [HU'.o];intro e
             injection e with e
             exact HJ.o e
            ·exact HN.o d h1 h3
        ·have hke:k=l.length+1:=by omega
         have HKE:=zq hke;clear hke;go_wp2
         go_roundg (g1 - 1)
         case measure=>have:=HK.o;omega
         case rel =>
          refine ⟨_,rfl,i+1,zl,zn,fun t ht d h1 h2=>?_⟩
          rcases bO t i with h3 | h3
          ·exact HP.o t h3 d h1 h2
          ·obtain rfl:t=i:=by omega
           exact HN.o d h1 (by rw [HKE.o];exact h2)
      ·have hres:res=0:=by
        rw [←HR.o,chkR_last H1.o hlen HF0.o HP0.o,aE];refine Classical.byContradiction fun hh=>?_
        obtain ⟨t,m,ht,hm,hml,e⟩:=not_ends_iff.1 hh;exact HP.o t za m hm za e
       have HS:=zq hres;clear hres;go_wp2;go_ret
       exact zDs.mk (zAC HS.o.symm) ⟨_,rfl⟩
end Go.Proofs.YtoaelidmmcbkfaaGreatDoor
