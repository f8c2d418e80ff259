/- Parts of the proof, joined: Package num: long division. Package num: gcd. append of one element, t. -/
import Derived.Test.YtoaelidmmcbkfaaGreatDoorSt02
import Derived.Lib.Strings
set_option maxRecDepth 100000
set_option maxHeartbeats 8000000
namespace Go.Proofs.YtoaelidmmcbkfaaGreatDoor
open Go.RowKit Dw
theorem lz_c (x:Nat) (w:World) (h:x<4294967296):Calls Tryz.prog 214 #[.int .u32 (x:Int)] w (zBb (.int .i64 (32 - (Lib.bitLen x:Int))) w):=by
 have h:=Any.bits_LeadingZeros32 Tryz.lays133 (x:Int) w za za
 change Calls Tryz.prog 214 _ _ _ at h
 rw [Int.toNat_natCast] at h;exact h.mono fun _ _ ⟨he,hw⟩=>⟨he,hw.symm⟩
theorem cutW (g j n N:Nat) (h:j+n+1≤N) (W:World):(Instr.slice 154 (.slice (some ⟨g,0,none⟩) N N) (some (.int .i64 (j:Int))) (some (.int .i64 ((j:Int)+(n:Int)+1))) none).run Tryz.prog W = .ok (.slice (some ⟨g,j,none⟩) (n+1) (N - j)) W:=by
 have e1:¬ N=j:=za;have h1:(0:Int)≤(j:Int):=za;have h2:(j:Int)≤(j:Int)+(n:Int)+1:=za;have h3:(j:Int)+(n:Int)+1≤(N:Int):=za;simp [go_sem,h1,h2,h3]
 exact ⟨fun e=>absurd e e1,za⟩
theorem cutV (A:Option Addr) (n N:Nat) (h:n≤N) (W:World):(Instr.slice 154 (.slice A N N) none (some (.int .i64 (n:Int))) none).run Tryz.prog W = .ok (.slice A n N) W:=by
 have h3:(n:Int)≤(N:Int):=za;simp [go_sem,h3]
def RvRel (w:World) (gu gq gr:Nat) (U Q:List Nat) (s nb:Nat) (m:Nat) (iv:Value) (wr:World):Prop :=
 ∃ (k:Nat) (R:List Nat),k+m=nb∧iv = .int .i64 k∧zBK wr gr R∧R.length=nb∧WLt B32 R∧2 ^ s*zAh B32 (R.take k)+U.getD 0 0 % 2 ^ s=zAh B32 (U.take k)+B32 ^ k*(U.getD k 0 % 2 ^ s) ∧
  zBK wr gu U∧zBK wr gq Q∧Below w.heap.size w wr∧w.heap.size≤gr∧gu<gr∧gq<gr
theorem RvRel.step {w wr:World} {gu gq gr:Nat} {U Q R:List Nat} {s nb k gk T:Nat} (hkm:k+gk=nb) (hlt:k<nb) (hR:zBK wr gr R) (hRl:R.length=nb) (hRW:WLt B32 R) (hs:s<32) (hU1:k+1<U.length) (hUW:WLt B32 U)
  (hV:2 ^ s*zAh B32 (R.take k)+U.getD 0 0 % 2 ^ s=zAh B32 (U.take k)+B32 ^ k*(U.getD k 0 % 2 ^ s)) (hU:zBK wr gu U) (hQ:zBK wr gq Q) (hb:Below w.heap.size w wr) (h1:w.heap.size≤gr) (h2:gu<gr) (h3:gq<gr)
  (hT:T=U[k]+4294967296*U[k+1]) {iv mv:Value} (hi:iv = .int .i64 ((k:Int)+1)) (hm:mv = .int .u32 ((T / 2 ^ s % 4294967296:Nat):Int)) {wd:World} (hd:∃ n,wd=(wr.drewN n).setCell ⟨gr,k,none⟩ mv):RvRel w gu gq gr U Q s nb (gk - 1) iv wd:=by
 obtain ⟨n,rfl⟩:=hd;subst hi hm;have hR':zBK (wr.drewN n) gr R:=hR;have hU':zBK (wr.drewN n) gu U:=hU;have hQ':zBK (wr.drewN n) gq Q:=hQ;refine ⟨k+1,R.set k (T / 2 ^ s % 4294967296),za,zx,hR'.set k _,by simpa using hRl,hRW.set (modB _) k,?_,hU'.far (show gu≠gr by omega) _,hQ'.far (show gq≠gr by omega) _,(zAc hb n).setCell h1 _,h1,h2,h3⟩
 rw [wval_put za,zAR (by omega:k<U.length)]
 have e0:U.getD k 0=U[k]:=by simp [List.getD,show k<U.length by omega]
 have e1:U.getD (k+1) 0=U[k+1]:=by simp [List.getD,hU1]
 rw [e1];rw [e0] at hV;have hx:=hUW.get k za
 have hdv:(2 ^ s)∣B32:=by
  refine ⟨2 ^ (32 - s),?_⟩
  rw [←Nat.pow_add,show s+(32 - s)=32 by omega]
  rfl
 exact shr_col zBS (cK s) hdv hx hV (by rw [hT];rfl)
theorem divisor {r V:List Nat} {top s:Nat} (hr:WLt B32 r) (hn:0<r.length) (htop:r.getLast?=some top) (h1:top*2 ^ s<4294967296) (h0:0<top) (hs:s<32) (hVl:V.length=r.length+1) (hVW:WLt B32 V) (hVv:zAh B32 V=zAh B32 r*2 ^ s) :
  zAh B32 r*2 ^ s<B32 ^ r.length∧0<zAh B32 r*2 ^ s∧zAh B32 (V.take r.length)=zAh B32 r*2 ^ s∧(∀ h:r.length - 1<(V.take r.length).length,0<(V.take r.length)[r.length - 1]):=by
 have ht:r[r.length - 1]'(by omega)=top:=by
  rw [List.getLast?_eq_getElem?,List.getElem?_eq_getElem za] at htop
  injection htop
 have e1:=zAR (B:=B32) (l:=r) (i:=r.length - 1) za;rw [show r.length - 1+1=r.length by omega,bI,ht] at e1
 have e2:=zDr (hr.take (r.length - 1));rw [bB,bC za] at e2;have e3:B32 ^ (r.length - 1)*B32=B32 ^ r.length:=by rw [←aN,show (r.length - 1).succ=r.length by omega]
 have h2:(top+1)*2 ^ s≤B32:=by
  have e4:(4294967296:Nat)=2 ^ (32 - s)*2 ^ s:=by rw [←Nat.pow_add,show 32 - s+s=32 by omega]
  have h3:top<2 ^ (32 - s):=by
   rw [e4] at h1;exact Nat.lt_of_mul_lt_mul_right h1
  have h4:=aS (2 ^ s) (show top+1≤2 ^ (32 - s) from h3)
  rw [←e4] at h4;exact h4
 have hp:=cK s
 have hlt:zAh B32 r*2 ^ s<B32 ^ r.length:=by
  have h5:zAh B32 r+1≤B32 ^ (r.length - 1)*(top+1):=by rw [aO,Nat.mul_one];omega
  have h6:=aS (2 ^ s) h5;have h7:=aZ (B32 ^ (r.length - 1)) h2;rw [e3,←aQ] at h7;rw [aR,Nat.one_mul] at h6;omega
 have hge:B32 ^ (r.length - 1)≤zAh B32 r:=by
  have:=aZ (B32 ^ (r.length - 1)) (show 1≤top from h0)
  rw [Nat.mul_one] at this;omega
 have hbp:0<B32 ^ (r.length - 1):=Nat.pow_pos zBS;have hpos:0<zAh B32 r*2 ^ s:=Nat.mul_pos za hp;have hz:zAh B32 (V.drop (0+r.length))=0:=zCU (n:=r.length) (by rw [cJ,hVv];exact hlt) za
 have hsp:=zCe B32 r.length V za;rw [bF] at hz;rw [hz,Nat.mul_zero,cC,hVv] at hsp;refine ⟨hlt,hpos,hsp.symm,fun h=>?_⟩
 rcases bE ((V.take r.length)[r.length - 1]) with h0 | h0
 ·exfalso
  have e5:=zAR (B:=B32) (l:=V.take r.length) (i:=r.length - 1) h;rw [h0,Nat.mul_zero,cC,List.take_take,List.take_take,bC za,bC za] at e5;rw [show r.length - 1+1=r.length by omega,←hsp] at e5
  have e6:=zDr (hVW.take (r.length - 1));rw [bB,bC za] at e6;have e7:=aZ (zAh B32 r) hp;rw [Nat.mul_one] at e7;omega
 ·exact h0
theorem first_part {U:List Nat} {a b s na nb:Nat} (hU:U.length=na+1) (hUv:zAh B32 U=a*2 ^ s) (ha:a<B32 ^ na) (hb:B32 ^ (nb - 1)≤b) (h1:1≤nb) (h2:nb≤na):zAh B32 (U.drop (na - nb+1))<b*2 ^ s:=by
 have e:=zCe B32 (na - nb+1) U za;have hp:=cK s
 have h3:B32 ^ (na - nb+1)*zAh B32 (U.drop (na - nb+1))<B32 ^ na*2 ^ s:=by
  have:=Nat.mul_lt_mul_of_pos_right ha hp;omega
 have e2:B32 ^ na=B32 ^ (na - nb+1)*B32 ^ (nb - 1):=by rw [←Nat.pow_add,show na - nb+1+(nb - 1)=na by omega]
 rw [e2,aQ] at h3;exact cP (Nat.lt_of_mul_lt_mul_left h3) (aS _ hb)
theorem Div_long (A A2:Option Addr) (c c2 a b:Nat) (w:World) (h:Nt w A c a) (h2:Nt w A2 c2 b) (hn:(zAf B32 a).length≤400000000) (hn2:2<(zAf B32 a).length) (hm:2≤(zAf B32 b).length) (hge:b≤a) :
  Calls Tryz.prog 202 #[ntV A c a,ntV A2 c2 b] w (GivesNN (a / b) (a % b) w):=by
 obtain ⟨z,hz,hc⟩:=Cmp_ge h h2 za hge;have hlen:=zBE zAs hge
 obtain ⟨top,htop,ht0⟩:∃ top,(zAf B32 b).getLast?=some top∧0<top:=by
  have hb0:=words_last (B:=B32) zAs (n:=b) za;exact ⟨_,by rw [List.getLast?_eq_getElem?,List.getElem?_eq_getElem za],za⟩
 have hl1:=zBo zAs a;have hl2:=zBo zAs b;have HVA:=zq (zAE zAs a);have HVB:=zq (zAE zAs b);obtain ⟨h,hcap⟩:=h;obtain ⟨h2,hcap2⟩:=h2;have hsm:=small_no A c a w ⟨h,hcap⟩ hn2 za;have HS:=zq (fun nd:Nat=>small_no A c a (w.drewN nd) ⟨h.drewN nd,hcap⟩ hn2 za)
 have HC:=zq hc;clear hc hsm;unfold ntV at HC HS ⊢;generalize zAf B32 a=l at *;generalize zAf B32 b=r at *;obtain ⟨na,hna⟩:∃ na,na=l.length:=⟨_,rfl⟩;obtain ⟨nb,hnb⟩:∃ nb,nb=r.length:=⟨_,rfl⟩;obtain ⟨b2,o2,hA2,hlt2,hcl⟩:=h2.at_ za;subst hA2;have hc0:=hcl (r.length - 1) za
 have htop2:r[r.length - 1]'(by omega)=top:=by
  rw [List.getLast?_eq_getElem?,List.getElem?_eq_getElem za] at htop
  injection htop
 have ht1:top<4294967296:=by rw [←htop2];exact hl2.get _ za
 rw [zBz,htop2] at hc0;obtain ⟨hs1,hs2,hs3⟩:=shift_ok ht0 ht1;have HLZ:=zq (fun W:World=>lz_c top W ht1)
 obtain ⟨s,hs⟩:∃ s,s=32 - Lib.bitLen top:=⟨_,rfl⟩;have hsI:(32:Int) - (Lib.bitLen top:Int)=(s:Int):=za;rw [hsI] at HLZ;have hs4:s<32:=za;have HL1:=zq (fun W (hW:Wds W A l)=>left_l A c s l W hW hl1 za hs4)
 have HL2:=zq (fun W (hW:Wds W (some ⟨b2,o2,none⟩) r)=>left_l (some ⟨b2,o2,none⟩) c2 s r W hW hl2 za hs4)
 have HTOP:Hid (r.getLast?=some top∧top*2 ^ s<4294967296∧0<top):=⟨htop,by rw [hs];exact hs3,ht0⟩
 rw [←hnb] at hc0;clear htop htop2 hs1 hs2 hs3 hs hsI hcl
 have hmk:∀ w:World,(Instr.makeSlice 154 (.int .i64 ((na:Int) - (nb:Int)+1)) (.int .i64 ((na:Int) - (nb:Int)+1))).run Tryz.prog w =
   .ok (.slice (some ⟨w.heap.size,0,none⟩) (na - nb+1) (na - nb+1)) (w.alloc (.cells (Array.replicate (na - nb+1) (.int .u32 0)) 213)):=by
  have e:(na:Int) - (nb:Int)+1=((na - nb+1:Nat):Int):=za;rw [e];exact mk_nat (na - nb+1) za
 rw [←hna] at hn hn2 hlen hcap;rw [←hnb] at hm hlen hcap2;simp only [←hna,←hnb] at HS HL1 HL2 HC ⊢;have HNA:=zq hna;have HNB:=zq hnb;clear hna hnb
 go_enter Tryz.func202,Tryz.ntmps202
 go_wp2_with fail
 with_reducible refine HC.o.mono ?_
 rintro e w' ⟨rfl,nd,rfl⟩;clear HC
 go_wp2_with fail
 with_reducible refine (HS.o nd).mono ?_
 rintro e w' ⟨rfl,nd1,rfl⟩;clear HS
 go_wp2_with fail
 with_reducible refine (HLZ.o _).mono ?_
 rintro e w' ⟨rfl,rfl⟩;clear HLZ
 go_wp2_with fail
 with_reducible refine (HL1.o _ (h.drewN (nd+nd1))).mono ?_
 rintro e w3 ⟨gu,U,rfl,hU,hUl,hUW,hUv,hb3,hg3⟩;clear HL1;have hb3':Below w.heap.size w w3:=(zAc (bN w.heap.size w) _).trans hb3;have HB3:=zq hb3';have hg3':w.heap.size≤gu:=hg3;clear hb3 hb3' hg3
 go_wp2_with fail
 with_reducible refine (HL2.o _ (h2.below HB3.o)).mono ?_
 rintro e w4 ⟨gv,V,rfl,hV,hVl,hVW,hVv,hb4,hg4⟩;clear HL2;have hU4:=hU.below hb4;have hgu3:=hU.lt;have HB4:=zq (zAb HB3.o hb4);have hz3:=HB3.o.size;clear hb4 hU
 go_wp2_with fail
 have hnew:=zBK.new w4 (na - nb+1);have hbel:Below w4.heap.size w4 (w4.alloc (.cells (Array.replicate (na - nb+1) (.int .u32 0)) 213)):=(bN _ _).alloc (aB _) _;have hU5:=hU4.below hbel;have hV5:=hV.below hbel;have hgv4:=hV.lt;have hbw5:=zAb HB4.o hbel;obtain ⟨gq,hgq⟩:∃ gq,gq=w4.heap.size:=⟨_,rfl⟩;obtain ⟨w5,hw5⟩:∃ w5,w5=w4.alloc (.cells (Array.replicate (na - nb+1) (.int .u32 0)) 213):=⟨_,rfl⟩;rw [←hgq] at hnew;rw [←hw5] at hnew hU5 hV5 hbw5;rw [←hgq,←hw5];have hgv:gu<gv:=za;have hgqv:gv<gq:=za;have HB5:=zq hbw5;clear hbel hbw5 hw5 hgq hmk hU4 hV HB4 HB3 hgv4 hgu3 hz3 hg4 hc0 hlt2;obtain ⟨htop,hts,htp⟩:=HTOP.o;have hrn:=HNB.o;have hln:=HNA.o;have HD:=divisor hl2 za htop hts htp hs4 za hVW hVv;rw [←hrn,HVB.o] at HD
 have hbB:B32 ^ (nb - 1)≤b:=by
  have:=wval_ge (B:=B32) (l:=r) za (by rw [List.getLast?_eq_getElem?,List.getElem?_eq_getElem za] at htop;injection htop with e;omega)
  rwa [←hrn,HVB.o] at this
 have haB:a<B32 ^ na:=by
  have:=zDr hl1
  rwa [HVA.o,←hln] at this
 rw [HVA.o] at hUv;rw [HVB.o] at hVv;obtain ⟨v,hv⟩:∃ v,v=b*2 ^ s:=⟨_,rfl⟩;have hF:=first_part hUl hUv haB hbB za hlen;rw [←hv] at HD hF;obtain ⟨HD1,HD2,HD3,HD4⟩:=HD;obtain ⟨Vn,hVn⟩:∃ Vn,Vn=V.take nb:=⟨_,rfl⟩;rw [←hVn] at HD3 HD4;have hVnl:Vn.length=nb:=by rw [hVn,bB];omega
 have HVN:=zq hVn;have HVNL:=zq hVnl;have hVnW:WLt B32 Vn:=by rw [hVn];exact hVW.take nb
 have HV:=zq hv;have HD1:=zq HD1;have HD3:=zq HD3;have HD4:=zq HD4;have HF:=zq hF;have HUV:=zq hUv;have HUL:=zq hUl;clear htop hts htp hrn hln hbB haB hv hF hVn hVnl hUv hVv hUl HTOP hl1 hl2 hcap hcap2 h h2 HVA HVB HNA HNB hge hVl
 go_loopg [15] (na - nb+1) (DvRel w gu gv gq U V v na nb)
 case atStart =>
  refine ⟨U,List.replicate (na - nb+1) 0,_,rfl,?_,aB _,hU5,HUL.o,hUW,hV5,hnew,zg,WLt.zeros zBS _,rfl,(aW HF.o).symm,?_,HB5.o⟩
  ·congr 1;omega
  ·rw [aA zg,Nat.div_eq_of_lt HF.o];rfl
 case round =>
  clear hU5 hV5 hnew;obtain ⟨U',Q,zz,hzz,rfl,hgk,hU',hUl',hUW',hV',hQ,hQl,hQW,hTk,hRm,hQt,hbw⟩:=hrel;have HTK:=zq hTk;have HRM:=zq hRm;have HQT:=zq hQt;have HQL:=zq hQl;have HUL':=zq hUl';clear hTk hRm hQt hQl hUl'
  rcases bE gk with h0 | h0
  ·subst h0
   obtain rfl:zz = -1:=hzz
   have hrem:zAh B32 U'=(a % b)*2 ^ s:=by
    have:=HRM.o
    rwa [cJ,cJ,HUV.o,HV.o,Nat.mul_mod_mul_right] at this
   have hquo:zAh B32 Q=a / b:=by
    have:=HQT.o
    rwa [cJ,cJ,HUV.o,HV.o,Nat.mul_div_mul_right _ _ (cK s)] at this
   have hrl:zAh B32 U'<B32 ^ nb:=by
    have:=HRM.o;rw [cJ] at this;rw [this];exact Nat.lt_trans (aX _ HD2) HD1.o
   have HREM:=zq hrem;have HQUO:=zq hquo;have HRL:=zq hrl;clear hrem hquo hrl HTK HRM HQT HD3 HD4
   have hmk:∀ w:World,(Instr.makeSlice 154 (.int .i64 (nb:Int)) (.int .i64 (nb:Int))).run Tryz.prog w =
     .ok (.slice (some ⟨w.heap.size,0,none⟩) nb nb) (w.alloc (.cells (Array.replicate nb (.int .u32 0)) 213)):=mk_nat nb za
   go_wp2;clear hmk;have hnew:=zBK.new wr nb;have hbel:Below wr.heap.size wr (wr.alloc (.cells (Array.replicate nb (.int .u32 0)) 213)):=(bN _ _).alloc (aB _) _;have hU5:=hU'.below hbel;have hQ5:=hQ.below hbel;have hgu5:=hU'.lt;have hgq5:=hQ.lt;have hbw5:=zAb hbw hbel;have hsz5:=hbw.size;obtain ⟨gr,hgr⟩:∃ gr,gr=wr.heap.size:=⟨_,rfl⟩;obtain ⟨w5,hw5⟩:∃ w5,w5=wr.alloc (.cells (Array.replicate nb (.int .u32 0)) 213):=⟨_,rfl⟩;rw [←hgr] at hnew hgu5 hgq5 hsz5;rw [←hw5] at hnew hU5 hQ5 hbw5;rw [←hgr,←hw5];clear hgr hw5 hbel hbw hV' hU' hQ
   go_loopg [100] nb (RvRel w gu gq gr U' Q s nb)
   case atStart=>exact ⟨0,List.replicate nb 0,za,rfl,hnew,zg,WLt.zeros zBS _,jc,hU5,hQ5,hbw5,hsz5,hgu5,hgq5⟩
   case round =>
    clear hnew hU5 hQ5 hbw5;obtain ⟨k,R,hkm,rfl,hR,hRl,hRW,hVR,hU5,hQ5,hbw5,_,_,_⟩:=hrel;have HKM:=zq hkm;have HRL2:=zq hRl;have HVR:=zq hVR;clear hkm hRl hVR
    by_cases hlt:k<nb
    ·have hk1:k+1<U'.length:=by have:=HUL'.o;omega
     have hc0:=hU5.cell k za;have hc1:=hU5.cell (k+1) hk1;have hc2:=hR.cell k (by have:=HRL2.o;omega)
     have hf2:=hR.frozen k;have hx0:U'[k]<4294967296:=hUW'.get k za;have hx1:U'[k+1]<4294967296:=hUW'.get (k+1) hk1;obtain ⟨T,hT⟩:∃ T,T=U'[k]+4294967296*U'[k+1]:=⟨_,rfl⟩;have hor:bits .or .u64 (U'[k]:Int) ((U'[k+1]:Int)*4294967296)=(T:Int):=by rw [or_u64 _ _ hx0 hx1,hT];simp
     obtain ⟨D,hD⟩:∃ D,D=T / 2 ^ s:=⟨_,rfl⟩;have hDe:(T:Int) / 2 ^ s=(D:Int):=by rw [hD,Int.natCast_ediv,Int.natCast_pow];rfl
     have hDT:D≤T:=by rw [hD];exact Nat.div_le_self _ _
     have hTB:T≤18446744073709551615:=za;have HT:=zq hT;have HD:=zq hD;clear hT hD;have hsh:IntKind.u64.wrap ((U'[k+1]:Int)*4294967296)=(U'[k+1]:Int)*4294967296:=IntWalk.u64_in _ za;have hw1:IntKind.i64.wrap ((k:Int)+1)=(k:Int)+1:=IntWalk.i64_in _ za;go_wp2;have y1:(k:Int)<(na:Int)+1:=za;have y2:(k:Int)+1<(na:Int)+1:=za;have y3:(k:Int)<(nb:Int):=za;have y4:(0:Int)≤(k:Int)+1:=za;have y5:((k:Int)+1).toNat=k+1:=za;have y6:(0:Int)≤(k:Int):=za;refine wp_region_still_tail 19 zb zb ?_
     simp only [bH,cQ,cR,cJ]
     repeat still_step
     refine wpStill_nil ?_
     change wpList _ _ _ _ _ wr.drew
     clear y1 y2 y3 y4 y5 y6 hsh hw1;go_wp2
     go_roundg (gk - 1)
     case measure=>have:=HKM.o;omega
     case rel=>exact RvRel.step HKM.o hlt hR HRL2.o hRW hs4 hk1 hUW' HVR.o hU5 hQ5 hbw5 hsz5 hgu5 hgq5 HT.o rfl (by rw [←HD.o];rfl) ⟨1,rfl⟩
    ·obtain rfl:k=nb:=by have:=HKM.o;omega
     have HR:Hid (zAh B32 R=a % b):=by
      show _=_
      have h1:=HVR.o;have hul:=HUL'.o;have h2:zAh B32 (U'.drop (0+k))=0:=zCU (n:=k) (by rw [cJ];exact HRL.o) za
      rw [bF] at h2;have h3:=zCe B32 k U' za;rw [h2,Nat.mul_zero,cC,HREM.o] at h3
      have h4:U'.getD k 0=0:=by
       have h5:=zDf (B:=B32) (l:=U') (i:=k) za;rw [h2] at h5;have h6:U'.getD k 0=U'[k]'(by omega):=by simp [List.getD,show k<U'.length by omega]
       rw [h6];omega
      rw [cH (by rw [HRL2.o];omega),←h3,h4,Nat.zero_mod,Nat.mul_zero,cC] at h1
      have hp:=cK s;have h7:=aV (· / 2 ^ s) h1;simp only [Nat.mul_div_cancel _ hp] at h7;rw [Nat.add_comm,Nat.add_mul_div_left _ _ hp,Nat.div_eq_of_lt (aX _ hp),bF] at h7;exact h7
     have hql:=HQL.o;have hrl:=HRL2.o
     go_wp2_with fail
     rw [←hql];with_reducible refine (trim_n _ _ Q _ wr za (aB _) (by have:=hQ5.rd Q.length;rwa [bI] at this) hQW (bN _ _) HQUO.o).mono ?_
     rintro e w7 ⟨A7,c7,rfl,hn7,hb7⟩;clear hql;have hR7:=hR.below hb7
     go_wp2_with fail
     rw [←hrl];with_reducible refine (trim_n _ _ R _ w7 za (aB _) (by have:=hR7.rd R.length;rwa [bI] at this) hRW (bN _ _) HR.o).mono ?_
     rintro e w8 ⟨A8,c8,rfl,hn8,hb8⟩;clear hrl;go_wp2;go_ret2
     exact ⟨A7,c7,A8,c8,rfl,hn7.below hb8,hn8,zAb (zAb hbw5 hb7) hb8⟩
  ·obtain ⟨j,rfl⟩:∃ j,gk=j+1:=⟨gk - 1,za⟩
   obtain rfl:zz=(j:Int):=za;clear hzz;have hj:j+nb≤na:=za;obtain ⟨hw1,hw2,hw3,hw4⟩:=window (n:=nb) (v:=v) HUL'.o HUL.o za HTK.o HRM.o HD1.o HD2 hUW';obtain ⟨X,hX⟩:∃ X,X=(U'.drop j).take (nb+1):=⟨_,rfl⟩;rw [←hX] at hw1;have hst:=step_n gu j (na+1 - j) (nb+1) nb (some ⟨gv,0,none⟩) U' Vn X wr.drew za (show zBK wr.drew gu U' from hU') (by rw [HUL'.o];omega) hX hUW' (by rw [HVN.o];exact (show zBK wr.drew gv V from hV').rd nb) hVnW HVNL.o za HD4.o (by rw [HD3.o,hw1];exact hw2)
   rw [HD3.o,hw1] at hst;have HST:=zq hst;have HW2:=zq hw2;have HW3:=zq hw3;have HW4:=zq hw4;have hjq:j<Q.length:=by rw [HQL.o];omega
   have hc1:=hQ.cell j hjq;have hf1:=hQ.frozen j;clear hst hw1 hw2 hw3 hw4 hX;go_wp2;have hs1:IntKind.i64.wrap ((j:Int)+(nb:Int))=(j:Int)+(nb:Int):=IntWalk.i64_in _ za;have hs2:IntKind.i64.wrap ((j:Int)+(nb:Int)+1)=(j:Int)+(nb:Int)+1:=IntWalk.i64_in _ za;have hji:(j:Int)<((na - nb+1:Nat):Int):=za;have hji2:(j:Int)<((na - nb:Nat):Int)+1:=za;have hji3:(0:Int)≤(j:Int):=za;have hcw:=cutW gu j nb (na+1) za;have hcv:=cutV (some ⟨gv,0,none⟩) nb (nb+1) za
   go_region_held3 (fun _=>True) (trivial)
    (first
     | ((go_at_call 216;(with_reducible refine HST.o.mono ?_);rintro e w6 ⟨rfl,W,hWl,hWW,hWv,hU6,hg6⟩;have hQ6:zBK w6 gq Q:=(hg6.block gq hQ.lt (fun e=>qz)).trans hQ;have hc6:=hQ6.cell j hjq;have hf6:=hQ6.frozen j)))
   have hbw6:Below w.heap.size w w6:=⟨hg6.os.trans hbw.os,hg6.tape.trans hbw.tape,hg6.output.trans hbw.output,cM hbw.size hg6.size,fun i hi=>(hg6.block i (cP hi hbw.size) (fun e=>qz)).trans (hbw.block i hi)⟩
   have hV6:zBK w6 gv V:=(hg6.block gv hV'.lt (fun e=>qz)).trans hV'
   clear hs1 hs2 hcw hcv hji hji2 hji3 hc1 hf1 hc6 hf6 hg6;go_wp2
   go_roundg j
   case measure=>omega
   case rel =>
    clear HST;have hy:=Nat.div_add_mod' (zAh B32 (U.drop (j+1))) v;have hn:=div_next (B:=B32) (v:=v) (x:=U[j]'(by have:=HUL.o;omega)) (r:=zAh B32 (U.drop (j+1)) % v) HD2 (zAh B32 (U.drop (j+1)) / v)
    rw [hy] at hn;have hUj:zAh B32 (U.drop j)=U[j]'(by have:=HUL.o;omega)+B32*zAh B32 (U.drop (j+1)):=zDf (by have:=HUL.o;omega)
    rw [←hUj,←HW4.o] at hn;have hul:=HUL'.o;have hql:=HQL.o;have htk:(U'.take j).length=j:=by rw [bB];omega
    refine ⟨U'.take j++W++U'.drop (j+(nb+1)),Q.set j (zAh B32 (U'.drop j) / v),_,rfl,rfl,za,hU6.far (show gu≠gq by omega) _,?_,((hUW'.take j).append hWW).append (hUW'.drop _),hV6.far (show gv≠gq by omega) _,hQ6.set j _,by simpa using hql,hQW.set (quot_lt HW2.o) j,?_,?_,?_,hbw6.setCell (show w.heap.size≤gq by omega) _⟩
    ·rw [cS,cS,htk,hWl,bG];omega
    ·rw [bT,List.take_append_of_le_length za,List.take_take,Nat.min_self]
     have h1:=aV (List.take j) HTK.o
     rwa [List.take_take,List.take_take,bC za] at h1
    ·rw [wval_window za hWl HW3.o,hWv,hn.2]
    ·rw [drop_set_pred Q j _ hjq,zAh,HQT.o,hn.1,Nat.add_comm]
theorem Div_c (A A2:Option Addr) (c c2 a b:Nat) (w:World) (h:Nt w A c a) (h2:Nt w A2 c2 b) (hn:(zAf B32 a).length≤400000000) (hb:0<b) :
  Calls Tryz.prog 202 #[ntV A c a,ntV A2 c2 b] w (GivesNN (a / b) (a % b) w):=by
 rcases bK a b with hlt | hge
 ·exact Div_lt A A2 c c2 a b w h h2 hn hlt
 ·by_cases h3:(zAf B32 a).length≤2
  ·exact Div_small A A2 c c2 a b w h h2 h3 hge hb
  ·have h4:(zAf B32 b).length≠0:=fun e=>by
    have:=(words_nil zAs (n:=b)).1 (cT e);omega
   by_cases h5:(zAf B32 b).length=1
   ·exact Div_word A A2 c c2 a b w h h2 hn za h5 hge
   ·exact Div_long A A2 c c2 a b w h h2 hn za za hge
def GcRel (w:World) (G N:Nat) (m:Nat) (av bv:Value) (wr:World):Prop :=
 ∃ (A:Option Addr) (c:Nat) (A2:Option Addr) (c2 aa:Nat),av=ntV A c aa∧bv=ntV A2 c2 m∧Nt wr A c aa∧Nt wr A2 c2 m∧(zAf B32 aa).length≤N∧(zAf B32 m).length≤N∧Nat.gcd aa m=G∧Below w.heap.size w wr
def GcRel2 (w:World) (G:Nat) (m:Nat) (xv yv:Value) (wr:World):Prop :=
 ∃ xx:Nat,xv = .int .u64 (xx:Int)∧yv = .int .u64 (m:Int)∧xx≤18446744073709551615∧m≤18446744073709551615∧Nat.gcd xx m=G∧Below w.heap.size w wr
theorem gcd_c (A A2:Option Addr) (c c2 a b:Nat) (w:World) (h:Nt w A c a) (h2:Nt w A2 c2 b) (hn:(zAf B32 a).length≤400000000) (hn2:(zAf B32 b).length≤400000000) :
  Calls Tryz.prog 201 #[ntV A c a,ntV A2 c2 b] w (GivesN (Nat.gcd a b) w):=by
 go_enter Tryz.func201,Tryz.ntmps201
 go_wp2
 go_loopg [0,1] b (GcRel w (Nat.gcd a b) 400000000)
 case atStart=>exact ⟨A,c,A2,c2,a,rfl,rfl,h,h2,hn,hn2,rfl,bN _ _⟩
 case round =>
  clear h h2 hn hn2;obtain ⟨A3,c3,A4,c4,aa,rfl,rfl,h,h2,hn,hn2,hG,hb⟩:=hrel;have HG:=zq hG;have HB:=zq hb;clear hG hb
  rcases bE gk with h0 | h0
  ·subst h0
   go_wp2;go_ret
   have e:aa=Nat.gcd a b:=by rw [←HG.o,Nat.gcd_zero_right]
   rw [←e];exact ⟨A3,c3,rfl,h,HB.o⟩
  ·have hl:0<(zAf B32 gk).length:=by
    rcases bE (zAf B32 gk).length with e | e
    ·have:=(words_nil zAs (n:=gk)).1 (cT e)
     omega
    ·exact e
   by_cases hs:(zAf B32 aa).length≤2∧(zAf B32 gk).length≤2
   ·obtain ⟨hs1,hs2⟩:=hs
    have la:=small_lt hs1;have lb:=small_lt hs2
    go_wp2_with fail
    with_reducible refine (zCD A3 c3 aa _ h hs1).mono ?_
    rintro e w' ⟨rfl,nd,rfl⟩
    go_wp2_with fail
    with_reducible refine (zCD A4 c4 gk _ (h2.drewN nd) hs2).mono ?_
    rintro e w' ⟨rfl,nd2,rfl⟩;go_wp2;have HB2:Hid (Below w.heap.size w (wr.drewN (nd+nd2))):=zAc HB.o _;obtain ⟨wo,hwo⟩:∃ wo:World,wo=wr.drewN (nd+nd2):=⟨_,rfl⟩;rw [←hwo] at HB2 ⊢;clear hwo HB h0 hl
    go_loopg [5,7] gk (GcRel2 w (Nat.gcd a b))
    case atStart=>exact ⟨aa,rfl,rfl,la,lb,HG.o,HB2.o⟩
    case round =>
     clear HG la lb HB2;obtain ⟨xx,rfl,rfl,hx,hy,hG2,hb2⟩:=hrel;have HG2:=zq hG2;clear hG2
     rcases bE gk with h0 | h0
     ·subst h0
      go_wp2_with fail
      have e:xx=Nat.gcd a b:=by rw [←HG2.o,Nat.gcd_zero_right]
      have HE:=zq e;clear e;with_reducible refine (natOf_c xx _ za).mono ?_
      rintro e w5 ⟨A5,c5,rfl,h5,hb5⟩;go_wp2;go_ret
      rw [←HE.o];exact ⟨A5,c5,rfl,h5,zAb hb2 hb5⟩
     ·have hbz:¬ gk=0:=by omega
      obtain ⟨r,hr⟩:∃ r,xx % gk=r:=⟨_,rfl⟩;have hrl:r<gk:=by rw [←hr];exact aX _ h0
      have e2:(xx:Int).tmod (gk:Int)=(r:Int):=by rw [IntWalk.rem_in _ _ za,←hr];exact (Int.natCast_emod xx gk).symm
      have e4:IntKind.u64.wrap (r:Int)=(r:Int):=IntWalk.u64_in _ za;have HR:=zq hr;clear hr;go_wp2
      go_quiet (fail)
      clear e2 e4 hbz;go_wp2
      go_roundg r
      case measure=>exact hrl
      case rel=>exact ⟨gk,rfl,rfl,hy,za,by rw [←HG2.o,←HR.o,←gcd_step],zAc hb2 _⟩
   ·have hsa:=fun nd:Nat=>small_c A3 c3 aa (wr.drewN nd) (h.drewN nd) za
    have hsb:=fun nd:Nat=>small_c A4 c4 gk (wr.drewN nd) (h2.drewN nd) za
    have hd:=fun nd:Nat=>Div_c A3 A4 c3 c4 aa gk (wr.drewN nd) (h.drewN nd) (h2.drewN nd) hn h0
    have hsa0:=small_c A3 c3 aa wr h za;unfold smV at hsa hsb hsa0
    have HLB:Hid ((zAf B32 (aa % gk)).length≤400000000):=by
     show _≤_
     exact cM (zBE zAs (bD (aX aa h0))) hn2
    have hq:(decide ((zAf B32 aa).length≤2)&&decide ((zAf B32 gk).length≤2))=false:=by
     rw [←Bool.decide_and];exact cF hs
    generalize decide ((zAf B32 aa).length≤2)=p1 at *;generalize decide ((zAf B32 gk).length≤2)=p2 at *;generalize (if (zAf B32 aa).length≤2 then (aa:Int) else 0)=v1 at *
    generalize (if (zAf B32 gk).length≤2 then (gk:Int) else 0)=v2 at *
    have HSA:=zq hsa;have HSB:=zq hsb;have HSA0:=zq hsa0;have HD:=zq hd;clear hsa hsb hsa0 hd hs;have HQ:=zq hq;clear hq
    cases p1
    case' true =>
     obtain rfl:p2=false:=by have:=HQ.o;simpa using this
    all_goals
     go_wp2_with fail
     with_reducible refine HSA0.o.mono ?_
     rintro e w' ⟨rfl,nd,rfl⟩
     go_wp2_with fail
     with_reducible refine (HSB.o nd).mono ?_
     rintro e w' ⟨rfl,nd2,rfl⟩
     go_wp2_with fail
     with_reducible refine (HD.o (nd+nd2)).mono ?_
     rintro e w6 ⟨A5,c5,A6,c6,rfl,h5,h6,hb6⟩;have hb7:Below wr.heap.size wr w6:=(zAc (bN wr.heap.size wr) _).trans hb6;have hn7:=h2.below hb7;have HB7:=zq (zAb HB.o hb7);clear hb6 hb7 h5;go_wp2
     go_roundg (aa % gk)
     case measure=>exact aX _ h0
     case rel=>exact ⟨A4,c4,A6,c6,gk,rfl,rfl,hn7,h6,hn2,HLB.o,by rw [←HG.o,←gcd_step],HB7.o⟩
end Go.Proofs.YtoaelidmmcbkfaaGreatDoor
namespace Dw
open Go Go.RowKit
theorem zCO {P:Program} {α:Type} {enc:α→List Value} {k:Nat} {ops:Array Oper} {rest:List Oper} {o:Oper} {a:Act} {w:World} {Q:Exit→Act→World→Prop}
  {e:TypeId} {z:Value} {bytes:Nat} (s x:Operand) (t:TypeId) (hT:ElemT P t e z k bytes) (hgd:o.guard=none) (ho:o.op = .call { callee:=.builtin .append,args:=#[s,x],argTypes:=#[t,t] })
  (base:Nat) (v:Value) (l:List α) (hs:a.eval s=v) (hown:zAN enc k w base e v l)
  (g cp:Nat) (y:α) (hx:a.eval x = .slice (some ⟨g,0,none⟩) 1 cp) (hnew:w.heap[g]?=some (.cells (enc y).toArray e (0,0)))
  (hk:(enc y).length=k) (hone:∀ u∈enc y,u.oneCell'=true) (hlen:l.length+1≤maxLen) (hbytes:(l.length+1)*bytes≤140737488355328) (hbase:base≤w.heap.size)
  (h:∀ A' c' w',zAN enc k w' base e (.slice A' (l.length+1) c') (l++[y])→w.grownBy w' v.ownBlock→Below base w w'→((Value.slice A' (l.length+1) c').ownBlock=v.ownBlock∨(Value.slice A' (l.length+1) c').ownBlock=some w.heap.size) →
   wpList P ops Q rest (a.put o.dst (.slice A' (l.length+1) c')) w'):wpList P ops Q (o::rest) a w:=by
 obtain ⟨i,hi,hz0,hz1,hz2⟩:=info_parts hT.info;refine wpList_append_own_at _ hgd s x t ho base e i z k bytes hT.ty hi hz0 hz1 hz2 hT.zs hT.pos v l.length (l.flatMap enc) hs hown ⟨g,0,none⟩ 1 cp (enc y) hx (by rw [hk];omega) ?_ hone hlen hbytes hbase ?_
 ·intro j u hj
  exact World.news_of_block hnew j u (by simpa using hj)
 ·intro v' w' h1 h2 _ h4
  have ho':zAN enc k w' base e v' (l++[y]):=by
   unfold zAN
   simpa using h1
  obtain ⟨A',c',rfl⟩:∃ A' c',v' = .slice A' (l.length+1) c':=by
   rcases h1.2 with ⟨rfl,hn⟩ | ⟨g,cap,cur,rfl,_⟩
   ·omega
   ·exact ⟨_,_,rfl⟩
  exact h A' c' w' ho' h2 ((bN _ _).grown h2 hbase fun j hj=>(bO hown j hj).1) h4
end Dw
namespace Go.Proofs.YtoaelidmmcbkfaaGreatDoor
open Go.RowKit Dw
def encU:Nat→List Value:=fun n=>[u32V n]
abbrev OwnU (w:World) (B:Nat) (v:Value) (L:List Nat):Prop:=zAN encU 1 w B 213 v L
theorem ownU_map (L:List Nat):L.flatMap encU=L.map u32V:=flat1 L
theorem OwnU.get {w:World} {B g c n:Nat} {L:List Nat} (h:OwnU w B (.slice (some ⟨g,0,none⟩) n c) L) (hn:n=L.length) (i:Nat) (hi:i<L.length):w.cell? ⟨g,i,none⟩=some (.int .u32 ((L[i]:Nat):Int))∧w.frozen? ⟨g,i,none⟩=false:=by
 subst hn;unfold OwnU zAN at h;rw [ownU_map] at h;have h1:=World.ownsRow.cellAt h i za;exact ⟨by rw [h1];simp [hi,u32V],World.ownsRow.frozenAt h i⟩
theorem OwnU.put {w:World} {B g c n:Nat} {L:List Nat} (h:OwnU w B (.slice (some ⟨g,0,none⟩) n c) L) (hn:n=L.length) (i x:Nat) :
  OwnU (w.setCell ⟨g,i,none⟩ (.int .u32 (x:Int))) B (.slice (some ⟨g,0,none⟩) n c) (L.set i x):=by
 subst hn;unfold OwnU zAN at h ⊢;rw [ownU_map] at h ⊢;have h1:=(World.ownsRow.stored h i (.int .u32 (x:Int))).1;rw [List.map_set,List.length_set];exact h1
theorem words_of {L:List Nat} (h:WLt B32 L) (h2:L=[]∨B32 ^ (L.length - 1)≤zAh B32 L):L=zAf B32 (zAh B32 L):=by
 rw [←wtrim_words zAs h]
 rcases h2 with rfl | h2
 ·rfl
 ·rcases bE L.length with h0 | h0
  ·rw [cT h0];rfl
  ·have e:L.length - 1<L.length:=by omega
   have h3:=wtrim_take_ne (L:=L) (k:=L.length - 1) e;rw [show L.length - 1+1=L.length by omega,bI] at h3
   refine (h3 fun h0=>?_).symm
   have h4:=zAR (B:=B32) (l:=L) (i:=L.length - 1) e;rw [h0,show L.length - 1+1=L.length by omega,bI,Nat.mul_zero,cC] at h4
   have h5:=zDr (h.take (L.length - 1));rw [bB,bC za] at h5;omega
theorem dgB_of {c:UInt8} (h:dgB c=true):48≤c.toNat∧c.toNat≤57:=by
 unfold dgB at h
 simpa using h
theorem decV_snoc (l:List UInt8) (c:UInt8):zBL (l++[c])=10*zBL l+(c.toNat - 48):=by
 rw [zDk];have:zBL [c]=c.toNat - 48:=by simp [zBL]
 rw [this];simp;omega
theorem decV_dg {l:List UInt8} (h:l.all dgB=true):zBL l<10 ^ l.length :=
 decV_lt fun c hc=>by have:=dgB_of (List.all_eq_true.1 h c hc);omega
theorem last_words {n:Nat}:zAf B32 n=[]∨B32 ^ ((zAf B32 n).length - 1)≤n:=by
 rcases bE (zAf B32 n).length with h0 | h0
 ·exact .inl (cT h0)
 ·have:=wval_ge (B:=B32) h0 (words_last zAs h0)
  rw [zAE zAs] at this;exact .inr this
theorem scale_step {L L2:List Nat} {i cy sc c0 t:Nat} (hi:i<L.length) (hl:L2.length=L.length) (hd:L2.drop i=L.drop i) (ht:t=cy+sc*L[i]) (hV:zAh B32 (L2.take i)+B32 ^ i*cy=zAh B32 (L.take i)*sc+c0) :
  zAh B32 ((L2.set i (t % 4294967296)).take (i+1))+B32 ^ (i+1)*(t / 4294967296)=zAh B32 (L.take (i+1))*sc+c0∧(L2.set i (t % 4294967296)).drop (i+1)=L.drop (i+1):=by
 refine ⟨?_,?_⟩
 ·rw [wval_put za,zAR hi]
  have e:=scale_col (B:=B32) (i:=i) (o:=zAh B32 (L2.take i)) ht;rw [zBZ] at e ⊢;rw [zBZ] at hV;rw [e,hV,aR,aQ,aP L[i] sc];omega
 ·rw [List.drop_set_of_lt (Nat.lt_succ_self i)]
  have h1:=aV (List.drop 1) hd
  rwa [bR,bR] at h1
theorem scale_words {L2:List Nat} {n cy N:Nat} (hW:WLt B32 L2) (hl:L2.length=(zAf B32 n).length) (hV:zAh B32 L2+B32 ^ (zAf B32 n).length*cy=N) (hn:n≤N) (hcy:cy<B32) :
  (cy=0→L2=zAf B32 N)∧(0<cy→L2++[cy]=zAf B32 N):=by
 refine ⟨fun h=>?_,fun h=>?_⟩
 ·rw [h,Nat.mul_zero,cC] at hV
  rw [←hV];refine words_of hW ?_
  rcases last_words (n:=n) with e | e
  ·rw [e] at hl
   exact .inl (cT hl)
  ·rw [hl,hV]
   exact .inr (cM e hn)
 ·have e:zAh B32 (L2++[cy])=N:=by rw [zBP,wval_one,hl,hV]
  rw [←e];refine words_of (hW.append (WLt.cons hcy WLt.nil)) (.inr ?_)
  rw [zBP,wval_one];have h2:=aZ (B32 ^ L2.length) h;rw [Nat.mul_one] at h2;have e3:(L2++[cy]).length - 1=L2.length:=zg;rw [e3];exact cM h2 (Nat.le_add_left _ _)
def NtRel (w:World) (s:BA) (m:Nat) (sv av:Value) (wr:World):Prop :=
 ∃ (t:BA) (pre:List UInt8) (A:Option Addr) (c:Nat),sv = .string t∧m=t.size∧pre++t.data.toList=s.data.toList∧av=ntV A c (zBL pre)∧OwnU wr w.heap.size (ntV A c (zBL pre)) (zAf B32 (zBL pre))∧Below w.heap.size w wr
def NtRel2 (w1:World) (t:BA) (k:Nat) (m:Nat) (cv scv iv:Value) (wr:World):Prop :=
 ∃ i:Nat,i+m=k∧iv = .int .i64 i∧cv = .int .u64 ((zBL (t.data.toList.take i):Nat):Int)∧scv = .int .u64 ((10 ^ i:Nat):Int)∧wr=w1
def NtRel3 (w:World) (A:Option Addr) (c:Nat) (L:List Nat) (c0 sc:Nat) (m:Nat) (cv iv:Value) (wr:World):Prop :=
 ∃ (i cy:Nat) (L2:List Nat),i+m=L.length∧iv = .int .i64 i∧cv = .int .u64 (cy:Int)∧cy≤1000000000∧L2.length=L.length∧WLt B32 L2∧L2.drop i=L.drop i ∧
  zAh B32 (L2.take i)+B32 ^ i*cy=zAh B32 (L.take i)*sc+c0∧OwnU wr w.heap.size (.slice A L.length c) L2∧Below w.heap.size w wr
theorem OwnU.nt {w:World} {B c n:Nat} {A:Option Addr} (h:OwnU w B (ntV A c n) (zAf B32 n)):Nt w A c n:=by
 have hcap:(zAf B32 n).length≤c:=by
  rcases h.2 with ⟨h',hn⟩ | ⟨g',cap',cur,h',_,_,hnc,_⟩
  ·rw [hn];exact aU _
  ·simp only [ntV,Value.slice.injEq] at h'
   omega
 obtain ⟨A',c',hv,hr⟩:=zAN.rd1 (f:=u32V) h;simp only [ntV,Value.slice.injEq,true_and] at hv;obtain ⟨rfl,rfl⟩:=hv;exact ⟨hr,hcap⟩
theorem zCh (s:BA) (k:Nat) (h:k<s.size):s.data.toList[k]'(by simpa using h)=s[k]:=rfl
theorem decV_take {t:BA} {i:Nat} (h:i<t.size):zBL (t.data.toList.take (i+1))=10*zBL (t.data.toList.take i)+(t[i].toNat - 48):=by
 rw [bA yn,decV_snoc,zCh t i h]
theorem natText_c (s:BA) (w:World) (hd:s.data.toList.all dgB=true) (hs:s.size≤2000) :
  Calls Tryz.prog 145 #[.string s] w (GivesN (zAX s) w):=by
 go_enter Tryz.func145,Tryz.ntmps145
 go_wp2
 go_loopg [0,3] s.size (NtRel w s)
 case atStart=>exact ⟨s,[],none,0,rfl,rfl,rfl,rfl,zAN.nil encU 1 w w.heap.size 213,bN _ _⟩
 case round =>
  obtain ⟨t,pre,A,c,rfl,hm,hpre,rfl,hown,hbw⟩:=hrel;have HM:=zq hm;have HPRE:=zq hpre
  have htd:t.data.toList.all dgB=true:=by
   rw [←hpre,List.all_append,cU] at hd;exact hd.2
  have hpd:pre.all dgB=true:=by
   rw [←hpre,List.all_append,cU] at hd;exact hd.1
  have hlen:pre.length+t.size≤2000:=by
   have:=aV List.length hpre;rw [cS] at this;have e1:t.data.toList.length=t.size:=zg;have e2:s.data.toList.length=s.size:=zg;omega
  have HTD:=zq htd;have HPD:=zq hpd
  have hwl:(zAf B32 (zBL pre)).length≤2000:=by
   have h1:=decV_dg hpd;have h2:10 ^ pre.length≤B32 ^ pre.length:=Nat.pow_le_pow_left zc _;have:=zCj zAs (cP h1 h2);omega
  clear hm hpre htd hpd
  rcases bE t.size with h0 | h0
  ·go_wp2
   go_ret
   have e:zAX s=zBL pre:=by
    unfold zAX;rw [←HPRE.o,cT (l:=t.data.toList) (by simpa using h0),aD]
   rw [e];exact ⟨A,c,rfl,hown.nt,hbw⟩
  ·obtain ⟨k,hk⟩:∃ k,k=min 9 t.size:=⟨_,rfl⟩
   have hmin:min (9:Int) (t.size:Int)=(k:Int):=by rw [hk];omega
   have hk1:k≤9:=za;have hk2:k≤t.size:=za;have hk3:1≤k:=za;clear hk;go_wp2;obtain ⟨wo,hwo⟩:∃ wo:World,wo=wr:=⟨_,rfl⟩;subst hwo;clear hmin
   go_loopg [5,6,16] k (NtRel2 wo t k)
   case atStart=>exact ⟨0,za,rfl,rfl,rfl,rfl⟩
   case round =>
    obtain ⟨i,him,rfl,rfl,rfl,hw⟩:=hrel;subst hw;have HIM:=zq him;clear him;obtain ⟨cc,hcc⟩:∃ cc,zBL (t.data.toList.take i)=cc:=⟨_,rfl⟩;obtain ⟨sc,hsc⟩:∃ sc,10 ^ i=sc:=⟨_,rfl⟩;rw [hcc,hsc]
    have hcsc:cc<sc:=by
     have h1:=decV_dg (l:=t.data.toList.take i) (by
      rw [List.all_eq_true];exact fun x hx=>List.all_eq_true.1 HTD.o x (List.mem_of_mem_take hx))
     rw [bB] at h1;have e2:t.data.toList.length=t.size:=zg;have e3:min i t.data.toList.length=i:=by have:=HIM.o;omega
     rw [e3,hcc,hsc] at h1;exact h1
    by_cases hlt:i<k
    ·have hsc9:sc≤100000000:=by
      rw [←hsc];exact cM (bJ za (show i≤8 by omega)) zc
     have hit:i<t.size:=za;have hdg:=dgB_of (List.all_eq_true.1 HTD.o t[i] (by rw [←zCh t i hit];exact aI _))
     obtain ⟨hd1,hd2⟩:=hdg;have HCC:=zq hcc;have HSC:=zq hsc;clear hcc hsc;go_wp2
     go_roundg (gk - 1)
     case measure=>have:=HIM.o;omega
     case rel =>
      refine ⟨i+1,by have:=HIM.o;omega,zx,?_,?_,rfl⟩
      ·rw [decV_take hit,HCC.o]
       congr 1
       omega
      ·rw [aN,HSC.o]
       congr 1
       omega
    ·obtain rfl:i=k:=by have:=HIM.o;omega
     have hsc9:sc≤1000000000:=by
      rw [←hsc];exact cM (bJ za hk1) zc
     have hsc1:1≤sc:=by rw [←hsc];exact Nat.pow_pos za
     have HNV:Hid (zBL (pre++t.data.toList.take i)=zBL pre*sc+cc):=by
      show _=_
      have e2:(t.data.toList.take i).length=i:=by rw [bB];simp;omega
      rw [zDk,e2,hcc,hsc]
     have HNX:Hid ((pre++t.data.toList.take i)++(t.extract i t.size).data.toList=s.data.toList):=by
      show _=_
      rw [bT,Lib.extract_data,cH (l:=List.drop i t.data.toList) (by rw [bG];simp),List.take_append_drop]
      exact HPRE.o
     have hxs:(t.extract i t.size).size=t.size - i:=zg;have HXS:=zq hxs;have hL:=zBo zAs (zBL pre);have HWV:=zq (zAE zAs (zBL pre))
     have HLW:Hid (∀ (L2:List Nat) (cy:Nat),WLt B32 L2→L2.length=(zAf B32 (zBL pre)).length→zAh B32 L2+B32 ^ (zAf B32 (zBL pre)).length*cy=zBL pre*sc+cc→cy<B32→(cy=0→L2=zAf B32 (zBL pre*sc+cc))∧(0<cy→L2++[cy]=zAf B32 (zBL pre*sc+cc))) :=
      fun L2 cy h1 h2 h3 h4=>scale_words h1 h2 h3 (cM (Nat.le_mul_of_pos_right _ hsc1) (Nat.le_add_right _ _)) h4
     clear hcc hsc hxs;unfold ntV at hown ⊢;obtain ⟨L,hLd⟩:∃ L,zAf B32 (zBL pre)=L:=⟨_,rfl⟩;rw [hLd] at hown hL HWV HLW hwl;rw [hLd];have HLD:=zq hLd;clear hLd;go_wp2;have HBW:=zq hbw;clear hbw
     go_loopg [5,35] L.length (NtRel3 w A c L cc sc)
     case atStart=>exact ⟨0,cc,L,za,rfl,rfl,za,rfl,hL,rfl,jc,hown,HBW.o⟩
     case round =>
      clear hown HBW;obtain ⟨j,cy,L2,hjm,rfl,rfl,hcy,hl2,hW2,hdr,hV2,hown,hbw⟩:=hrel;have HJM:=zq hjm;have HL2:=zq hl2;have HDR:=zq hdr;have HV2:=zq hV2;clear hjm hl2 hdr hV2
      by_cases hj:j<L.length
      ·have hj2:j<L2.length:=by have:=HL2.o;omega
       have e2:L2[j]=L[j]:=by
        have h1:=HDR.o;rw [aF hj2,aF hj] at h1
        injection h1
       obtain ⟨g,cap',hv,_,hglt⟩:=World.ownsRow.form hown za;simp only [Value.slice.injEq] at hv;obtain ⟨rfl,_,_⟩:=hv;obtain ⟨hc1,hf1⟩:=OwnU.get hown HL2.o.symm j hj2;rw [e2] at hc1;have hx:L[j]<4294967296:=hL.get j hj;obtain ⟨p,hp⟩:∃ p,p=sc*L[j]:=⟨_,rfl⟩;have hpB:p≤1000000000*4294967295:=by rw [hp];exact cI hsc9 za
       have hpe:(sc:Int)*(L[j]:Int)=(p:Int):=by rw [hp];exact (bZ _ _).symm
       obtain ⟨T,hT⟩:∃ T,T=cy+p:=⟨_,rfl⟩;have hTe:(cy:Int)+(p:Int)=(T:Int):=by rw [hT];exact (Int.natCast_add _ _).symm
       have hTB:T≤4294967296000000000:=za;have hst:=scale_step (t:=T) hj HL2.o HDR.o (by rw [hT,hp]) HV2.o
       have HST:=zq hst;clear hp hT hst e2 hpB;go_wp2
       go_roundg (gk - 1)
       case measure=>have:=HJM.o;omega
       case rel =>
        refine ⟨j+1,T / 4294967296,L2.set j (T % 4294967296),by have:=HJM.o;omega,zx,rfl,za,by rw [List.length_set];exact HL2.o,hW2.set (modB T) j,HST.o.2,HST.o.1,OwnU.put hown HL2.o.symm j _,hbw.setCell (bO hown g (by simp [Value.ownBlock])).1 _⟩
      ·obtain rfl:j=L.length:=by have:=HJM.o;omega
       have hres:=HLW.o L2 cy hW2 HL2.o (by
        have h1:=HV2.o;rw [cH (by have:=HL2.o;omega),cH (aB _),HWV.o] at h1
        exact h1) yw
       have HRES:=zq hres;clear hres
       rcases bE cy with h0 | h0
       ·subst h0
        have hlw:=HRES.o.1 rfl;have HLW2:=zq hlw;clear hlw;go_wp2
        go_roundg (t.size - i)
        case measure=>have:=HM.o;omega
        case rel =>
         have e:=HLW2.o;have e2:=HL2.o;refine ⟨t.extract i t.size,pre++t.data.toList.take i,A,c,rfl,HXS.o.symm,HNX.o,?_,?_,hbw⟩
         ·rw [HNV.o]
          show Value.slice A L.length c = .slice A (zAf B32 (zBL pre*sc+cc)).length c
          rw [←e,e2]
         ·rw [HNV.o]
          show OwnU wr w.heap.size (.slice A (zAf B32 (zBL pre*sc+cc)).length c) (zAf B32 (zBL pre*sc+cc))
          rw [←e,e2];exact hown
       ·have hlw:=HRES.o.2 h0
        have HLW2:=zq hlw;have hl2:=HL2.o;clear hlw;rw [←hl2] at hown hwl ⊢
        go_wp2_with (at_builtin;refine zCO _ _ _ elNat rfl rfl w.heap.size _ L2 rfl (zAN.alloc hown _) wr.heap.size 1 cy rfl (bY _ _) rfl (by simp [encU,u32V,Value.oneCell']) yk za (by simp;exact Nat.le_succ_of_le hbw.size) ?_;intro A7 c7 w7 hown7 hg7 hb7 hat7)
        have hbw7:=(hbw.alloc hbw.size _).trans hb7;go_wp2
        go_roundg (t.size - i)
        case measure=>have:=HM.o;omega
        case rel =>
         have e:=HLW2.o;have e3:(zAf B32 (zBL pre*sc+cc)).length=L2.length+1:=by rw [←e];simp
         refine ⟨t.extract i t.size,pre++t.data.toList.take i,A7,c7,rfl,HXS.o.symm,HNX.o,?_,?_,hbw7⟩
         ·rw [HNV.o]
          show Value.slice A7 (L.length+1) c7 = .slice A7 (zAf B32 (zBL pre*sc+cc)).length c7
          rw [e3,HL2.o]
         ·rw [HNV.o]
          show OwnU w7 w.heap.size (.slice A7 (zAf B32 (zBL pre*sc+cc)).length c7) (zAf B32 (zBL pre*sc+cc))
          rw [e3,←e];exact hown7
theorem data_get (s:BA) (k:Nat) (h:k<s.size):s.data.toList[k]'(by simpa using h)=s[k]:=rfl
theorem zCX (s:BA) (h:0<s.size):s.data.toList.headD 0=s[0]:=by
 rw [←data_get s 0 h,List.headD_eq_head?_getD,List.head?_eq_getElem?];simp [h]
theorem isNm_all {s:BA} (h1:1≤s.size) (h2:s.size≤40) (h3:97≤(s[0]'h1).toNat) (h4:(s[0]'h1).toNat≤122):zAC s=s.data.toList.all okB:=by
 unfold zAC;rw [zCX s h1];simp [h1,h2,h3,h4]
theorem parBad_false {l:List Rg} (h:∀ j (h:j<l.length),zCr l l[j]=false) {i:Nat} (hi:i<l.length) (hp:(l[i]).par≠emp):∃ j,idx l (l[i]).par=some j:=by
 have:=h i hi;unfold zCr at this
 cases hx:idx l (l[i]).par with
 | some j=>exact ⟨j,rfl⟩
 | none=>rw [hx] at this;simp [hp] at this
theorem chkR_head {l:List Rg} (h1:l≠[]) (h2:¬ 200<l.length):chkR l=match (List.range l.length).findSome? (zBe l) with
 | some f=>f
 | none=>if l.any (zCr l)=true then 5 else if EndsR l then 0 else 14:=by
 unfold chkR;rw [aC h1,aC h2]<;>rfl
theorem chkR_first {l:List Rg} (h1:l≠[]) (h2:¬ 200<l.length) {k:Nat} {x:Int} (hk:k<l.length) (hpre:∀ j,j<k→zBe l j=none) (h:zBe l k=some x):chkR l=x:=by
 rw [chkR_head h1 h2,zBi hk hpre h]
theorem chkR_par {l:List Rg} (h1:l≠[]) (h2:¬ 200<l.length) (hpre:∀ j,j<l.length→zBe l j=none) {k:Nat} (hk:k<l.length) (h:zCr l l[k]=true):chkR l=5:=by
 rw [chkR_head h1 h2,zBs hpre];simp only [];rw [aE (List.any_eq_true.2 ⟨l[k],aI hk,h⟩)]
theorem chkR_last {l:List Rg} (h1:l≠[]) (h2:¬ 200<l.length) (hpre:∀ j,j<l.length→zBe l j=none) (h:∀ j (h:j<l.length),zCr l l[j]=false):chkR l=if EndsR l then 0 else 14:=by
 rw [chkR_head h1 h2,zBs hpre];simp only [];rw [aC];intro hh;obtain ⟨x,hx,hb⟩:=List.any_eq_true.1 hh;obtain ⟨j,hj,rfl⟩:=bL hx;rw [h j hj] at hb;cases hb
end Go.Proofs.YtoaelidmmcbkfaaGreatDoor
