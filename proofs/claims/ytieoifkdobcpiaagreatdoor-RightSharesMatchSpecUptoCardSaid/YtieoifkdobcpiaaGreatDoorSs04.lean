/- Parts of the proof, joined: Package num: Div. Package num: long division. Package num: gcd. Titles. -/
import Derived.Test.YtieoifkdobcpiaaGreatDoorSs03
import Derived.Deep.RegionHeld3
import Derived.StillTailTactics
import Derived.Lib.Strings
set_option maxRecDepth 100000
set_option maxHeartbeats 8000000
namespace Go.Proofs.YtieoifkdobcpiaaGreatDoor
open Go.RowKit Dw
theorem Nt.zero (w:World):Nt w none 0 0:=⟨Rd1.nil,Nat.le_refl _⟩
theorem Cmp_ge {A A2:Option Addr} {c c2 a b:Nat} {w:World} (h:Nt w A c a) (h2:Nt w A2 c2 b) (hn:(zAc B32 a).length≤1000000000) (hge:b≤a) :
  ∃ z:Int,0≤z∧Calls Tryz.prog 116 #[ntV A c a,ntV A2 c2 b] w (zBq (.int .i64 z) w):=by
 refine ⟨zDq a b,?_,Cmp_c A A2 c c2 a b w h h2 hn⟩
 unfold zDq;rw [if_neg za]
 split<;>omega
theorem Div_lt (A A2:Option Addr) (c c2 a b:Nat) (w:World) (h:Nt w A c a) (h2:Nt w A2 c2 b) (hn:(zAc B32 a).length≤400000000) (hlt:a<b) :
  Calls Tryz.prog 168 #[ntV A c a,ntV A2 c2 b] w (GivesNN (a / b) (a % b) w):=by
 rw [Nat.div_eq_of_lt hlt,Nat.mod_eq_of_lt hlt];have hc:=Cmp_c A A2 c c2 a b w h h2 za;rw [zBF hlt] at hc;have HC:=zq hc;clear hc hlt
 go_enter Tryz.func168,Tryz.ntmps168
 go_wp2_with fail
 with_reducible refine HC.o.mono ?_
 rintro e w' ⟨rfl,nd,rfl⟩;clear HC;go_wp2;go_ret2
 exact ⟨none,0,A,c,rfl,Nt.zero _,h.drewN nd,zAd (Below.refl _ _) nd⟩
theorem Div_small (A A2:Option Addr) (c c2 a b:Nat) (w:World) (h:Nt w A c a) (h2:Nt w A2 c2 b) (hn:(zAc B32 a).length≤2) (hge:b≤a) (hb:0<b) :
  Calls Tryz.prog 168 #[ntV A c a,ntV A2 c2 b] w (GivesNN (a / b) (a % b) w):=by
 obtain ⟨z,hz,hc⟩:=Cmp_ge h h2 za hge;have hm:=Nat.le_trans (zAq zAt hge) hn;have la:=small_lt hn;have lb:=small_lt hm;have HC:=zq hc;clear hc hge
 go_enter Tryz.func168,Tryz.ntmps168
 go_wp2_with fail
 with_reducible refine HC.o.mono ?_
 rintro e w' ⟨rfl,nd,rfl⟩;clear HC
 go_wp2_with fail
 with_reducible refine (zDd A c a _ (h.drewN nd) hn).mono ?_
 rintro e w' ⟨rfl,nd1,rfl⟩
 go_wp2_with fail
 have h2d:=h2.drewN (nd+nd1);with_reducible refine (zDd A2 c2 b _ h2d hm).mono ?_
 rintro e w' ⟨rfl,nd2,rfl⟩;obtain ⟨q,hq⟩:∃ q,a / b=q:=⟨_,rfl⟩;obtain ⟨r,hr⟩:∃ r,a % b=r:=⟨_,rfl⟩;have hqa:q≤a:=by rw [←hq];exact Nat.div_le_self a b
 have hra:r≤a:=by rw [←hr];exact Nat.mod_le a b
 have e1:(a:Int) / (b:Int)=(q:Int):=by rw [←hq];exact (Int.natCast_ediv a b).symm
 have e2:(a:Int).tmod (b:Int)=(r:Int):=by rw [IntWalk.rem_in _ _ za,←hr];exact (Int.natCast_emod a b).symm
 have e3:IntKind.u64.wrap (q:Int)=(q:Int):=IntWalk.u64_in _ za;have e4:IntKind.u64.wrap (r:Int)=(r:Int):=IntWalk.u64_in _ za;have hbz:¬ b=0:=za
 have hbq:∀ W:World,(binOp .quo 95 (.int .u64 (a:Int)) (.int .u64 (b:Int))).run Tryz.prog W = .ok (.int .u64 (q:Int)) W:=fun W=>by
  simp [go_sem,hbz,e1,e3]
 have hbr:∀ W:World,(binOp .rem 95 (.int .u64 (a:Int)) (.int .u64 (b:Int))).run Tryz.prog W = .ok (.int .u64 (r:Int)) W:=fun W=>by
  simp [go_sem,hbz,e2]
 have hqB:q<18446744073709551616:=za;have hrB:r<18446744073709551616:=za;have HQ1:=zq hq;have HR1:=zq hr;clear hq hr;have HQ:=zq (fun W:World=>natOf_c q W hqB)
 have HR:=zq (fun W:World=>natOf_c r W hrB)
 clear hqB hrB;go_wp2
 go_region_held3 (fun _=>True) (trivial)
  (first
   | ((go_at_call 120;(with_reducible refine (HQ.o _).mono ?_);rintro e w6 ⟨A5,c5,rfl,hn5,hb5⟩))
   | ((go_at_call 120;(with_reducible refine (HR.o _).mono ?_);rintro e w7 ⟨A6,c6,rfl,hn6,hb6⟩)))
 all_goals
  have hb7:Below w.heap.size w w6:=(zAd (Below.refl w.heap.size w) _).trans hb5;have hb8:Below w.heap.size w w7:=hb7.trans (hb6.mono hb7.size);have hn7:=hn5.below hb6;clear hb5 hb6 hb7 hn5;go_wp2;go_ret2
  rw [HQ1.o,HR1.o];exact ⟨A5,c5,A6,c6,rfl,hn7,hn6,hb8⟩
theorem words_one {b:Nat} (h:(zAc B32 b).length=1):zAc B32 b=[b]:=by
 have hv:=zAl zAt b
 match hw:zAc B32 b,h with
 | [x],_ =>
  rw [hw,zBK] at hv;rw [hv]
theorem Div_word (A A2:Option Addr) (c c2 a b:Nat) (w:World) (h:Nt w A c a) (h2:Nt w A2 c2 b) (hn:(zAc B32 a).length≤400000000) (hn2:2<(zAc B32 a).length) (hm:(zAc B32 b).length=1) (hge:b≤a) :
  Calls Tryz.prog 168 #[ntV A c a,ntV A2 c2 b] w (GivesNN (a / b) (a % b) w):=by
 obtain ⟨z,hz,hc⟩:=Cmp_ge h h2 za hge;have HC:=zq hc;have hw:=words_one hm;have hl:=zAJ zAt b;rw [hw] at hl;have hb2:b≤4294967295:=by have:=hl.head;have e:=zCx;omega
 have hb1:1≤b:=by
  rcases Nat.eq_zero_or_pos b with h0 | h0
  ·rw [(zCp zAt).2 h0] at hm
   simp at hm
  ·exact h0
 obtain ⟨r2,hcap2⟩:=h2;rw [hw] at r2;obtain ⟨b2,o2,hA2,hlt2,hcl⟩:=r2.at_ ze;subst hA2;have hc0:=hcl 0 ze;rw [zBH] at hc0;simp only [List.getElem_cons_zero,Nat.add_zero] at hc0;have e2:ntV (some ⟨b2,o2,none⟩) c2 b = .slice (some ⟨b2,o2,none⟩) 1 c2:=by unfold ntV;rw [hw];rfl
 rw [e2] at HC ⊢;have hcap3:1≤c2:=by rw [hw] at hcap2;exact hcap2
 clear hc hge hw hl hcl hm e2 r2 hcap2
 go_enter Tryz.func168,Tryz.ntmps168
 go_wp2_with fail
 with_reducible refine HC.o.mono ?_
 rintro e w' ⟨rfl,nd,rfl⟩;clear HC
 go_wp2_with fail
 with_reducible refine (small_no A c a _ (h.drewN nd) hn2 za).mono ?_
 rintro e w' ⟨rfl,nd1,rfl⟩
 go_wp2_with fail
 with_reducible refine (divWord_c A c a b _ (h.drewN (nd+nd1)) za hb1 hb2).mono ?_
 rintro e w' ⟨A5,c5,A6,c6,rfl,h5,h6,hb⟩;go_wp2;go_ret2
 exact ⟨A5,c5,A6,c6,rfl,h5,h6,(zAd (Below.refl w.heap.size w) _).trans hb⟩
theorem step_n (g j cu cv n:Nat) (A2:Option Addr) (U V X:List Nat) (w:World) (hn1:1≤n) (hA:zCc w g U) (hj:j+(n+1)≤U.length) (hX:X=(U.drop j).take (n+1)) (hU:WLt B32 U) (h2:Wds w A2 V) (hV:WLt B32 V) (hVn:V.length=n) (hm:n≤900000000)
  (hv1:∀ h:n - 1<V.length,0<V[n - 1]) (hlt:zAg B32 X<zAg B32 V*B32) :
  Calls Tryz.prog 227 #[.slice (some ⟨g,j,none⟩) (n+1) cu,.slice A2 n cv] w (GivesSt g j (n+1) (zAg B32 X / zAg B32 V) (zAg B32 X % zAg B32 V) U w):=by
 obtain ⟨m,rfl⟩:∃ m,n=m+1:=⟨n - 1,za⟩;exact step_c g j cu cv m A2 U V X w hA hj hX hU h2 hV hVn za hv1 hlt
theorem shift_ok {x:Nat} (h0:0<x) (h:x<4294967296):1≤Lib.bitLen x∧Lib.bitLen x≤32∧x*2 ^ (32 - Lib.bitLen x)<4294967296:=by
 have hlt:∀ (f x:Nat),x<2 ^ f→x<2 ^ Lib.bitLenAux f x:=by
  intro f
  induction f with
  | zero=>intro x hx;simpa [Lib.bitLenAux] using hx
  | succ f ih =>
   intro x hx;unfold Lib.bitLenAux
   split
   ·next h=>rw [h];exact Nat.two_pow_pos _
   ·have h1:x / 2<2 ^ f:=by rw [Nat.pow_succ] at hx;omega
    have h2:=ih (x / 2) h1;rw [Nat.pow_add];omega
 have hle:∀ (f x k:Nat),x<2 ^ k→Lib.bitLenAux f x≤k:=by
  intro f
  induction f with
  | zero=>intro x k _;simp [Lib.bitLenAux]
  | succ f ih =>
   intro x k hx;unfold Lib.bitLenAux
   split
   ·omega
   ·next h0 =>
    cases k with
    | zero=>simp at hx;omega
    | succ k =>
     have:=ih (x / 2) k (by rw [Nat.pow_succ] at hx;omega)
     omega
 have h1:Lib.bitLen x≤32:=hle 64 x 32 h;have h2:x<2 ^ Lib.bitLen x:=hlt 64 x (Nat.lt_trans h zd);refine ⟨?_,h1,?_⟩
 ·rcases Nat.eq_zero_or_pos (Lib.bitLen x) with e | e
  ·rw [e] at h2;simp at h2;omega
  ·exact e
 ·have h3:x*2 ^ (32 - Lib.bitLen x)<2 ^ Lib.bitLen x*2 ^ (32 - Lib.bitLen x):=Nat.mul_lt_mul_of_pos_right h2 (Nat.two_pow_pos _)
  rw [←Nat.pow_add,show Lib.bitLen x+(32 - Lib.bitLen x)=32 by omega] at h3
  exact h3
def DvRel (w:World) (gu gv gq:Nat) (U0 V0:List Nat) (v na nb:Nat) (m:Nat) (jv:Value) (wr:World):Prop :=
 ∃ (U Q:List Nat) (z:Int),z=(m:Int) - 1∧jv = .int .i64 z∧m≤na - nb+1∧zCc wr gu U∧U.length=na+1∧WLt B32 U∧zCc wr gv V0∧zCc wr gq Q∧Q.length=na - nb+1∧WLt B32 Q∧U.take m=U0.take m ∧
  zAg B32 (U.drop m)=zAg B32 (U0.drop m) % v∧zAg B32 (Q.drop m)=zAg B32 (U0.drop m) / v∧Below w.heap.size w wr
theorem window {U U0:List Nat} {j n v na:Nat} (hU:U.length=na+1) (h0:U0.length=na+1) (hj:j+n+1≤na+1) (ht:U.take (j+1)=U0.take (j+1)) (hr:zAg B32 (U.drop (j+1))=zAg B32 (U0.drop (j+1)) % v) (hv:v<B32 ^ n) (hv0:0<v) (hW:WLt B32 U) :
  zAg B32 ((U.drop j).take (n+1))=zAg B32 (U.drop j)∧zAg B32 (U.drop j)<v*B32∧zAg B32 (U.drop (j+(n+1)))=0∧zAg B32 (U.drop j)=U0[j]'(by omega)+B32*(zAg B32 (U0.drop (j+1)) % v):=by
 have hjU:j<U.length:=za
 have e0:U[j]=U0[j]'(by omega):=by
  have h1:(U.take (j+1))[j]'(by rw [List.length_take];omega)=U[j]:=List.getElem_take
  have h2:(U0.take (j+1))[j]'(by rw [List.length_take];omega)=U0[j]'(by omega):=List.getElem_take
  rw [←h1,←h2];exact List.getElem_of_eq ht _
 have e1:=zCJ (B:=B32) hjU;have hx:=hW.get j hjU
 have hlt:zAg B32 (U.drop j)<v*B32:=by
  rw [e1,hr];exact next_lt (Nat.mod_lt _ hv0) hx
 have hz:zAg B32 (U.drop (j+1+n))=0:=zDH (n:=n) (by rw [hr];exact Nat.lt_trans (Nat.mod_lt _ hv0) hv) za
 have ej:j+(n+1)=j+1+n:=za;refine ⟨?_,hlt,by rw [ej];exact hz,by rw [e1,hr,e0]⟩
 have e2:=zCd B32 (n+1) (U.drop j) (by rw [List.length_drop];omega)
 rw [List.drop_drop,ej,hz,Nat.mul_zero,Nat.add_zero] at e2;exact e2.symm
theorem lz_c (x:Nat) (w:World) (h:x<4294967296):Calls Tryz.prog 225 #[.int .u32 (x:Int)] w (zAz (.int .i64 (32 - (Lib.bitLen x:Int))) w):=by
 have h:=Any.bits_LeadingZeros32 Tryz.lays133 (x:Int) w za za
 change Calls Tryz.prog 225 _ _ _ at h
 rw [Int.toNat_natCast] at h;exact h.mono fun _ _ ⟨he,hw⟩=>⟨he,hw.symm⟩
theorem cutW (g j n N:Nat) (h:j+n+1≤N) (W:World):(Instr.slice 85 (.slice (some ⟨g,0,none⟩) N N) (some (.int .i64 (j:Int))) (some (.int .i64 ((j:Int)+(n:Int)+1))) none).run Tryz.prog W = .ok (.slice (some ⟨g,j,none⟩) (n+1) (N - j)) W:=by
 have e1:¬ N=j:=za;have h1:(0:Int)≤(j:Int):=za;have h2:(j:Int)≤(j:Int)+(n:Int)+1:=za;have h3:(j:Int)+(n:Int)+1≤(N:Int):=za;simp [go_sem,h1,h2,h3]
 exact ⟨fun e=>absurd e e1,za⟩
theorem cutV (A:Option Addr) (n N:Nat) (h:n≤N) (W:World):(Instr.slice 85 (.slice A N N) none (some (.int .i64 (n:Int))) none).run Tryz.prog W = .ok (.slice A n N) W:=by
 have h3:(n:Int)≤(N:Int):=za;simp [go_sem,h3]
def RvRel (w:World) (gu gq gr:Nat) (U Q:List Nat) (s nb:Nat) (m:Nat) (iv:Value) (wr:World):Prop :=
 ∃ (k:Nat) (R:List Nat),k+m=nb∧iv = .int .i64 k∧zCc wr gr R∧R.length=nb∧WLt B32 R∧2 ^ s*zAg B32 (R.take k)+U.getD 0 0 % 2 ^ s=zAg B32 (U.take k)+B32 ^ k*(U.getD k 0 % 2 ^ s) ∧
  zCc wr gu U∧zCc wr gq Q∧Below w.heap.size w wr∧w.heap.size≤gr∧gu<gr∧gq<gr
theorem RvRel.step {w wr:World} {gu gq gr:Nat} {U Q R:List Nat} {s nb k gk T:Nat} (hkm:k+gk=nb) (hlt:k<nb) (hR:zCc wr gr R) (hRl:R.length=nb) (hRW:WLt B32 R) (hs:s<32) (hU1:k+1<U.length) (hUW:WLt B32 U)
  (hV:2 ^ s*zAg B32 (R.take k)+U.getD 0 0 % 2 ^ s=zAg B32 (U.take k)+B32 ^ k*(U.getD k 0 % 2 ^ s)) (hU:zCc wr gu U) (hQ:zCc wr gq Q) (hb:Below w.heap.size w wr) (h1:w.heap.size≤gr) (h2:gu<gr) (h3:gq<gr)
  (hT:T=U[k]+4294967296*U[k+1]) {iv mv:Value} (hi:iv = .int .i64 ((k:Int)+1)) (hm:mv = .int .u32 ((T / 2 ^ s % 4294967296:Nat):Int)) {wd:World} (hd:∃ n,wd=(wr.drewN n).setCell ⟨gr,k,none⟩ mv):RvRel w gu gq gr U Q s nb (gk - 1) iv wd:=by
 obtain ⟨n,rfl⟩:=hd;subst hi hm;have hR':zCc (wr.drewN n) gr R:=hR;have hU':zCc (wr.drewN n) gu U:=hU;have hQ':zCc (wr.drewN n) gq Q:=hQ;refine ⟨k+1,R.set k (T / 2 ^ s % 4294967296),za,zi,hR'.set k _,by simpa using hRl,hRW.set (modB _) k,?_,hU'.far (show gu≠gr by omega) _,hQ'.far (show gq≠gr by omega) _,(zAd hb n).setCell h1 _,h1,h2,h3⟩
 rw [zEf za,zAA (by omega:k<U.length)]
 have e0:U.getD k 0=U[k]:=by simp [List.getD,show k<U.length by omega]
 have e1:U.getD (k+1) 0=U[k+1]:=by simp [List.getD,hU1]
 rw [e1];rw [e0] at hV;have hx:=hUW.get k za
 have hdv:(2 ^ s)∣B32:=by
  refine ⟨2 ^ (32 - s),?_⟩
  rw [←Nat.pow_add,show s+(32 - s)=32 by omega]
  rfl
 exact shr_col zCl (Nat.two_pow_pos s) hdv hx hV (by rw [hT];rfl)
theorem divisor {r V:List Nat} {top s:Nat} (hr:WLt B32 r) (hn:0<r.length) (htop:r.getLast?=some top) (h1:top*2 ^ s<4294967296) (h0:0<top) (hs:s<32) (hVl:V.length=r.length+1) (hVW:WLt B32 V) (hVv:zAg B32 V=zAg B32 r*2 ^ s) :
  zAg B32 r*2 ^ s<B32 ^ r.length∧0<zAg B32 r*2 ^ s∧zAg B32 (V.take r.length)=zAg B32 r*2 ^ s∧(∀ h:r.length - 1<(V.take r.length).length,0<(V.take r.length)[r.length - 1]):=by
 have ht:r[r.length - 1]'(by omega)=top:=by
  rw [List.getLast?_eq_getElem?,List.getElem?_eq_getElem za] at htop
  injection htop
 have e1:=zAA (B:=B32) (l:=r) (i:=r.length - 1) za;rw [show r.length - 1+1=r.length by omega,List.take_length,ht] at e1
 have e2:=zDk (hr.take (r.length - 1));rw [List.length_take,Nat.min_eq_left za] at e2;have e3:B32 ^ (r.length - 1)*B32=B32 ^ r.length:=by rw [←Nat.pow_succ,show (r.length - 1).succ=r.length by omega]
 have h2:(top+1)*2 ^ s≤B32:=by
  have e4:(4294967296:Nat)=2 ^ (32 - s)*2 ^ s:=by rw [←Nat.pow_add,show 32 - s+s=32 by omega]
  have h3:top<2 ^ (32 - s):=by
   rw [e4] at h1;exact Nat.lt_of_mul_lt_mul_right h1
  have h4:=Nat.mul_le_mul_right (2 ^ s) (show top+1≤2 ^ (32 - s) from h3)
  rw [←e4] at h4;exact h4
 have hp:=Nat.two_pow_pos s
 have hlt:zAg B32 r*2 ^ s<B32 ^ r.length:=by
  have h5:zAg B32 r+1≤B32 ^ (r.length - 1)*(top+1):=by rw [Nat.mul_add,Nat.mul_one];omega
  have h6:=Nat.mul_le_mul_right (2 ^ s) h5;have h7:=Nat.mul_le_mul_left (B32 ^ (r.length - 1)) h2;rw [e3,←Nat.mul_assoc] at h7;rw [Nat.add_mul,Nat.one_mul] at h6;omega
 have hge:B32 ^ (r.length - 1)≤zAg B32 r:=by
  have:=Nat.mul_le_mul_left (B32 ^ (r.length - 1)) (show 1≤top from h0)
  rw [Nat.mul_one] at this;omega
 have hbp:0<B32 ^ (r.length - 1):=Nat.pow_pos zCl;have hpos:0<zAg B32 r*2 ^ s:=Nat.mul_pos za hp;have hz:zAg B32 (V.drop (0+r.length))=0:=zDH (n:=r.length) (by rw [List.drop_zero,hVv];exact hlt) za
 have hsp:=zCd B32 r.length V za;rw [Nat.zero_add] at hz;rw [hz,Nat.mul_zero,Nat.add_zero,hVv] at hsp;refine ⟨hlt,hpos,hsp.symm,fun h=>?_⟩
 rcases Nat.eq_zero_or_pos ((V.take r.length)[r.length - 1]) with h0 | h0
 ·exfalso
  have e5:=zAA (B:=B32) (l:=V.take r.length) (i:=r.length - 1) h;rw [h0,Nat.mul_zero,Nat.add_zero,List.take_take,List.take_take,Nat.min_eq_left za,Nat.min_eq_left za] at e5;rw [show r.length - 1+1=r.length by omega,←hsp] at e5
  have e6:=zDk (hVW.take (r.length - 1));rw [List.length_take,Nat.min_eq_left za] at e6;have e7:=Nat.mul_le_mul_left (zAg B32 r) hp;rw [Nat.mul_one] at e7;omega
 ·exact h0
theorem first_part {U:List Nat} {a b s na nb:Nat} (hU:U.length=na+1) (hUv:zAg B32 U=a*2 ^ s) (ha:a<B32 ^ na) (hb:B32 ^ (nb - 1)≤b) (h1:1≤nb) (h2:nb≤na):zAg B32 (U.drop (na - nb+1))<b*2 ^ s:=by
 have e:=zCd B32 (na - nb+1) U za;have hp:=Nat.two_pow_pos s
 have h3:B32 ^ (na - nb+1)*zAg B32 (U.drop (na - nb+1))<B32 ^ na*2 ^ s:=by
  have:=Nat.mul_lt_mul_of_pos_right ha hp;omega
 have e2:B32 ^ na=B32 ^ (na - nb+1)*B32 ^ (nb - 1):=by rw [←Nat.pow_add,show na - nb+1+(nb - 1)=na by omega]
 rw [e2,Nat.mul_assoc] at h3;exact Nat.lt_of_lt_of_le (Nat.lt_of_mul_lt_mul_left h3) (Nat.mul_le_mul_right _ hb)
theorem Div_long (A A2:Option Addr) (c c2 a b:Nat) (w:World) (h:Nt w A c a) (h2:Nt w A2 c2 b) (hn:(zAc B32 a).length≤400000000) (hn2:2<(zAc B32 a).length) (hm:2≤(zAc B32 b).length) (hge:b≤a) :
  Calls Tryz.prog 168 #[ntV A c a,ntV A2 c2 b] w (GivesNN (a / b) (a % b) w):=by
 obtain ⟨z,hz,hc⟩:=Cmp_ge h h2 za hge;have hlen:=zAq zAt hge
 obtain ⟨top,htop,ht0⟩:∃ top,(zAc B32 b).getLast?=some top∧0<top:=by
  have hb0:=zCj (B:=B32) zAt (n:=b) za;exact ⟨_,by rw [List.getLast?_eq_getElem?,List.getElem?_eq_getElem za],za⟩
 have hl1:=zAJ zAt a;have hl2:=zAJ zAt b;have HVA:=zq (zAl zAt a);have HVB:=zq (zAl zAt b);obtain ⟨h,hcap⟩:=h;obtain ⟨h2,hcap2⟩:=h2;have hsm:=small_no A c a w ⟨h,hcap⟩ hn2 za;have HS:=zq (fun nd:Nat=>small_no A c a (w.drewN nd) ⟨h.drewN nd,hcap⟩ hn2 za)
 have HC:=zq hc;clear hc hsm;unfold ntV at HC HS ⊢;generalize zAc B32 a=l at *;generalize zAc B32 b=r at *;obtain ⟨na,hna⟩:∃ na,na=l.length:=⟨_,rfl⟩;obtain ⟨nb,hnb⟩:∃ nb,nb=r.length:=⟨_,rfl⟩;obtain ⟨b2,o2,hA2,hlt2,hcl⟩:=h2.at_ za;subst hA2;have hc0:=hcl (r.length - 1) za
 have htop2:r[r.length - 1]'(by omega)=top:=by
  rw [List.getLast?_eq_getElem?,List.getElem?_eq_getElem za] at htop
  injection htop
 have ht1:top<4294967296:=by rw [←htop2];exact hl2.get _ za
 rw [zBH,htop2] at hc0;obtain ⟨hs1,hs2,hs3⟩:=shift_ok ht0 ht1;have HLZ:=zq (fun W:World=>lz_c top W ht1)
 obtain ⟨s,hs⟩:∃ s,s=32 - Lib.bitLen top:=⟨_,rfl⟩;have hsI:(32:Int) - (Lib.bitLen top:Int)=(s:Int):=za;rw [hsI] at HLZ;have hs4:s<32:=za;have HL1:=zq (fun W (hW:Wds W A l)=>left_l A c s l W hW hl1 za hs4)
 have HL2:=zq (fun W (hW:Wds W (some ⟨b2,o2,none⟩) r)=>left_l (some ⟨b2,o2,none⟩) c2 s r W hW hl2 za hs4)
 have HTOP:Hid (r.getLast?=some top∧top*2 ^ s<4294967296∧0<top):=⟨htop,by rw [hs];exact hs3,ht0⟩
 rw [←hnb] at hc0;clear htop htop2 hs1 hs2 hs3 hs hsI hcl
 have hmk:∀ w:World,(Instr.makeSlice 85 (.int .i64 ((na:Int) - (nb:Int)+1)) (.int .i64 ((na:Int) - (nb:Int)+1))).run Tryz.prog w =
   .ok (.slice (some ⟨w.heap.size,0,none⟩) (na - nb+1) (na - nb+1)) (w.alloc (.cells (Array.replicate (na - nb+1) (.int .u32 0)) 197)):=by
  have e:(na:Int) - (nb:Int)+1=((na - nb+1:Nat):Int):=za;rw [e];exact mk_nat (na - nb+1) za
 rw [←hna] at hn hn2 hlen hcap;rw [←hnb] at hm hlen hcap2;simp only [←hna,←hnb] at HS HL1 HL2 HC ⊢;have HNA:=zq hna;have HNB:=zq hnb;clear hna hnb
 go_enter Tryz.func168,Tryz.ntmps168
 go_wp2_with fail
 with_reducible refine HC.o.mono ?_
 rintro e w' ⟨rfl,nd,rfl⟩;clear HC
 go_wp2_with fail
 with_reducible refine (HS.o nd).mono ?_
 rintro e w' ⟨rfl,nd1,rfl⟩;clear HS
 go_wp2_with fail
 with_reducible refine (HLZ.o _).mono ?_
 rintro e w' ⟨rfl,rfl⟩;clear HLZ
 go_wp2_with fail
 with_reducible refine (HL1.o _ (h.drewN (nd+nd1))).mono ?_
 rintro e w3 ⟨gu,U,rfl,hU,hUl,hUW,hUv,hb3,hg3⟩;clear HL1;have hb3':Below w.heap.size w w3:=(zAd (Below.refl w.heap.size w) _).trans hb3;have HB3:=zq hb3';have hg3':w.heap.size≤gu:=hg3;clear hb3 hb3' hg3
 go_wp2_with fail
 with_reducible refine (HL2.o _ (h2.below HB3.o)).mono ?_
 rintro e w4 ⟨gv,V,rfl,hV,hVl,hVW,hVv,hb4,hg4⟩;clear HL2;have hU4:=hU.below hb4;have hgu3:=hU.lt;have HB4:=zq (zAa HB3.o hb4);have hz3:=HB3.o.size;clear hb4 hU
 go_wp2_with fail
 have hnew:=zCc.new w4 (na - nb+1);have hbel:Below w4.heap.size w4 (w4.alloc (.cells (Array.replicate (na - nb+1) (.int .u32 0)) 197)):=(Below.refl _ _).alloc (Nat.le_refl _) _;have hU5:=hU4.below hbel;have hV5:=hV.below hbel;have hgv4:=hV.lt;have hbw5:=zAa HB4.o hbel;obtain ⟨gq,hgq⟩:∃ gq,gq=w4.heap.size:=⟨_,rfl⟩;obtain ⟨w5,hw5⟩:∃ w5,w5=w4.alloc (.cells (Array.replicate (na - nb+1) (.int .u32 0)) 197):=⟨_,rfl⟩;rw [←hgq] at hnew;rw [←hw5] at hnew hU5 hV5 hbw5;rw [←hgq,←hw5];have hgv:gu<gv:=za;have hgqv:gv<gq:=za;have HB5:=zq hbw5;clear hbel hbw5 hw5 hgq hmk hU4 hV HB4 HB3 hgv4 hgu3 hz3 hg4 hc0 hlt2;obtain ⟨htop,hts,htp⟩:=HTOP.o;have hrn:=HNB.o;have hln:=HNA.o;have HD:=divisor hl2 za htop hts htp hs4 za hVW hVv;rw [←hrn,HVB.o] at HD
 have hbB:B32 ^ (nb - 1)≤b:=by
  have:=zEg (B:=B32) (l:=r) za (by rw [List.getLast?_eq_getElem?,List.getElem?_eq_getElem za] at htop;injection htop with e;omega)
  rwa [←hrn,HVB.o] at this
 have haB:a<B32 ^ na:=by
  have:=zDk hl1
  rwa [HVA.o,←hln] at this
 rw [HVA.o] at hUv;rw [HVB.o] at hVv;obtain ⟨v,hv⟩:∃ v,v=b*2 ^ s:=⟨_,rfl⟩;have hF:=first_part hUl hUv haB hbB za hlen;rw [←hv] at HD hF;obtain ⟨HD1,HD2,HD3,HD4⟩:=HD;obtain ⟨Vn,hVn⟩:∃ Vn,Vn=V.take nb:=⟨_,rfl⟩;rw [←hVn] at HD3 HD4;have hVnl:Vn.length=nb:=by rw [hVn,List.length_take];omega
 have HVN:=zq hVn;have HVNL:=zq hVnl;have hVnW:WLt B32 Vn:=by rw [hVn];exact hVW.take nb
 have HV:=zq hv;have HD1:=zq HD1;have HD3:=zq HD3;have HD4:=zq HD4;have HF:=zq hF;have HUV:=zq hUv;have HUL:=zq hUl;clear htop hts htp hrn hln hbB haB hv hF hVn hVnl hUv hVv hUl HTOP hl1 hl2 hcap hcap2 h h2 HVA HVB HNA HNB hge hVl
 go_loopg [15] (na - nb+1) (DvRel w gu gv gq U V v na nb)
 case atStart =>
  refine ⟨U,List.replicate (na - nb+1) 0,_,rfl,?_,Nat.le_refl _,hU5,HUL.o,hUW,hV5,hnew,ze,WLt.zeros zCl _,rfl,(Nat.mod_eq_of_lt HF.o).symm,?_,HB5.o⟩
  ·congr 1;omega
  ·rw [List.drop_of_length_le ze,Nat.div_eq_of_lt HF.o];rfl
 case round =>
  clear hU5 hV5 hnew;obtain ⟨U',Q,zz,hzz,rfl,hgk,hU',hUl',hUW',hV',hQ,hQl,hQW,hTk,hRm,hQt,hbw⟩:=hrel;have HTK:=zq hTk;have HRM:=zq hRm;have HQT:=zq hQt;have HQL:=zq hQl;have HUL':=zq hUl';clear hTk hRm hQt hQl hUl'
  rcases Nat.eq_zero_or_pos gk with h0 | h0
  ·subst h0
   obtain rfl:zz = -1:=hzz
   have hrem:zAg B32 U'=(a % b)*2 ^ s:=by
    have:=HRM.o
    rwa [List.drop_zero,List.drop_zero,HUV.o,HV.o,Nat.mul_mod_mul_right] at this
   have hquo:zAg B32 Q=a / b:=by
    have:=HQT.o
    rwa [List.drop_zero,List.drop_zero,HUV.o,HV.o,Nat.mul_div_mul_right _ _ (Nat.two_pow_pos s)] at this
   have hrl:zAg B32 U'<B32 ^ nb:=by
    have:=HRM.o;rw [List.drop_zero] at this;rw [this];exact Nat.lt_trans (Nat.mod_lt _ HD2) HD1.o
   have HREM:=zq hrem;have HQUO:=zq hquo;have HRL:=zq hrl;clear hrem hquo hrl HTK HRM HQT HD3 HD4
   have hmk:∀ w:World,(Instr.makeSlice 85 (.int .i64 (nb:Int)) (.int .i64 (nb:Int))).run Tryz.prog w =
     .ok (.slice (some ⟨w.heap.size,0,none⟩) nb nb) (w.alloc (.cells (Array.replicate nb (.int .u32 0)) 197)):=mk_nat nb za
   go_wp2;clear hmk;have hnew:=zCc.new wr nb;have hbel:Below wr.heap.size wr (wr.alloc (.cells (Array.replicate nb (.int .u32 0)) 197)):=(Below.refl _ _).alloc (Nat.le_refl _) _;have hU5:=hU'.below hbel;have hQ5:=hQ.below hbel;have hgu5:=hU'.lt;have hgq5:=hQ.lt;have hbw5:=zAa hbw hbel;have hsz5:=hbw.size;obtain ⟨gr,hgr⟩:∃ gr,gr=wr.heap.size:=⟨_,rfl⟩;obtain ⟨w5,hw5⟩:∃ w5,w5=wr.alloc (.cells (Array.replicate nb (.int .u32 0)) 197):=⟨_,rfl⟩;rw [←hgr] at hnew hgu5 hgq5 hsz5;rw [←hw5] at hnew hU5 hQ5 hbw5;rw [←hgr,←hw5];clear hgr hw5 hbel hbw hV' hU' hQ
   go_loopg [100] nb (RvRel w gu gq gr U' Q s nb)
   case atStart=>exact ⟨0,List.replicate nb 0,za,rfl,hnew,ze,WLt.zeros zCl _,qz,hU5,hQ5,hbw5,hsz5,hgu5,hgq5⟩
   case round =>
    clear hnew hU5 hQ5 hbw5;obtain ⟨k,R,hkm,rfl,hR,hRl,hRW,hVR,hU5,hQ5,hbw5,_,_,_⟩:=hrel;have HKM:=zq hkm;have HRL2:=zq hRl;have HVR:=zq hVR;clear hkm hRl hVR
    by_cases hlt:k<nb
    ·have hk1:k+1<U'.length:=by have:=HUL'.o;omega
     have hc0:=hU5.cell k za;have hc1:=hU5.cell (k+1) hk1;have hc2:=hR.cell k (by have:=HRL2.o;omega)
     have hf2:=hR.frozen k;have hx0:U'[k]<4294967296:=hUW'.get k za;have hx1:U'[k+1]<4294967296:=hUW'.get (k+1) hk1;obtain ⟨T,hT⟩:∃ T,T=U'[k]+4294967296*U'[k+1]:=⟨_,rfl⟩;have hor:bits .or .u64 (U'[k]:Int) ((U'[k+1]:Int)*4294967296)=(T:Int):=by rw [or_u64 _ _ hx0 hx1,hT];simp
     obtain ⟨D,hD⟩:∃ D,D=T / 2 ^ s:=⟨_,rfl⟩;have hDe:(T:Int) / 2 ^ s=(D:Int):=by rw [hD,Int.natCast_ediv,Int.natCast_pow];rfl
     have hDT:D≤T:=by rw [hD];exact Nat.div_le_self _ _
     have hTB:T≤18446744073709551615:=za;have HT:=zq hT;have HD:=zq hD;clear hT hD;have hsh:IntKind.u64.wrap ((U'[k+1]:Int)*4294967296)=(U'[k+1]:Int)*4294967296:=IntWalk.u64_in _ za;have hw1:IntKind.i64.wrap ((k:Int)+1)=(k:Int)+1:=IntWalk.i64_in _ za;go_wp2;have y1:(k:Int)<(na:Int)+1:=za;have y2:(k:Int)+1<(na:Int)+1:=za;have y3:(k:Int)<(nb:Int):=za;have y4:(0:Int)≤(k:Int)+1:=za;have y5:((k:Int)+1).toNat=k+1:=za;have y6:(0:Int)≤(k:Int):=za;refine wp_region_still_tail 19 zc zc ?_
     simp only [List.take_succ_cons,List.take_zero,List.drop_succ_cons,List.drop_zero]
     repeat still_step
     refine wpStill_nil ?_
     change wpList _ _ _ _ _ wr.drew
     clear y1 y2 y3 y4 y5 y6 hsh hw1;go_wp2
     go_roundg (gk - 1)
     case measure=>have:=HKM.o;omega
     case rel=>exact RvRel.step HKM.o hlt hR HRL2.o hRW hs4 hk1 hUW' HVR.o hU5 hQ5 hbw5 hsz5 hgu5 hgq5 HT.o rfl (by rw [←HD.o];rfl) ⟨1,rfl⟩
    ·obtain rfl:k=nb:=by have:=HKM.o;omega
     have HR:Hid (zAg B32 R=a % b):=by
      show _=_
      have h1:=HVR.o;have hul:=HUL'.o;have h2:zAg B32 (U'.drop (0+k))=0:=zDH (n:=k) (by rw [List.drop_zero];exact HRL.o) za
      rw [Nat.zero_add] at h2;have h3:=zCd B32 k U' za;rw [h2,Nat.mul_zero,Nat.add_zero,HREM.o] at h3
      have h4:U'.getD k 0=0:=by
       have h5:=zCJ (B:=B32) (l:=U') (i:=k) za;rw [h2] at h5;have h6:U'.getD k 0=U'[k]'(by omega):=by simp [List.getD,show k<U'.length by omega]
       rw [h6];omega
      rw [List.take_of_length_le (by rw [HRL2.o];omega),←h3,h4,Nat.zero_mod,Nat.mul_zero,Nat.add_zero] at h1
      have hp:=Nat.two_pow_pos s;have h7:=congrArg (· / 2 ^ s) h1;simp only [Nat.mul_div_cancel _ hp] at h7;rw [Nat.add_comm,Nat.add_mul_div_left _ _ hp,Nat.div_eq_of_lt (Nat.mod_lt _ hp),Nat.zero_add] at h7;exact h7
     have hql:=HQL.o;have hrl:=HRL2.o
     go_wp2_with fail
     rw [←hql];with_reducible refine (trim_n _ _ Q _ wr za (Nat.le_refl _) (by have:=hQ5.rd Q.length;rwa [List.take_length] at this) hQW (Below.refl _ _) HQUO.o).mono ?_
     rintro e w7 ⟨A7,c7,rfl,hn7,hb7⟩;clear hql;have hR7:=hR.below hb7
     go_wp2_with fail
     rw [←hrl];with_reducible refine (trim_n _ _ R _ w7 za (Nat.le_refl _) (by have:=hR7.rd R.length;rwa [List.take_length] at this) hRW (Below.refl _ _) HR.o).mono ?_
     rintro e w8 ⟨A8,c8,rfl,hn8,hb8⟩;clear hrl;go_wp2;go_ret2
     exact ⟨A7,c7,A8,c8,rfl,hn7.below hb8,hn8,zAa (zAa hbw5 hb7) hb8⟩
  ·obtain ⟨j,rfl⟩:∃ j,gk=j+1:=⟨gk - 1,za⟩
   obtain rfl:zz=(j:Int):=za;clear hzz;have hj:j+nb≤na:=za;obtain ⟨hw1,hw2,hw3,hw4⟩:=window (n:=nb) (v:=v) HUL'.o HUL.o za HTK.o HRM.o HD1.o HD2 hUW';obtain ⟨X,hX⟩:∃ X,X=(U'.drop j).take (nb+1):=⟨_,rfl⟩;rw [←hX] at hw1;have hst:=step_n gu j (na+1 - j) (nb+1) nb (some ⟨gv,0,none⟩) U' Vn X wr.drew za (show zCc wr.drew gu U' from hU') (by rw [HUL'.o];omega) hX hUW' (by rw [HVN.o];exact (show zCc wr.drew gv V from hV').rd nb) hVnW HVNL.o za HD4.o (by rw [HD3.o,hw1];exact hw2)
   rw [HD3.o,hw1] at hst;have HST:=zq hst;have HW2:=zq hw2;have HW3:=zq hw3;have HW4:=zq hw4;have hjq:j<Q.length:=by rw [HQL.o];omega
   have hc1:=hQ.cell j hjq;have hf1:=hQ.frozen j;clear hst hw1 hw2 hw3 hw4 hX;go_wp2;have hs1:IntKind.i64.wrap ((j:Int)+(nb:Int))=(j:Int)+(nb:Int):=IntWalk.i64_in _ za;have hs2:IntKind.i64.wrap ((j:Int)+(nb:Int)+1)=(j:Int)+(nb:Int)+1:=IntWalk.i64_in _ za;have hji:(j:Int)<((na - nb+1:Nat):Int):=za;have hji2:(j:Int)<((na - nb:Nat):Int)+1:=za;have hji3:(0:Int)≤(j:Int):=za;have hcw:=cutW gu j nb (na+1) za;have hcv:=cutV (some ⟨gv,0,none⟩) nb (nb+1) za
   go_region_held3 (fun _=>True) (trivial)
    (first
     | ((go_at_call 227;(with_reducible refine HST.o.mono ?_);rintro e w6 ⟨rfl,W,hWl,hWW,hWv,hU6,hg6⟩;have hQ6:zCc w6 gq Q:=(hg6.block gq hQ.lt (fun e=>by injection e;omega)).trans hQ;have hc6:=hQ6.cell j hjq;have hf6:=hQ6.frozen j)))
   have hbw6:Below w.heap.size w w6:=⟨hg6.os.trans hbw.os,hg6.tape.trans hbw.tape,hg6.output.trans hbw.output,Nat.le_trans hbw.size hg6.size,fun i hi=>(hg6.block i (Nat.lt_of_lt_of_le hi hbw.size) (fun e=>by injection e;omega)).trans (hbw.block i hi)⟩
   have hV6:zCc w6 gv V:=(hg6.block gv hV'.lt (fun e=>by injection e;omega)).trans hV'
   clear hs1 hs2 hcw hcv hji hji2 hji3 hc1 hf1 hc6 hf6 hg6;go_wp2
   go_roundg j
   case measure=>omega
   case rel =>
    clear HST;have hy:=Nat.div_add_mod' (zAg B32 (U.drop (j+1))) v;have hn:=div_next (B:=B32) (v:=v) (x:=U[j]'(by have:=HUL.o;omega)) (r:=zAg B32 (U.drop (j+1)) % v) HD2 (zAg B32 (U.drop (j+1)) / v)
    rw [hy] at hn;have hUj:zAg B32 (U.drop j)=U[j]'(by have:=HUL.o;omega)+B32*zAg B32 (U.drop (j+1)):=zCJ (by have:=HUL.o;omega)
    rw [←hUj,←HW4.o] at hn;have hul:=HUL'.o;have hql:=HQL.o;have htk:(U'.take j).length=j:=jn;refine ⟨U'.take j++W++U'.drop (j+(nb+1)),Q.set j (zAg B32 (U'.drop j) / v),_,rfl,rfl,za,hU6.far (show gu≠gq by omega) _,?_,((hUW'.take j).append hWW).append (hUW'.drop _),hV6.far (show gv≠gq by omega) _,hQ6.set j _,by simpa using hql,hQW.set (quot_lt HW2.o) j,?_,?_,?_,hbw6.setCell (show w.heap.size≤gq by omega) _⟩
    ·rw [List.length_append,List.length_append,htk,hWl,List.length_drop];omega
    ·rw [List.append_assoc,List.take_append_of_le_length za,List.take_take,Nat.min_self]
     have h1:=congrArg (List.take j) HTK.o
     rwa [List.take_take,List.take_take,Nat.min_eq_left za] at h1
    ·rw [wval_window za hWl HW3.o,hWv,hn.2]
    ·rw [zEa Q j _ hjq,zAg,HQT.o,hn.1,Nat.add_comm]
theorem Div_c (A A2:Option Addr) (c c2 a b:Nat) (w:World) (h:Nt w A c a) (h2:Nt w A2 c2 b) (hn:(zAc B32 a).length≤400000000) (hb:0<b) :
  Calls Tryz.prog 168 #[ntV A c a,ntV A2 c2 b] w (GivesNN (a / b) (a % b) w):=by
 rcases Nat.lt_or_ge a b with hlt | hge
 ·exact Div_lt A A2 c c2 a b w h h2 hn hlt
 ·by_cases h3:(zAc B32 a).length≤2
  ·exact Div_small A A2 c c2 a b w h h2 h3 hge hb
  ·have h4:(zAc B32 b).length≠0:=fun e=>by
    have:=(zCp zAt (n:=b)).1 (List.eq_nil_of_length_eq_zero e);omega
   by_cases h5:(zAc B32 b).length=1
   ·exact Div_word A A2 c c2 a b w h h2 hn za h5 hge
   ·exact Div_long A A2 c c2 a b w h h2 hn za za hge
def GcRel (w:World) (G N:Nat) (m:Nat) (av bv:Value) (wr:World):Prop :=
 ∃ (A:Option Addr) (c:Nat) (A2:Option Addr) (c2 aa:Nat),av=ntV A c aa∧bv=ntV A2 c2 m∧Nt wr A c aa∧Nt wr A2 c2 m∧(zAc B32 aa).length≤N∧(zAc B32 m).length≤N∧Nat.gcd aa m=G∧Below w.heap.size w wr
def GcRel2 (w:World) (G:Nat) (m:Nat) (xv yv:Value) (wr:World):Prop :=
 ∃ xx:Nat,xv = .int .u64 (xx:Int)∧yv = .int .u64 (m:Int)∧xx≤18446744073709551615∧m≤18446744073709551615∧Nat.gcd xx m=G∧Below w.heap.size w wr
theorem gcd_c (A A2:Option Addr) (c c2 a b:Nat) (w:World) (h:Nt w A c a) (h2:Nt w A2 c2 b) (hn:(zAc B32 a).length≤400000000) (hn2:(zAc B32 b).length≤400000000) :
  Calls Tryz.prog 167 #[ntV A c a,ntV A2 c2 b] w (zDX (Nat.gcd a b) w):=by
 go_enter Tryz.func167,Tryz.ntmps167
 go_wp2
 go_loopg [0,1] b (GcRel w (Nat.gcd a b) 400000000)
 case atStart=>exact ⟨A,c,A2,c2,a,rfl,rfl,h,h2,hn,hn2,rfl,Below.refl _ _⟩
 case round =>
  clear h h2 hn hn2;obtain ⟨A3,c3,A4,c4,aa,rfl,rfl,h,h2,hn,hn2,hG,hb⟩:=hrel;have HG:=zq hG;have HB:=zq hb;clear hG hb
  rcases Nat.eq_zero_or_pos gk with h0 | h0
  ·subst h0
   go_wp2;go_ret
   have e:aa=Nat.gcd a b:=by rw [←HG.o,Nat.gcd_zero_right]
   rw [←e];exact ⟨A3,c3,rfl,h,HB.o⟩
  ·have hl:0<(zAc B32 gk).length:=by
    rcases Nat.eq_zero_or_pos (zAc B32 gk).length with e | e
    ·have:=(zCp zAt (n:=gk)).1 (List.eq_nil_of_length_eq_zero e)
     omega
    ·exact e
   by_cases hs:(zAc B32 aa).length≤2∧(zAc B32 gk).length≤2
   ·obtain ⟨hs1,hs2⟩:=hs
    have la:=small_lt hs1;have lb:=small_lt hs2
    go_wp2_with fail
    with_reducible refine (zDd A3 c3 aa _ h hs1).mono ?_
    rintro e w' ⟨rfl,nd,rfl⟩
    go_wp2_with fail
    with_reducible refine (zDd A4 c4 gk _ (h2.drewN nd) hs2).mono ?_
    rintro e w' ⟨rfl,nd2,rfl⟩;go_wp2;have HB2:Hid (Below w.heap.size w (wr.drewN (nd+nd2))):=zAd HB.o _;obtain ⟨wo,hwo⟩:∃ wo:World,wo=wr.drewN (nd+nd2):=⟨_,rfl⟩;rw [←hwo] at HB2 ⊢;clear hwo HB h0 hl
    go_loopg [5,7] gk (GcRel2 w (Nat.gcd a b))
    case atStart=>exact ⟨aa,rfl,rfl,la,lb,HG.o,HB2.o⟩
    case round =>
     clear HG la lb HB2;obtain ⟨xx,rfl,rfl,hx,hy,hG2,hb2⟩:=hrel;have HG2:=zq hG2;clear hG2
     rcases Nat.eq_zero_or_pos gk with h0 | h0
     ·subst h0
      go_wp2_with fail
      have e:xx=Nat.gcd a b:=by rw [←HG2.o,Nat.gcd_zero_right]
      have HE:=zq e;clear e;with_reducible refine (natOf_c xx _ za).mono ?_
      rintro e w5 ⟨A5,c5,rfl,h5,hb5⟩;go_wp2;go_ret
      rw [←HE.o];exact ⟨A5,c5,rfl,h5,zAa hb2 hb5⟩
     ·have hbz:¬ gk=0:=by omega
      obtain ⟨r,hr⟩:∃ r,xx % gk=r:=⟨_,rfl⟩;have hrl:r<gk:=by rw [←hr];exact Nat.mod_lt _ h0
      have e2:(xx:Int).tmod (gk:Int)=(r:Int):=by rw [IntWalk.rem_in _ _ za,←hr];exact (Int.natCast_emod xx gk).symm
      have e4:IntKind.u64.wrap (r:Int)=(r:Int):=IntWalk.u64_in _ za;have HR:=zq hr;clear hr;go_wp2
      go_quiet (fail)
      clear e2 e4 hbz;go_wp2
      go_roundg r
      case measure=>exact hrl
      case rel=>exact ⟨gk,rfl,rfl,hy,za,by rw [←HG2.o,←HR.o,←gcd_step],zAd hb2 _⟩
   ·have hsa:=fun nd:Nat=>small_c A3 c3 aa (wr.drewN nd) (h.drewN nd) za
    have hsb:=fun nd:Nat=>small_c A4 c4 gk (wr.drewN nd) (h2.drewN nd) za
    have hd:=fun nd:Nat=>Div_c A3 A4 c3 c4 aa gk (wr.drewN nd) (h.drewN nd) (h2.drewN nd) hn h0
    have hsa0:=small_c A3 c3 aa wr h za;unfold smV at hsa hsb hsa0
    have HLB:Hid ((zAc B32 (aa % gk)).length≤400000000):=by
     show _≤_
     exact Nat.le_trans (zAq zAt (Nat.le_of_lt (Nat.mod_lt aa h0))) hn2
    have hq:(decide ((zAc B32 aa).length≤2)&&decide ((zAc B32 gk).length≤2))=false:=by
     rw [←Bool.decide_and];exact decide_eq_false hs
    generalize decide ((zAc B32 aa).length≤2)=p1 at *;generalize decide ((zAc B32 gk).length≤2)=p2 at *;generalize (if (zAc B32 aa).length≤2 then (aa:Int) else 0)=v1 at *
    generalize (if (zAc B32 gk).length≤2 then (gk:Int) else 0)=v2 at *
    have HSA:=zq hsa;have HSB:=zq hsb;have HSA0:=zq hsa0;have HD:=zq hd;clear hsa hsb hsa0 hd hs;have HQ:=zq hq;clear hq
    cases p1
    case' true =>
     obtain rfl:p2=false:=by have:=HQ.o;simpa using this
    all_goals
     go_wp2_with fail
     with_reducible refine HSA0.o.mono ?_
     rintro e w' ⟨rfl,nd,rfl⟩
     go_wp2_with fail
     with_reducible refine (HSB.o nd).mono ?_
     rintro e w' ⟨rfl,nd2,rfl⟩
     go_wp2_with fail
     with_reducible refine (HD.o (nd+nd2)).mono ?_
     rintro e w6 ⟨A5,c5,A6,c6,rfl,h5,h6,hb6⟩;have hb7:Below wr.heap.size wr w6:=(zAd (Below.refl wr.heap.size wr) _).trans hb6;have hn7:=h2.below hb7;have HB7:=zq (zAa HB.o hb7);clear hb6 hb7 h5;go_wp2
     go_roundg (aa % gk)
     case measure=>exact Nat.mod_lt _ h0
     case rel=>exact ⟨A4,c4,A6,c6,gk,rfl,rfl,hn7,h6,hn2,HLB.o,by rw [←HG.o,←gcd_step],HB7.o⟩
end Go.Proofs.YtieoifkdobcpiaaGreatDoor
namespace Go.Proofs.YtieoifkdobcpiaaGreatDoor
open Dw
def zBV (n d:Nat):Nat×Nat:=(n / Nat.gcd n d,d / Nat.gcd n d)
def addP (p q:Nat×Nat):Nat×Nat:=zBV (p.1*q.2+q.1*p.2) (p.2*q.2)
def dgB (c:UInt8):Bool:=decide (48≤c.toNat)&&decide (c.toNat≤57)
def zCP (s:ByteArray):Bool:=s.data.toList.all dgB&&(decide (s.size=1) || decide (1<s.size)&&decide ((s.data.toList.headD 0).toNat≠48))
def zDp (s:ByteArray):Bool:=decide (0<s.size)&&decide ((s.data.toList.headD 0).toNat=45)
def absL (s:ByteArray):List UInt8:=if zDp s=true then s.data.toList.tail else s.data.toList
def zAX (s:ByteArray):ByteArray:=⟨(absL s).toArray⟩
def zCC:ByteArray:=⟨#[48]⟩
def zAy (s:ByteArray):Nat:=zBI s.data.toList
def zDm (nu de:ByteArray):Int :=
 if zCP (zAX nu)=false∨(zDp nu=true∧zAX nu=zCC)∨zCP de=false∨de=zCC then 3
 else if 2000<(zAX nu).size∨2000<de.size then 2
 else if Nat.gcd (zAy (zAX nu)) (zAy de)=1 then 0 else 3
def posB (nu:ByteArray):Bool:=!zDp nu&&decide (zAy (zAX nu)≠0)
structure Sh where
 pt:ByteArray
 nu:ByteArray
 de:ByteArray
deriving Inhabited
structure De where
 id:ByteArray
 day:Int
 kd:Int
 th:ByteArray
 fr:ByteArray
 to_:ByteArray
 nu:ByteArray
 de:ByteArray
 ex:Bool
 sb:Bool
 arA:Option Go.Addr
 ar:List Ar
 arc:Nat
 usA:Option Go.Addr
 us:List ByteArray
 usc:Nat
 bg:Int
 en:Int
 shA:Option Go.Addr
 sh:List Sh
 shc:Nat
 ot:ByteArray
deriving Inhabited
def zCo (n:Int):Bool:=decide (0≤n)&&decide (n≤200000)
def ptAt (l:List Sh) (i:Nat):ByteArray:=(l.getD i default).pt
def zAS (l:List Sh) (i:Nat):Option Int :=
 if zBj (ptAt l i)=false then some 5
 else if 0<i∧sle (ptAt l i) (ptAt l (i - 1))=true then some 8
 else if zDm (l.getD i default).nu (l.getD i default).de≠0 then some (zDm (l.getD i default).nu (l.getD i default).de)
 else if posB (l.getD i default).nu=false then some 1 else none
def zCO (l:List Sh) (k:Nat):Nat×Nat:=(l.take k).foldl (fun p s=>addP p (zAy (zAX s.nu),zAy s.de)) (0,1)
def shF (kd:Int) (l:List Sh):Int :=
 if l=[] then 9 else if 20<l.length then 2 else
 match (List.range l.length).findSome? (zAS l) with
 | some f=>f
 | none=>if (zCO l l.length).2<(zCO l l.length).1∨(kd=5∧(zCO l l.length).1≠(zCO l l.length).2) then 1 else 0
def usAt (l:List ByteArray) (i:Nat):ByteArray:=l.getD i default
def zBo (us l:List ByteArray) (i:Nat):Option Int :=
 if memS us (usAt l i)=false then some 5 else if 0<i∧sle (usAt l i) (usAt l (i - 1))=true then some 8 else none
def useF (us l:List ByteArray):Int:=match (List.range l.length).findSome? (zBo us l) with
 | some f=>f
 | none=>0
def zAh (k:Int):Bool:=decide (k=2) || decide (k=3)
def zAx (d:De):Bool :=
 (!(zAh d.kd || decide (d.kd=1))&&decide (d.th≠emp)) || (!(zAh d.kd || decide (d.kd=5))&&decide (d.fr≠emp)) || (!zAh d.kd&&decide (d.to_≠emp)) ||
 (!decide (d.kd=2)&&(decide (d.nu≠emp) || decide (d.de≠emp))) || (!decide (d.kd=3)&&(d.ex || d.sb)) || (!zAh d.kd&&(decide (d.ar≠[]) || decide (d.us≠[]))) ||
 (!zAh d.kd&&decide (d.en≠0)) || (!(decide (d.kd=1) || decide (d.kd=5))&&decide (d.sh≠[])) || (!decide (d.kd=4)&&decide (d.ot≠emp))
def parF (d:De):Int :=
 if d.kd≠2 then 0 else if zDm d.nu d.de≠0 then zDm d.nu d.de else if posB d.nu=false∨zAy d.de<zAy (zAX d.nu) then 1 else 0
def giftF (rs:List Rg) (us:List ByteArray) (d:De):Int :=
 if zBj d.th=false∨zBj d.fr=false∨zBj d.to_=false then 5
 else if d.fr=d.to_ then 12
 else if parF d≠0 then parF d
 else if zDr rs d.ar≠0 then zDr rs d.ar
 else if zBy rs d.ar=[]∨d.us=[] then 9
 else if useF us d.us≠0 then useF us d.us
 else if zCo d.bg=false∨zCo d.en=false then 1
 else if d.en≤d.bg then 8 else 0
def divF (pre:List De) (d:De):Int :=
 if (d.kd=1∧zBj d.th=false)∨(d.kd=5∧zBj d.fr=false) then 5
 else if zCo d.bg=false then 1
 else if shF d.kd d.sh≠0 then shF d.kd d.sh
 else if d.kd=5∧(d.sh.any fun s=>decide (s.pt=d.fr))=true then 12
 else if (pre.any fun p=>decide (p.kd=d.kd)&&decide (p.th=d.th)&&decide (p.fr=d.fr))=true then 7 else 0
def endF (pre:List De) (d:De):Int :=
 if zCo d.bg=false then 1
 else if (pre.any fun p=>decide (p.id=d.ot)&&zAh p.kd)=false then 9
 else if (pre.any fun p=>decide (p.kd=4)&&decide (p.ot=d.ot))=true then 7 else 0
def deLt (a b:De):Bool:=decide (a.day<b.day) || decide (a.day=b.day)&&slt a.id b.id
def zDZ (pre:List De) (d:De):Bool:=match pre.getLast? with
 | some p=>deLt p d
 | none=>true
def chkD (rs:List Rg) (us:List ByteArray) (pre:List De) (d:De):Int :=
 if zBj d.id=false then 5
 else if zCo d.day=false then 1
 else if zDZ pre d=false then 8
 else if (pre.any fun p=>decide (p.id=d.id))=true then 7
 else if d.kd<1∨5<d.kd then 4
 else if zAx d=true then 3
 else if zAh d.kd=true then giftF rs us d
 else if d.kd=4 then endF pre d else divF pre d
def zCV (rs:List Rg) (us:List ByteArray) (ds:List De) (k:Nat):Option Int :=
 if chkD rs us (ds.take k) (ds.getD k default)≠0 then some (chkD rs us (ds.take k) (ds.getD k default)) else none
def zBc (l:List ByteArray) (i:Nat):Option Int :=
 if zBj (usAt l i)=false then some 5 else if 0<i∧sle (usAt l i) (usAt l (i - 1))=true then some 8 else none
def zCD (rs:List Rg) (us:List ByteArray) (ds:List De):Int :=
 if zDM rs≠0 then zDM rs else if us=[] then 9 else if 20<us.length then 2 else
 match (List.range us.length).findSome? (zBc us) with
 | some f=>f
 | none=>if 200<ds.length then 2 else match (List.range ds.length).findSome? (zCV rs us ds) with
  | some f=>f
  | none=>0
open Go.RowKit Dw
def encU:Nat→List Value:=fun n=>[u32V n]
abbrev OwnU (w:World) (B:Nat) (v:Value) (L:List Nat):Prop:=zAW encU 1 w B 197 v L
theorem ownU_map (L:List Nat):L.flatMap encU=L.map u32V:=flat1 L
theorem OwnU.get {w:World} {B g c n:Nat} {L:List Nat} (h:OwnU w B (.slice (some ⟨g,0,none⟩) n c) L) (hn:n=L.length) (i:Nat) (hi:i<L.length):w.cell? ⟨g,i,none⟩=some (.int .u32 ((L[i]:Nat):Int))∧w.frozen? ⟨g,i,none⟩=false:=by
 subst hn;unfold OwnU zAW at h;rw [ownU_map] at h;have h1:=World.ownsRow.cellAt h i za;exact ⟨by rw [h1];simp [hi,u32V],World.ownsRow.frozenAt h i⟩
theorem OwnU.put {w:World} {B g c n:Nat} {L:List Nat} (h:OwnU w B (.slice (some ⟨g,0,none⟩) n c) L) (hn:n=L.length) (i x:Nat) :
  OwnU (w.setCell ⟨g,i,none⟩ (.int .u32 (x:Int))) B (.slice (some ⟨g,0,none⟩) n c) (L.set i x):=by
 subst hn;unfold OwnU zAW at h ⊢;rw [ownU_map] at h ⊢;have h1:=(World.ownsRow.stored h i (.int .u32 (x:Int))).1;rw [List.map_set,List.length_set];exact h1
theorem words_of {L:List Nat} (h:WLt B32 L) (h2:L=[]∨B32 ^ (L.length - 1)≤zAg B32 L):L=zAc B32 (zAg B32 L):=by
 rw [←zBW zAt h]
 rcases h2 with rfl | h2
 ·rfl
 ·rcases Nat.eq_zero_or_pos L.length with h0 | h0
  ·rw [List.eq_nil_of_length_eq_zero h0];rfl
  ·have e:L.length - 1<L.length:=by omega
   have h3:=zEl (L:=L) (k:=L.length - 1) e;rw [show L.length - 1+1=L.length by omega,List.take_length] at h3
   refine (h3 fun h0=>?_).symm
   have h4:=zAA (B:=B32) (l:=L) (i:=L.length - 1) e;rw [h0,show L.length - 1+1=L.length by omega,List.take_length,Nat.mul_zero,Nat.add_zero] at h4
   have h5:=zDk (h.take (L.length - 1));rw [List.length_take,Nat.min_eq_left za] at h5;omega
theorem dgB_of {c:UInt8} (h:dgB c=true):48≤c.toNat∧c.toNat≤57:=by
 unfold dgB at h
 simpa using h
theorem decV_snoc (l:List UInt8) (c:UInt8):zBI (l++[c])=10*zBI l+(c.toNat - 48):=by
 rw [zBX];have:zBI [c]=c.toNat - 48:=by simp [zBI]
 rw [this];simp;omega
theorem decV_dg {l:List UInt8} (h:l.all dgB=true):zBI l<10 ^ l.length :=
 decV_lt fun c hc=>by have:=dgB_of (List.all_eq_true.1 h c hc);omega
theorem last_words {n:Nat}:zAc B32 n=[]∨B32 ^ ((zAc B32 n).length - 1)≤n:=by
 rcases Nat.eq_zero_or_pos (zAc B32 n).length with h0 | h0
 ·exact .inl (List.eq_nil_of_length_eq_zero h0)
 ·have:=zEg (B:=B32) h0 (zCj zAt h0)
  rw [zAl zAt] at this;exact .inr this
theorem scale_step {L L2:List Nat} {i cy sc c0 t:Nat} (hi:i<L.length) (hl:L2.length=L.length) (hd:L2.drop i=L.drop i) (ht:t=cy+sc*L[i]) (hV:zAg B32 (L2.take i)+B32 ^ i*cy=zAg B32 (L.take i)*sc+c0) :
  zAg B32 ((L2.set i (t % 4294967296)).take (i+1))+B32 ^ (i+1)*(t / 4294967296)=zAg B32 (L.take (i+1))*sc+c0∧(L2.set i (t % 4294967296)).drop (i+1)=L.drop (i+1):=by
 refine ⟨?_,?_⟩
 ·rw [zEf za,zAA hi]
  have e:=scale_col (B:=B32) (i:=i) (o:=zAg B32 (L2.take i)) ht;rw [zCx] at e ⊢;rw [zCx] at hV;rw [e,hV,Nat.add_mul,Nat.mul_assoc,Nat.mul_comm L[i] sc];omega
 ·rw [List.drop_set_of_lt (Nat.lt_succ_self i)]
  have h1:=congrArg (List.drop 1) hd
  rwa [List.drop_drop,List.drop_drop] at h1
theorem scale_words {L2:List Nat} {n cy N:Nat} (hW:WLt B32 L2) (hl:L2.length=(zAc B32 n).length) (hV:zAg B32 L2+B32 ^ (zAc B32 n).length*cy=N) (hn:n≤N) (hcy:cy<B32) :
  (cy=0→L2=zAc B32 N)∧(0<cy→L2++[cy]=zAc B32 N):=by
 refine ⟨fun h=>?_,fun h=>?_⟩
 ·rw [h,Nat.mul_zero,Nat.add_zero] at hV
  rw [←hV];refine words_of hW ?_
  rcases last_words (n:=n) with e | e
  ·rw [e] at hl
   exact .inl (List.eq_nil_of_length_eq_zero hl)
  ·rw [hl,hV]
   exact .inr (Nat.le_trans e hn)
 ·have e:zAg B32 (L2++[cy])=N:=by rw [zAR,zBK,hl,hV]
  rw [←e];refine words_of (hW.append (WLt.cons hcy WLt.nil)) (.inr ?_)
  rw [zAR,zBK];have h2:=Nat.mul_le_mul_left (B32 ^ L2.length) h;rw [Nat.mul_one] at h2;have e3:(L2++[cy]).length - 1=L2.length:=ze;rw [e3];exact Nat.le_trans h2 (Nat.le_add_left _ _)
def NtRel (w:World) (s:ByteArray) (m:Nat) (sv av:Value) (wr:World):Prop :=
 ∃ (t:ByteArray) (pre:List UInt8) (A:Option Addr) (c:Nat),sv = .string t∧m=t.size∧pre++t.data.toList=s.data.toList∧av=ntV A c (zBI pre)∧OwnU wr w.heap.size (ntV A c (zBI pre)) (zAc B32 (zBI pre))∧Below w.heap.size w wr
def NtRel2 (w1:World) (t:ByteArray) (k:Nat) (m:Nat) (cv scv iv:Value) (wr:World):Prop :=
 ∃ i:Nat,i+m=k∧iv = .int .i64 i∧cv = .int .u64 ((zBI (t.data.toList.take i):Nat):Int)∧scv = .int .u64 ((10 ^ i:Nat):Int)∧wr=w1
def NtRel3 (w:World) (A:Option Addr) (c:Nat) (L:List Nat) (c0 sc:Nat) (m:Nat) (cv iv:Value) (wr:World):Prop :=
 ∃ (i cy:Nat) (L2:List Nat),i+m=L.length∧iv = .int .i64 i∧cv = .int .u64 (cy:Int)∧cy≤1000000000∧L2.length=L.length∧WLt B32 L2∧L2.drop i=L.drop i ∧
  zAg B32 (L2.take i)+B32 ^ i*cy=zAg B32 (L.take i)*sc+c0∧OwnU wr w.heap.size (.slice A L.length c) L2∧Below w.heap.size w wr
theorem OwnU.nt {w:World} {B c n:Nat} {A:Option Addr} (h:OwnU w B (ntV A c n) (zAc B32 n)):Nt w A c n:=by
 have hcap:(zAc B32 n).length≤c:=by
  rcases h.2 with ⟨h',hn⟩ | ⟨g',cap',cur,h',_,_,hnc,_⟩
  ·rw [hn];exact Nat.zero_le _
  ·simp only [ntV,Value.slice.injEq] at h'
   omega
 obtain ⟨A',c',hv,hr⟩:=zAW.rd1 (f:=u32V) h;simp only [ntV,Value.slice.injEq,true_and] at hv;obtain ⟨rfl,rfl⟩:=hv;exact ⟨hr,hcap⟩
theorem zDb (s:ByteArray) (k:Nat) (h:k<s.size):s.data.toList[k]'(by simpa using h)=s[k]:=rfl
theorem decV_take {t:ByteArray} {i:Nat} (h:i<t.size):zBI (t.data.toList.take (i+1))=10*zBI (t.data.toList.take i)+(t[i].toNat - 48):=by
 rw [List.take_succ_eq_append_getElem zo,decV_snoc,zDb t i h]
theorem natText_c (s:ByteArray) (w:World) (hd:s.data.toList.all dgB=true) (hs:s.size≤2000) :
  Calls Tryz.prog 112 #[.string s] w (zDX (zAy s) w):=by
 go_enter Tryz.func112,Tryz.ntmps112
 go_wp2
 go_loopg [0,3] s.size (NtRel w s)
 case atStart=>exact ⟨s,[],none,0,rfl,rfl,rfl,rfl,zAW.nil encU 1 w w.heap.size 197,Below.refl _ _⟩
 case round =>
  obtain ⟨t,pre,A,c,rfl,hm,hpre,rfl,hown,hbw⟩:=hrel;have HM:=zq hm;have HPRE:=zq hpre
  have htd:t.data.toList.all dgB=true:=by
   rw [←hpre,List.all_append,Bool.and_eq_true] at hd;exact hd.2
  have hpd:pre.all dgB=true:=by
   rw [←hpre,List.all_append,Bool.and_eq_true] at hd;exact hd.1
  have hlen:pre.length+t.size≤2000:=by
   have:=congrArg List.length hpre;rw [List.length_append] at this;have e1:t.data.toList.length=t.size:=ze;have e2:s.data.toList.length=s.size:=ze;omega
  have HTD:=zq htd;have HPD:=zq hpd
  have hwl:(zAc B32 (zBI pre)).length≤2000:=by
   have h1:=decV_dg hpd;have h2:10 ^ pre.length≤B32 ^ pre.length:=Nat.pow_le_pow_left zd _;have:=zBg zAt (Nat.lt_of_lt_of_le h1 h2);omega
  clear hm hpre htd hpd
  rcases Nat.eq_zero_or_pos t.size with h0 | h0
  ·go_wp2
   go_ret
   have e:zAy s=zBI pre:=by
    unfold zAy;rw [←HPRE.o,List.eq_nil_of_length_eq_zero (l:=t.data.toList) (by simpa using h0),List.append_nil]
   rw [e];exact ⟨A,c,rfl,hown.nt,hbw⟩
  ·obtain ⟨k,hk⟩:∃ k,k=min 9 t.size:=⟨_,rfl⟩
   have hmin:min (9:Int) (t.size:Int)=(k:Int):=by rw [hk];omega
   have hk1:k≤9:=za;have hk2:k≤t.size:=za;have hk3:1≤k:=za;clear hk;go_wp2;obtain ⟨wo,hwo⟩:∃ wo:World,wo=wr:=⟨_,rfl⟩;subst hwo;clear hmin
   go_loopg [5,6,16] k (NtRel2 wo t k)
   case atStart=>exact ⟨0,za,rfl,rfl,rfl,rfl⟩
   case round =>
    obtain ⟨i,him,rfl,rfl,rfl,hw⟩:=hrel;subst hw;have HIM:=zq him;clear him;obtain ⟨cc,hcc⟩:∃ cc,zBI (t.data.toList.take i)=cc:=⟨_,rfl⟩;obtain ⟨sc,hsc⟩:∃ sc,10 ^ i=sc:=⟨_,rfl⟩;rw [hcc,hsc]
    have hcsc:cc<sc:=by
     have h1:=decV_dg (l:=t.data.toList.take i) (by
      rw [List.all_eq_true];exact fun x hx=>List.all_eq_true.1 HTD.o x (List.mem_of_mem_take hx))
     rw [List.length_take] at h1;have e2:t.data.toList.length=t.size:=ze;have e3:min i t.data.toList.length=i:=by have:=HIM.o;omega
     rw [e3,hcc,hsc] at h1;exact h1
    by_cases hlt:i<k
    ·have hsc9:sc≤100000000:=by
      rw [←hsc];exact Nat.le_trans (Nat.pow_le_pow_right za (show i≤8 by omega)) zd
     have hit:i<t.size:=za;have hdg:=dgB_of (List.all_eq_true.1 HTD.o t[i] (by rw [←zDb t i hit];exact List.getElem_mem _))
     obtain ⟨hd1,hd2⟩:=hdg;have HCC:=zq hcc;have HSC:=zq hsc;clear hcc hsc;go_wp2
     go_roundg (gk - 1)
     case measure=>have:=HIM.o;omega
     case rel =>
      refine ⟨i+1,by have:=HIM.o;omega,zi,?_,?_,rfl⟩
      ·rw [decV_take hit,HCC.o]
       congr 1
       omega
      ·rw [Nat.pow_succ,HSC.o]
       congr 1
       omega
    ·obtain rfl:i=k:=by have:=HIM.o;omega
     have hsc9:sc≤1000000000:=by
      rw [←hsc];exact Nat.le_trans (Nat.pow_le_pow_right za hk1) zd
     have hsc1:1≤sc:=by rw [←hsc];exact Nat.pow_pos za
     have HNV:Hid (zBI (pre++t.data.toList.take i)=zBI pre*sc+cc):=by
      show _=_
      have e2:(t.data.toList.take i).length=i:=by rw [List.length_take];simp;omega
      rw [zBX,e2,hcc,hsc]
     have HNX:Hid ((pre++t.data.toList.take i)++(t.extract i t.size).data.toList=s.data.toList):=by
      show _=_
      rw [List.append_assoc,Lib.extract_data,List.take_of_length_le (l:=List.drop i t.data.toList) (by rw [List.length_drop];simp),List.take_append_drop]
      exact HPRE.o
     have hxs:(t.extract i t.size).size=t.size - i:=ze;have HXS:=zq hxs;have hL:=zAJ zAt (zBI pre);have HWV:=zq (zAl zAt (zBI pre))
     have HLW:Hid (∀ (L2:List Nat) (cy:Nat),WLt B32 L2→L2.length=(zAc B32 (zBI pre)).length→zAg B32 L2+B32 ^ (zAc B32 (zBI pre)).length*cy=zBI pre*sc+cc→cy<B32→(cy=0→L2=zAc B32 (zBI pre*sc+cc))∧(0<cy→L2++[cy]=zAc B32 (zBI pre*sc+cc))) :=
      fun L2 cy h1 h2 h3 h4=>scale_words h1 h2 h3 (Nat.le_trans (Nat.le_mul_of_pos_right _ hsc1) (Nat.le_add_right _ _)) h4
     clear hcc hsc hxs;unfold ntV at hown ⊢;obtain ⟨L,hLd⟩:∃ L,zAc B32 (zBI pre)=L:=⟨_,rfl⟩;rw [hLd] at hown hL HWV HLW hwl;rw [hLd];have HLD:=zq hLd;clear hLd;go_wp2;have HBW:=zq hbw;clear hbw
     go_loopg [5,35] L.length (NtRel3 w A c L cc sc)
     case atStart=>exact ⟨0,cc,L,za,rfl,rfl,za,rfl,hL,rfl,qz,hown,HBW.o⟩
     case round =>
      clear hown HBW;obtain ⟨j,cy,L2,hjm,rfl,rfl,hcy,hl2,hW2,hdr,hV2,hown,hbw⟩:=hrel;have HJM:=zq hjm;have HL2:=zq hl2;have HDR:=zq hdr;have HV2:=zq hV2;clear hjm hl2 hdr hV2
      by_cases hj:j<L.length
      ·have hj2:j<L2.length:=by have:=HL2.o;omega
       have e2:L2[j]=L[j]:=by
        have h1:=HDR.o;rw [List.drop_eq_getElem_cons hj2,List.drop_eq_getElem_cons hj] at h1
        injection h1
       obtain ⟨g,cap',hv,_,hglt⟩:=World.ownsRow.form hown za;simp only [Value.slice.injEq] at hv;obtain ⟨rfl,_,_⟩:=hv;obtain ⟨hc1,hf1⟩:=OwnU.get hown HL2.o.symm j hj2;rw [e2] at hc1;have hx:L[j]<4294967296:=hL.get j hj;obtain ⟨p,hp⟩:∃ p,p=sc*L[j]:=⟨_,rfl⟩;have hpB:p≤1000000000*4294967295:=by rw [hp];exact Nat.mul_le_mul hsc9 za
       have hpe:(sc:Int)*(L[j]:Int)=(p:Int):=by rw [hp];exact (Int.natCast_mul _ _).symm
       obtain ⟨T,hT⟩:∃ T,T=cy+p:=⟨_,rfl⟩;have hTe:(cy:Int)+(p:Int)=(T:Int):=by rw [hT];exact (Int.natCast_add _ _).symm
       have hTB:T≤4294967296000000000:=za;have hst:=scale_step (t:=T) hj HL2.o HDR.o (by rw [hT,hp]) HV2.o
       have HST:=zq hst;clear hp hT hst e2 hpB;go_wp2
       go_roundg (gk - 1)
       case measure=>have:=HJM.o;omega
       case rel =>
        refine ⟨j+1,T / 4294967296,L2.set j (T % 4294967296),zx,zi,rfl,za,by rw [List.length_set];exact HL2.o,hW2.set (modB T) j,HST.o.2,HST.o.1,OwnU.put hown HL2.o.symm j _,hbw.setCell (World.ownsRow.lt hown g (by simp [Value.ownBlock])).1 _⟩
      ·obtain rfl:j=L.length:=by have:=HJM.o;omega
       have hres:=HLW.o L2 cy hW2 HL2.o (by
        have h1:=HV2.o;rw [List.take_of_length_le (by have:=HL2.o;omega),List.take_of_length_le (Nat.le_refl _),HWV.o] at h1
        exact h1) qc
       have HRES:=zq hres;clear hres
       rcases Nat.eq_zero_or_pos cy with h0 | h0
       ·subst h0
        have hlw:=HRES.o.1 rfl;have HLW2:=zq hlw;clear hlw;go_wp2
        go_roundg (t.size - i)
        case measure=>have:=HM.o;omega
        case rel =>
         have e:=HLW2.o;have e2:=HL2.o;refine ⟨t.extract i t.size,pre++t.data.toList.take i,A,c,rfl,HXS.o.symm,HNX.o,?_,?_,hbw⟩
         ·rw [HNV.o]
          show Value.slice A L.length c = .slice A (zAc B32 (zBI pre*sc+cc)).length c
          rw [←e,e2]
         ·rw [HNV.o]
          show OwnU wr w.heap.size (.slice A (zAc B32 (zBI pre*sc+cc)).length c) (zAc B32 (zBI pre*sc+cc))
          rw [←e,e2];exact hown
       ·have hlw:=HRES.o.2 h0
        have HLW2:=zq hlw;have hl2:=HL2.o;clear hlw;rw [←hl2] at hown hwl ⊢
        go_wp2_with (at_builtin;refine zBf _ _ _ elNat rfl rfl w.heap.size _ L2 rfl (zAW.alloc hown _) wr.heap.size 1 cy rfl (heap_alloc_new _ _) rfl (by simp [encU,u32V,Value.oneCell']) zm za (by simp;exact Nat.le_succ_of_le hbw.size) ?_;intro A7 c7 w7 hown7 hg7 hb7 hat7)
        have hbw7:=(hbw.alloc hbw.size _).trans hb7;go_wp2
        go_roundg (t.size - i)
        case measure=>have:=HM.o;omega
        case rel =>
         have e:=HLW2.o;have e3:(zAc B32 (zBI pre*sc+cc)).length=L2.length+1:=by rw [←e];simp
         refine ⟨t.extract i t.size,pre++t.data.toList.take i,A7,c7,rfl,HXS.o.symm,HNX.o,?_,?_,hbw7⟩
         ·rw [HNV.o]
          show Value.slice A7 (L.length+1) c7 = .slice A7 (zAc B32 (zBI pre*sc+cc)).length c7
          rw [e3,HL2.o]
         ·rw [HNV.o]
          show OwnU w7 w.heap.size (.slice A7 (zAc B32 (zBI pre*sc+cc)).length c7) (zAc B32 (zBI pre*sc+cc))
          rw [e3,←e];exact hown7
end Go.Proofs.YtieoifkdobcpiaaGreatDoor
