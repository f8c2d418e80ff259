/- Parts of the proof, joined: The reference's digits of a number. How large the parts' numbers can g. -/
import Derived.Test.YtieoifkdobcpiaaGreatDoorSs26
set_option maxRecDepth 100000
set_option maxHeartbeats 8000000
namespace Go.Proofs.YtieoifkdobcpiaaGreatDoor
open Go.RowKit Dw
theorem itoaB_nat (l:Nat):itoaB (l:Int)=zCm l:=by
 unfold itoaB Lib.itoa zCm;rw [if_neg za]
 rfl
theorem digB_app {v l:Nat} (hv:v≠0) (hl:l<10000):zCm (v*10000+l)=zCm v++(⟨(zer (4 - (zCm l).size)).toArray⟩++zCm l):=by
 apply ba_ext
 rw [data_app,data_app,digB_list,digB_list,digB_list,dig_snoc4 hv hl,zDs];simp [pad4]
theorem digB_lenT {n k:Nat} (h:(zAc BT n).length≤k):(zCm n).size≤4*k+1:=by
 rw [zDs];have h1:=zBl zAU n
 have h3:BT ^ (zAc BT n).length≤10 ^ (4*k):=by
  rw [Nat.pow_mul];exact Nat.le_trans (Nat.pow_le_pow_left (show BT≤10 ^ 4 by decide) _) (Nat.pow_le_pow_right zd h)
 exact (dig_len n (4*k+1) za).2 (Nat.lt_of_lt_of_le h1 (Nat.le_trans h3 (Nat.pow_le_pow_right zd za)))
theorem repeat_c (k:Nat) (w:World) (hk:k≤4):Calls Tryz.prog 145 #[.string ⟨#[48]⟩,.int .i64 (k:Int)] w (zAe (.string ⟨(zer k).toArray⟩) w):=by
 have h:=Any.strings_Repeat Tryz.lays105 Tryz.Builder_Extra_105 ⟨#[48]⟩ k w za (by show 1*k≤_;omega)
 change Calls Tryz.prog 145 _ _ _ at h
 have e:Lib.repeatL (⟨#[48]⟩:ByteArray).data.toList k=zer k:=by
  have:=Lib.repeatL_replicate 48 1 k;rw [Nat.mul_one] at this;exact this
 rw [e] at h;exact h.mono fun _ _ ⟨he,hw⟩=>⟨he,hw⟩
def DgR (w:World) (L:List Nat) (m:Nat) (sv iv:Value) (wr:World):Prop :=
 ∃ z:Int,z=(m:Int) - 1∧m<L.length∧iv = .int .i64 z∧sv = .string (zCm (zAg BT (L.drop m)))∧Below w.heap.size w wr
theorem digitsL_zero (A:Option Addr) (c:Nat) (w:World):Calls Tryz.prog 104 #[lmV A c 0] w (zAe (.string (zCm 0)) w):=by
 rw [digB_zero]
 go_enter Tryz.func104,Tryz.ntmps104
 go_wp2;go_ret
 exact zAe.mk rfl (Below.refl _ _)
theorem drop_last {L:List Nat} {k:Nat} (h:k<L.length) (hk:k+1=L.length):zAg BT (L.drop k)=L[k]:=by
 rw [zCJ h,List.drop_eq_nil_of_le za]
 show L[k]+BT*0=_
 rw [Nat.mul_zero,Nat.add_zero]
theorem digitsL_c (A:Option Addr) (c n:Nat) (w:World) (h:Lt w A c n) (hn:(zAc BT n).length≤100000000) (hP:POK w):Calls Tryz.prog 104 #[lmV A c n] w (zAe (.string (zCm n)) w):=by
 by_cases h0:n=0
 ·subst h0
  exact digitsL_zero A c w
 have hl:=pos_lenT (n:=n) za;obtain ⟨b,o,rfl,hb0,hc⟩:=h.rd.at_ hl;have HRD:=zq h.rd;have HWL:=zq (zAJ zAU n);have HDP:Hid (∀ i,i<(zAc BT n).length→zAg BT ((zAc BT n).drop i)≠0):=fun i hi=>drop_pos hi
 have HV:Hid (zAg BT (zAc BT n)=n):=zAl zAU n
 have HSZ:Hid (∀ i,(zCm (zAg BT ((zAc BT n).drop i))).size≤400000001):=fun i=>by
  refine digB_lenT (k:=100000000) ?_
  refine Nat.le_trans (zAq zAU ?_) hn
  rcases Nat.lt_or_ge i (zAc BT n).length with hi | hi
  ·have h1:=zCd BT i (zAc BT n) za
   rw [zAl zAU] at h1;have h2:1*zAg BT ((zAc BT n).drop i)≤BT ^ i*zAg BT ((zAc BT n).drop i):=Nat.mul_le_mul_right _ (Nat.pow_pos BT_pos);omega
  ·rw [List.drop_eq_nil_of_le hi];exact Nat.zero_le _
 unfold lmV;generalize zAc BT n=L at *;obtain ⟨k,hk⟩:∃ k,k+1=L.length:=⟨L.length - 1,za⟩;have hkl:k<L.length:=za;have hc1:=hc k hkl;have hlk:L[k]<10000:=HWL.o _ (List.getElem_mem hkl);have hle:(L.length:Int) - 1=(k:Int):=za;have hlb:((L.length:Int) == 0)=false:=by simp;intro e;rw [e] at hl;simp at hl
 have HI1:=zq (itoa_c (L[k]:Int) w za za hP);have HDL:=zq (drop_last hkl hk);have HP:=zq hP;have HK:=zq hk;clear h hc hk hP h0 hlk
 go_enter Tryz.func104,Tryz.ntmps104
 go_wp2_with fail
 with_reducible refine HI1.o.mono ?_
 rintro e w1 ⟨rfl,hb1⟩;have HB1:=zq hb1;clear hb1 HI1 hc1;go_wp2
 go_loopg [3,4] k (DgR w L)
 case atStart=>exact ⟨(k:Int) - 1,rfl,hkl,by rw [show (L.length:Int) - 2=(k:Int) - 1 by have:=HK.o;omega],by rw [HDL.o,itoaB_nat],HB1.o⟩
 case round =>
  obtain ⟨z,hz,hm,rfl,rfl,hb⟩:=hrel;have HB:=zq hb;clear hb
  rcases Nat.eq_zero_or_pos gk with hg | hg
  ·subst hg
   obtain rfl:z = -1:=za;clear hz;go_wp2;go_ret
   exact zAe.mk (by rw [List.drop_zero,HV.o];rfl) HB.o
  ·obtain ⟨j,rfl⟩:∃ j,gk=j+1:=⟨gk - 1,za⟩
   obtain rfl:z=(j:Int):=za;have hjl:j<L.length:=za;obtain ⟨b',o',e1,hb2,hc2⟩:=(HRD.o.below HB.o).at_ za
   injection e1 with e1
   injection e1 with e1 e2 _
   subst e1;subst e2;have hc3:=hc2 j hjl;have hlj:L[j]<10000:=HWL.o _ (List.getElem_mem hjl);have HI2:=zq (itoa_c (L[j]:Int) wr za za (HP.o.below HB.o));have hs1:(zCm L[j]).size≤4:=by rw [zDs];exact dig4 hlj
   have HDS:Hid (zCm (zAg BT (L.drop j))=zCm (zAg BT (L.drop (j+1)))++(⟨(zer (4 - (zCm L[j]).size)).toArray⟩++zCm L[j])):=by
    show _=_
    rw [zCJ hjl,←digB_app (HDP.o _ hm) hlj,BT_eq]
    congr 1
    omega
   rw [itoaB_nat] at HI2;have hs3:=HSZ.o (j+1);generalize zCm (zAg BT (L.drop (j+1)))=s1 at *;generalize zCm L[j]=s2 at *;have hzl:(⟨(zer (4 - s2.size)).toArray⟩:ByteArray).size=4 - s2.size:=by show (zer (4 - s2.size)).toArray.size=_;simp [zer]
   have HRP:=zq (fun W=>repeat_c (4 - s2.size) W za)
   have hcs:((4 - s2.size:Nat):Int)=4 - (s2.size:Int):=za;rw [hcs] at HRP;have ca1:=cat_big ⟨(zer (4 - s2.size)).toArray⟩ s2 (by rw [hzl];omega)
   have ca2:=cat_big s1 (⟨(zer (4 - s2.size)).toArray⟩++s2) (by rw [ByteArray.size_append,hzl];omega)
   clear hc2 hlj hz;generalize (⟨(zer (4 - s2.size)).toArray⟩:ByteArray)=sz at *
   go_wp2_with fail
   with_reducible refine HI2.o.mono ?_
   rintro e w2 ⟨rfl,hb3⟩;have HB3:=zq (zAa HB.o hb3);clear hb3 HI2 hc3
   go_wp2_with fail
   with_reducible refine (HRP.o _).mono ?_
   rintro e w3 ⟨rfl,hb4⟩;have HB4:=zq (zAa HB3.o hb4);clear hb4;go_wp2
   go_roundg j
   case measure=>omega
   case rel=>exact ⟨(j:Int) - 1,rfl,za,zi,by rw [HDS.o],HB4.o⟩
end Go.Proofs.YtieoifkdobcpiaaGreatDoor
namespace Go.Proofs.YtieoifkdobcpiaaGreatDoor
open Dw
theorem den_mk {n:Int} {d:Nat} (hd:d≠0):(mkRat n d).den∣d:=by
 rw [Rat.den_mkRat,if_neg hd];exact Nat.div_dvd_of_dvd (Nat.gcd_dvd_left _ _)
theorem as_mk {a:Rat} {M:Nat} (hM:M≠0) (h:a.den∣M):∃ x:Int,a=mkRat x M:=by
 obtain ⟨k,rfl⟩:=h;have hk:k≠0:=fun e=>hM (by rw [e,Nat.mul_zero])
 refine ⟨a.num*k,?_⟩
 conv=>lhs;rw [←Rat.mkRat_self a]
 rw [Rat.mkRat_eq_iff a.den_nz hM]
 push_cast
 grind
theorem den_add {a b:Rat} {M:Nat} (hM:M≠0) (ha:a.den∣M) (hb:b.den∣M):(a+b).den∣M:=by
 obtain ⟨x,rfl⟩:=as_mk hM ha;obtain ⟨y,rfl⟩:=as_mk hM hb
 have:mkRat x M+mkRat y M=mkRat (x+y) M:=by
  rw [Rat.mkRat_add_mkRat _ _ hM hM,Rat.mkRat_eq_iff (Nat.mul_ne_zero hM hM) hM]
  push_cast
  grind
 rw [this];exact den_mk hM
theorem den_neg (a:Rat):(-a).den=a.den:=rfl
theorem den_sub {a b:Rat} {M:Nat} (hM:M≠0) (ha:a.den∣M) (hb:b.den∣M):(a - b).den∣M:=by
 have:a - b=a + -b:=by grind
 rw [this];exact den_add hM ha (by rw [den_neg];exact hb)
theorem den_mul {a b:Rat}:(a*b).den∣a.den*b.den:=by
 have h:a*b=mkRat (a.num*b.num) (a.den*b.den):=by
  conv=>lhs;rw [←Rat.mkRat_self a,←Rat.mkRat_self b]
  rw [Rat.mkRat_mul_mkRat]
 rw [h];exact den_mk (Nat.mul_ne_zero a.den_nz b.den_nz)
structure HoldB (N:List ByteArray) (M:Nat) (f:zBp):Prop where
 ok:HoldOk N f
 nd:N.Nodup
 sum:sumF N f≤1
 den:∀ p,(f p).den∣M
 nz:M≠0
theorem sum_ge {N:List ByteArray} {f:zBp} (h:∀ p,0≤f p):0≤sumF N f:=by
 induction N with
 | nil=>exact Rat.le_refl
 | cons a N ih=>rw [zCZ];have:=h a;grind
theorem le_sum {N:List ByteArray} {f:zBp} (h:∀ p,0≤f p) {p:ByteArray} (hp:p∈N):f p≤sumF N f:=by
 induction N with
 | nil=>cases hp
 | cons a N ih =>
  rw [zCZ]
  rcases List.mem_cons.1 hp with rfl | hp
  ·have:=sum_ge (N:=N) h;grind
  ·have:=ih hp;have:=h a;grind
theorem HoldB.le {N:List ByteArray} {M:Nat} {f:zBp} (h:HoldB N M f) (p:ByteArray):f p≤1:=by
 by_cases hp:p∈N
 ·have:=le_sum h.ok.pos hp;have:=h.sum;grind
 ·rw [h.ok.out p hp];decide
def denP (l:List Sh):Nat:=l.foldr (fun s n=>zAy s.de*n) 1
theorem denP_dvd {l:List Sh} {s:Sh} (h:s∈l):zAy s.de∣denP l:=by
 induction l with
 | nil=>cases h
 | cons a l ih =>
  show _∣zAy a.de*denP l
  rcases List.mem_cons.1 h with rfl | h
  ·exact Nat.dvd_mul_right _ _
  ·exact Nat.dvd_trans (ih h) (Nat.dvd_mul_left _ _)
theorem denP_nz {l:List Sh} (h:∀ s∈l,0<zAy s.de):denP l≠0:=by
 induction l with
 | nil=>decide
 | cons a l ih =>
  show zAy a.de*denP l≠0
  have:=h a List.mem_cons_self;exact Nat.mul_ne_zero za (ih fun s hs=>h s (List.mem_cons_of_mem _ hs))
theorem denP_lt {l:List Sh} (h:∀ s∈l,zAy s.de<10 ^ 2000):denP l<10 ^ (2000*l.length+1):=by
 induction l with
 | nil=>decide
 | cons a l ih =>
  show zAy a.de*denP l<_
  have h1:=h a List.mem_cons_self;have h2:=ih fun s hs=>h s (List.mem_cons_of_mem _ hs)
  have e:2000*(a::l).length+1=2000+(2000*l.length+1):=by rw [List.length_cons];omega
  obtain ⟨u,hu⟩:∃ u,u=2000:=⟨_,rfl⟩;rw [e,Nat.pow_add];rw [←hu] at h1 h2 ⊢
  rcases Nat.eq_zero_or_pos (denP l) with h0 | h0
  ·rw [h0,Nat.mul_zero]
   exact Nat.mul_pos (Nat.pow_pos zd) (Nat.pow_pos zd)
  ·exact Nat.mul_lt_mul'' h1 h2
theorem shSum_app (l m:List Sh):zBT (l++m)=zBT l+zBT m:=by
 induction l with
 | nil=>show zBT m=0+zBT m;grind
 | cons a l ih=>show shQ a+zBT (l++m)=shQ a+zBT l+zBT m;rw [ih];grind
theorem shSum_pos (l:List Sh):0≤zBT l:=by
 induction l with
 | nil=>exact Rat.le_refl
 | cons a l ih=>show 0≤shQ a+zBT l;have:=shQ_pos a;grind
theorem shSum_take (l:List Sh) (j:Nat):zBT (l.take j)≤zBT l:=by
 have h:=shSum_app (l.take j) (l.drop j);rw [List.take_append_drop] at h;have:=shSum_pos (l.drop j)
 grind
theorem shQ_den {s:Sh} (h:0<zAy s.de):(shQ s).den∣zAy s.de:=den_mk za
theorem HoldB.more {N K:List ByteArray} {M:Nat} {f:zBp} (h:HoldB N M f) (hk:K.Nodup) (hs:∀ p∈N,p∈K):HoldB K M f :=
 ⟨h.ok.mono hs,hk,by rw [sum_mono hk h.nd (h.ok.mono hs) h.ok];exact h.sum,h.den,h.nz⟩
theorem mul_le {a q:Rat} (ha:0≤a) (h1:a≤1) (hq0:0≤q) (hq:q≤1):0≤a*q∧a*q≤1:=by
 have h2:=Rat.mul_le_mul_of_nonneg_left hq ha;have h3:=Rat.mul_nonneg ha hq0
 grind
theorem HoldB.passMid {N:List ByteArray} {M:Nat} {f:zBp} {fr:ByteArray} {l:List Sh} (h:HoldB N M f) (hf:fr∈N) (hl:∀ s∈l,s.pt∈N) (hd:∀ s∈l,0<zAy s.de) (h1:zBT l=1):∀ j,j≤l.length →
  HoldB N (M*denP l) (zBA (f fr) (l.take j) (upH f fr 0)):=fun j hj=>by
 have hz:=denP_nz hd;have hM:=Nat.mul_ne_zero h.nz hz;have hl':∀ s∈l.take j,s.pt∈N:=fun s hs=>hl s (List.mem_of_mem_take hs)
 have k0:HoldOk N (upH f fr 0):=h.ok.up hf Rat.le_refl;refine ⟨HoldOk.pass (h.ok.pos fr) _ _ k0 hl',h.nd,?_,?_,hM⟩
 ·rw [sumF_pass h.nd _ _ _ hl',sumF_up h.nd hf]
  have a:=shSum_take l j;have b:=h.sum;have c:=Rat.mul_le_mul_of_nonneg_left (show zBT (l.take j)≤1 by grind) (h.ok.pos fr)
  grind
 ·have key:∀ (m:List Sh) (g:zBp),(∀ s∈m,s∈l)→(∀ p,(g p).den∣M*denP l)→∀ p,(zBA (f fr) m g p).den∣M*denP l:=fun m=>by
   induction m with
   | nil=>exact fun g _ hg=>hg
   | cons s m ih =>
    intro g hs hg;refine ih (upH g s.pt (g s.pt+f fr*shQ s)) (fun t ht=>hs t (List.mem_cons_of_mem _ ht)) fun p=>?_
    by_cases hp:p=s.pt
    ·subst hp
     rw [zBD];refine den_add hM (hg _) (Nat.dvd_trans den_mul (Nat.mul_dvd_mul (h.den fr) ?_))
     have hsl:=hs s List.mem_cons_self;exact Nat.dvd_trans (shQ_den (hd s hsl)) (denP_dvd hsl)
    ·rw [zAN _ _ hp];exact hg p
  refine key _ _ (fun s hs=>List.mem_of_mem_take hs) fun p=>?_
  by_cases hp:p=fr
  ·subst hp;rw [zBD];exact Nat.one_dvd _
  ·rw [zAN _ _ hp];exact Nat.dvd_trans (h.den p) (Nat.dvd_mul_right _ _)
theorem HoldB.giveMid {N:List ByteArray} {M:Nat} {f:zBp} {d:De} (h:HoldB N M f) (hf:d.fr∈N) (hq:zCT d.nu d.de≤1) (hd:0<zAy d.de) :
  HoldB N (M*zAy d.de) (upH f d.fr (f d.fr - f d.fr*zCT d.nu d.de))∧(f d.fr*zCT d.nu d.de).den∣M*zAy d.de:=by
 have hM:=Nat.mul_ne_zero h.nz (show zAy d.de≠0 by omega)
 have hx:(f d.fr*zCT d.nu d.de).den∣M*zAy d.de:=Nat.dvd_trans den_mul (Nat.mul_dvd_mul (h.den _) (den_mk za));have hp:=mul_le (h.ok.pos d.fr) (h.le d.fr) (zEd d.nu d.de) hq;refine ⟨⟨h.ok.up hf (part_le (h.ok.pos _) hq),h.nd,?_,fun p=>?_,hM⟩,hx⟩
 ·rw [sumF_up h.nd hf]
  have:=h.sum
  grind
 ·by_cases hpp:p=d.fr
  ·subst hpp
   rw [zBD];exact den_sub hM (Nat.dvd_trans (h.den _) (Nat.dvd_mul_right _ _)) hx
  ·rw [zAN _ _ hpp];exact Nat.dvd_trans (h.den p) (Nat.dvd_mul_right _ _)
theorem HoldB.give {N:List ByteArray} {M:Nat} {f:zBp} {d:De} (h:HoldB N M f) (hf:d.fr∈N) (ht:d.to_∈N) (hq:zCT d.nu d.de≤1) (hd:0<zAy d.de):HoldB N (M*zAy d.de) (giveF d f):=by
 obtain ⟨h1,hx⟩:=h.giveMid hf hq hd;refine ⟨h.ok.give d hf ht hq,h.nd,by rw [sumF_give h.nd d f hf ht];exact h.sum,fun p=>?_,h1.nz⟩
 unfold giveF
 by_cases hp:p=d.to_
 ·subst hp
  rw [zBD];exact den_add h1.nz (h1.den _) hx
 ·rw [zAN _ _ hp];exact h1.den p
def growD (d:De):Nat:=if d.kd=5 then denP d.sh else zAy d.de
theorem HoldB.take {N:List ByteArray} {M:Nat} {f:zBp} {d:De} (h:HoldB N M f) (hp:ParOk d) (hk:d.kd=2∨d.kd=5) (hf:d.fr∈N) (ht:d.kd≠5→d.to_∈N) (hl:d.kd=5→∀ s∈d.sh,s.pt∈N):HoldB N (M*growD d) (zCR d f):=by
 unfold growD zCR
 rcases hk with hk | hk
 ·obtain ⟨a,b,c,_⟩:=hp.asg hk
  rw [if_neg za,if_neg za];exact h.give hf (ht za) c (zBL a)
 ·obtain ⟨a,b,_⟩:=hp.pas hk
  rw [if_pos hk,if_pos hk];have:=h.passMid hf (hl hk) (fun s hs=>zBL (a.rat s hs)) b d.sh.length (Nat.le_refl _)
  rwa [List.take_length] at this
theorem valS_lt {s:ByteArray} (h:zCP s=true) (hs:s.size≤2000):zAy s<10 ^ 2000:=by
 have h1:=decV_lt (l:=s.data.toList) fun c hc=>by
  have:=(zDG c).1 (List.all_eq_true.1 (zAQ h).1 c hc);omega
 obtain ⟨q,hq⟩:∃ q,q=2000:=⟨_,rfl⟩;rw [←hq] at hs ⊢;refine Nat.lt_of_lt_of_le h1 (Nat.pow_le_pow_right za ?_)
 rw [←Lib.size_eq];exact hs
theorem ratF_lt {nu de:ByteArray} (h:zDm nu de=0):zAy de<10 ^ 2000:=by
 obtain ⟨_,h2,_,_,h5⟩:=zBY h;exact valS_lt h2 h5
theorem shs_le {k:Int} {l:List Sh} (h:shF k l=0):zBT l≤1:=by
 obtain ⟨h1,h2,_⟩:=shF_ok h;obtain ⟨p1,p2⟩:=sumP_toQ (fun s hs=>zBL (h1.rat s hs)) l.length (Nat.le_refl _)
 rw [List.take_length] at p2;rw [←p2];exact toQ_le p1 h2
theorem chkD_sh {rs:List Rg} {us:List ByteArray} {pre:List De} {d:De} (h:chkD rs us pre d=0) (hk:d.kd=1∨d.kd=5):shF d.kd d.sh=0:=by
 unfold chkD at h
 have hg:zAh d.kd=false:=by
  unfold zAh
  rcases hk with e | e<;>rw [e]<;>rfl
 rw [hg] at h
 split at h
 ·cases h
 split at h
 ·cases h
 split at h
 ·cases h
 split at h
 ·cases h
 split at h
 ·cases h
 split at h
 ·cases h
 split at h
 ·next h1=>cases h1
 split at h
 ·omega
 unfold divF at h
 split at h
 ·cases h
 split at h
 ·cases h
 split at h
 ·next h1=>exact absurd h h1
 next h1=>simpa using h1
theorem title_sh {rs:List Rg} {us:List ByteArray} {ds:List De} (h:zCD rs us ds=0):∀ d∈ds,(d.kd=1∨d.kd=5)→shF d.kd d.sh=0:=fun d hd hk=>by
 obtain ⟨k,hk',rfl⟩:=List.getElem_of_mem hd;exact chkD_sh ((zBa h).2 k hk') hk
theorem growD_lt {d:De} (hp:ParOk d) (hl:d.sh.length≤20) (hk:d.kd=2∨d.kd=5):growD d<10 ^ 40001:=by
 unfold growD
 rcases hk with hk | hk
 ·rw [if_neg za]
  have h9:=ratF_lt (hp.asg hk).1;obtain ⟨a,ha⟩:∃ a,a=2000:=⟨_,rfl⟩;obtain ⟨b,hb⟩:∃ b,b=40001:=⟨_,rfl⟩;rw [←ha] at h9;rw [←hb];exact Nat.lt_of_lt_of_le h9 (Nat.pow_le_pow_right za za)
 ·rw [if_pos hk]
  obtain ⟨b,hb⟩:∃ b,b=40001:=⟨_,rfl⟩;rw [←hb];exact Nat.lt_of_lt_of_le (denP_lt fun s hs=>ratF_lt ((hp.pas hk).1.rat s hs)) (Nat.pow_le_pow_right za za)
theorem put_den:∀ (l:List Sh) (f:zBp) (M:Nat),M≠0→(∀ p,(f p).den∣M)→(∀ s∈l,(shQ s).den∣M)→∀ p,(zAj l f p).den∣M
 | [],_,_,_,hf,_=>hf
 | s::l,f,M,hM,hf,hs=>put_den l (upH f s.pt (shQ s)) M hM (fun p=>by
   by_cases hp:p=s.pt
   ·subst hp;rw [zBD];exact hs s List.mem_cons_self
   ·rw [zAN _ _ hp];exact hf p) fun t ht=>hs t (List.mem_cons_of_mem _ ht)
theorem start_bound {rs:List Rg} {us:List ByteArray} {ds:List De} (h:zCD rs us ds=0) (th:ByteArray) (day:Int):∃ M,HoldB (zDK th day ds) M (zDo th day ds)∧M<10 ^ 40001:=by
 obtain ⟨s1,s2⟩:=start_ok th day ds [] (fun _=>0) List.Pairwise.nil hold_none
 rcases start_one (th:=th) (day:=day) ds (title_org h) with ⟨a,_⟩ | ⟨d,hd,a,b,_⟩
 ·refine ⟨1,⟨s2,s1.nodup,?_,?_,zd⟩,by obtain ⟨b,hb⟩:∃ b,b=40001:=⟨_,rfl⟩;rw [←hb];exact Nat.one_lt_pow za zd⟩
  ·show sumF _ (zDo th day ds)≤1
   rw [a,sumF_zero];decide
  ·intro p
   show ((zDo th day ds) p).den∣1
   rw [a];exact Nat.dvd_refl _
 ·obtain ⟨k1,_,_⟩:=zDf.1 a
  have ho:=((zBO h d hd).org k1).1;have hsh:=title_sh h d hd (.inl k1);have hz:=denP_nz fun s hs=>zBL (ho.rat s hs)
  refine ⟨denP d.sh,⟨s2,s1.nodup,?_,?_,hz⟩,?_⟩
  ·show sumF (ds.foldl (zAK th day) []) (zDo th day ds)≤1
   rw [b,sumF_put s1.nodup d.sh (fun _=>0) (fun s hs=>(keys_start ds []).2 d hd a s hs) ho.nd (fun _ _=>rfl),sumF_zero]
   have:=shs_le hsh
   grind
  ·intro p
   show ((zDo th day ds) p).den∣_
   rw [b];exact put_den d.sh _ _ hz (fun p=>Nat.one_dvd _) (fun s hs=>Nat.dvd_trans (shQ_den (zBL (ho.rat s hs))) (denP_dvd hs)) p
  ·obtain ⟨b,hb⟩:∃ b,b=40001:=⟨_,rfl⟩
   rw [←hb];exact Nat.lt_of_lt_of_le (denP_lt fun s hs=>ratF_lt (ho.rat s hs)) (Nat.pow_le_pow_right za (by have:=shF_len hsh;omega))
theorem zCw (d:De) {K:List ByteArray}:(∀ p∈K,p∈zAu d K)∧d.fr∈zAu d K∧(d.kd≠5→d.to_∈zAu d K)∧(d.kd=5→∀ s∈d.sh,s.pt∈zAu d K):=by
 unfold zAu;refine ⟨fun p hp=>?_,?_,fun hk=>?_,fun hk s hs=>?_⟩
 ·split
  ·exact (zAV _).2 (.inr (zAP.2 (.inr hp)))
  ·exact zAP.2 (.inr (zAP.2 (.inr hp)))
 ·split
  ·exact (zAV _).2 (.inr (zAP.2 (.inl rfl)))
  ·exact zAP.2 (.inr (zAP.2 (.inl rfl)))
 ·rw [if_neg hk]
  exact zAP.2 (.inl rfl)
 ·rw [if_pos hk]
  exact (zAV _).2 (.inl ⟨s,hs,rfl⟩)
theorem movB_kd {rs:List Rg} {ds:List De} {i:Nat} {th use:ByteArray} {day:Int} {d:De} (h:zDE rs ds i th use day d=true):d.kd=2∨d.kd=5:=by
 unfold zDE at h
 split at h
 ·next h1=>exact .inl h1
 ·split at h
  ·next h2=>exact .inr h2
  ·cases h
theorem take_snoc {l:List De} {k:Nat} (hk:k<l.length):l.take (k+1)=l.take k++[l[k]]:=List.take_succ_eq_append_getElem hk
theorem zDz (rs:List Rg) {ds:List De} (i:Nat) (th use:ByteArray) (day:Int) {n:Nat} (hn:n<ds.length) :
  zAD rs ds i th use day (n+1)=stepF (zDE rs ds i th use day) (zAD rs ds i th use day n) ds[n]∧zBz rs ds i th use day (n+1)=zBb (zDE rs ds i th use day) (zBz rs ds i th use day n) ds[n]:=by
 unfold zAD zBz;rw [take_snoc hn,List.foldl_append,List.foldl_append];exact ⟨rfl,rfl⟩
theorem zDA {rs:List Rg} {us:List ByteArray} {ds:List De} (h:zCD rs us ds=0) (i:Nat) (th use:ByteArray) (day:Int):∀ n,n≤ds.length→∃ M,HoldB (zBz rs ds i th use day n) M (zAD rs ds i th use day n)∧M<10 ^ (40001*(n+1))
 | 0,_=>by
  obtain ⟨M,h1,h2⟩:=start_bound h th day;exact ⟨M,by simpa [zBz,zAD] using h1,by rw [Nat.zero_add,Nat.mul_one];exact h2⟩
 | n+1,hn=>by
  obtain ⟨M,h1,h2⟩:=zDA h i th use day n za;obtain ⟨e1,e2⟩:=zDz rs i th use day (show n<ds.length by omega)
  have hd:=List.getElem_mem (show n<ds.length by omega)
  rw [e1,e2];generalize ds[n]=d at hd;obtain ⟨k1,_,_⟩:=zDS h i th use day n
  cases hm:zDE rs ds i th use day d with
  | false =>
   have g1:zBb (zDE rs ds i th use day) (zBz rs ds i th use day n) d=zBz rs ds i th use day n:=by unfold zBb;rw [hm];rfl
   have g2:stepF (zDE rs ds i th use day) (zAD rs ds i th use day n) d=zAD rs ds i th use day n:=by unfold stepF;rw [hm];rfl
   rw [g1,g2];exact ⟨M,h1,Nat.lt_of_lt_of_le h2 (Nat.pow_le_pow_right za za)⟩
  | true =>
   have g1:zBb (zDE rs ds i th use day) (zBz rs ds i th use day n) d=zAu d (zBz rs ds i th use day n):=by unfold zBb;rw [hm];rfl
   have g2:stepF (zDE rs ds i th use day) (zAD rs ds i th use day n) d=zCR d (zAD rs ds i th use day n):=by unfold stepF;rw [hm];rfl
   rw [g1,g2];obtain ⟨m1,m2,m3,m4⟩:=zCw d (K:=zBz rs ds i th use day n);have hpar:=zBO h d hd
   have hl:d.sh.length≤20:=by
    obtain ⟨k,hk,e⟩:=List.getElem_of_mem hd;have:=(zDP ((zBa h).2 k hk) (zBa h).1).2.2
    rwa [e] at this
   refine ⟨M*growD d,(h1.more (zCY d k1).nodup m1).take hpar (movB_kd hm) m2 m3 m4,?_⟩
   have:=growD_lt hpar hl (movB_kd hm);have e3:40001*(n+1+1)=40001*(n+1)+40001:=za;rw [e3,Nat.pow_add];exact Nat.mul_lt_mul'' h2 this
def zCg (K:List ByteArray) (f:zBp):List (ByteArray×Rat):=K.map fun q=>(q,f q)
def withR (p:ByteArray) (x:Rat):Bool→List (ByteArray×Rat)→List (ByteArray×Rat)
 | done,[]=>if done=true then [] else [(p,x)]
 | done,a::l=>((if (!done&&sle p a.1)=true then [(p,x)] else [])++(if a.1=p then [] else [a]))++withR p x (done || sle p a.1) l
theorem sle_of_slt {a b:ByteArray} (h:slt a b=true):sle a b=true:=by unfold sle slt at *;rw [h];rfl
theorem sle_self (a:ByteArray):sle a a=true:=by unfold sle;simp
theorem sle_false {a b:ByteArray} (h:slt b a=true):sle a b=false:=by
 cases hs:sle a b with
 | false=>rfl
 | true =>
  exfalso
  have h3:(slt a b || a.toList == b.toList)=true:=hs
  rw [Bool.or_eq_true] at h3
  rcases h3 with h3 | h3
  ·have:=zDO h h3
   rw [slt_irr] at this
   cases this
  ·rw [str_eq h3,slt_irr] at h
   cases h
theorem withR_done (p:ByteArray) (x:Rat) (f:zBp):∀ (K:List ByteArray),(∀ q∈K,slt p q=true)→withR p x true (zCg K f)=zCg K (upH f p x)
 | [],_=>rfl
 | a::K,h=>by
  have ha:=h a List.mem_cons_self;have hne:a≠p:=fun e=>by rw [e,slt_irr] at ha;cases ha
  have ih:=withR_done p x f K fun q hq=>h q (List.mem_cons_of_mem _ hq)
  show ((if (!true&&sle p a)=true then [(p,x)] else [])++(if a=p then [] else [(a,f a)]))++withR p x (true || sle p a) (zCg K f)=(a,upH f p x a)::zCg K (upH f p x)
  rw [Bool.true_or,ih,if_neg hne,zAN f x hne]
  rfl
theorem withR_eq (p:ByteArray) (x:Rat) (f:zBp):∀ {K:List ByteArray},IncN K→withR p x false (zCg K f)=zCg (zDV p K) (upH f p x)
 | [],_=>by
  show [(p,x)]=[(p,upH f p x p)]
  rw [zBD]
 | a::K,h=>by
  obtain ⟨h1,h2⟩:=List.pairwise_cons.1 h
  show ((if (!false&&sle p a)=true then [(p,x)] else [])++(if a=p then [] else [(a,f a)]))++withR p x (false || sle p a) (zCg K f)=_
  unfold zDV
  by_cases ha:a=p
  ·subst ha
   rw [sle_self,if_pos rfl,if_pos rfl,Bool.false_or,withR_done a x f K h1]
   show (a,x)::zCg K (upH f a x)=(a,upH f a x a)::zCg K (upH f a x)
   rw [zBD]
  ·rw [if_neg ha,if_neg ha]
   cases hp:slt p a with
   | true =>
    have hk:∀ q∈K,slt p q=true:=fun q hq=>zDO hp (h1 q hq)
    rw [sle_of_slt hp,if_pos rfl,Bool.false_or,withR_done p x f K hk]
    show (p,x)::(a,f a)::zCg K (upH f p x)=(p,upH f p x p)::(a,upH f p x a)::zCg K (upH f p x)
    rw [zBD,zAN f x ha]
   | false =>
    have hap:slt a p=true:=slt_of_ne ha hp;rw [sle_false hap,if_neg ze,Bool.false_or,withR_eq p x f h2,if_neg ze]
    show (a,f a)::zCg (zDV p K) (upH f p x)=(a,upH f p x a)::zCg (zDV p K) (upH f p x)
    rw [zAN f x ha]
def findQ (l:List (ByteArray×Rat)) (p:ByteArray):Rat:=match l.find? fun a=>decide (a.1=p) with
 | some a=>a.2
 | none=>0
theorem findQ_pairs {K:List ByteArray} {f:zBp} (h:HoldOk K f) (p:ByteArray):findQ (zCg K f) p=f p:=by
 unfold findQ zCg;rw [List.find?_map]
 cases hf:K.find? ((fun a:ByteArray×Rat=>decide (a.1=p)) ∘ fun q=>(q,f q)) with
 | some q =>
  have:=List.find?_some hf;have e:q=p:=by simpa using this
  rw [e];rfl
 | none =>
  have:p∉K:=fun hp=>by
   have:=List.find?_eq_none.1 hf p hp;simp at this
  rw [h.out p this];rfl
def zDj (K:List ByteArray) (f:zBp):Bool:=K.any fun p=>zCF (f p)
def zCh (rs:List Rg) (ds:List De) (i:Nat) (th use:ByteArray) (day:Int) (n:Nat):Bool:=(List.range n).any fun k=>zDj (zBz rs ds i th use day (k+1)) (zAD rs ds i th use day (k+1))
def zCI (rs:List Rg) (us:List ByteArray) (ds:List De) (th pl use:ByteArray) (day:Int):List (ByteArray×Rat)×Int :=
 if zCD rs us ds≠0 then ([],zCD rs us ds) else if zBj th=false then ([],5) else if (leafB rs pl&&memS us use)=false then ([],5) else if zCo day=false then ([],1)
 else if zCh rs ds ((idx rs pl).getD 0) th use day ds.length=true then ([],2)
 else (zCg (holL (zBz rs ds ((idx rs pl).getD 0) th use day ds.length) (zAD rs ds ((idx rs pl).getD 0) th use day ds.length)) (zAD rs ds ((idx rs pl).getD 0) th use day ds.length),0)
open Go.RowKit Dw
theorem wl_zero {n:Nat} (h:n=0):(zAc B32 n).length=0:=by rw [(zCp zAt).2 h];rfl
theorem wl_pos {n:Nat} (h:n≠0):(0:Int)<((zAc B32 n).length:Int):=by
 have:(zAc B32 n).length≠0:=fun e=>h ((zCp zAt).1 (List.length_eq_zero_iff.1 e))
 omega
theorem IMulN_c (A A2:Option Addr) (c c2 a b:Nat) (w:World) (h:Nt w A c a) (h2:Nt w A2 c2 b) (hn:(zAc B32 a).length≤400000000) (hm:(zAc B32 b).length≤400000000) :
  Calls Tryz.prog 76 #[inV true A c a,inV false A2 c2 b] w (GivesI (decide (a*b≠0)) (a*b) w):=by
 have HM:=zq (Mul_c A A2 c c2 a b (((w.alloc (.cells #[.bool true,.slice A (zAc B32 a).length c] 87)).alloc (.cells #[.bool false,.slice A2 (zAc B32 b).length c2] 87)).alloc (.cells #[.bool false,.slice none 0 0] 87)) (((h.alloc _).alloc _).alloc _) (((h2.alloc _).alloc _).alloc _) hn hm);obtain ⟨p,hp⟩:∃ p,p=a*b:=⟨_,rfl⟩;rw [←hp] at HM ⊢;clear hp
 cases hz:decide (p≠0)
 all_goals
  have hz':(p=0∨p≠0):=Classical.em _
  go_enter Tryz.func76,Tryz.ntmps76
  go_wp2_with fail
  with_reducible refine HM.o.mono ?_
  rintro e w1 ⟨A5,c5,rfl,h5,hb⟩;obtain ⟨hc,hf⟩:=bcellK hb;have hs3:w.heap.size+2<w1.heap.size:=jc;have c0:w1.cell? ⟨w.heap.size+1+1,0,none⟩=some (.bool false):=zn;have c1:w1.cell? ⟨w.heap.size+1+1,1,none⟩=some (.slice none 0 0):=zn;have HB:Hid (Below w.heap.size w w1):=((((Below.refl w.heap.size w).alloc (Nat.le_refl _) _).alloc ze _).alloc zg _).trans (hb.mono zg)
 ·have h0:p=0:=by simpa using hz
  have hl:=wl_zero h0;have hl2:¬ (0:Int)<((zAc B32 p).length:Int):=za;clear hz hz' h0;go_wp2;refine bodyPost_ret (v:=inV false A5 c5 p) (by simp [results,Tryz.results76,go_sem,hc,hl]) rfl ⟨A5,c5,rfl,?_,?_⟩
  ·exact h5.set2 c0 c1 (nb_ _) (ns_ _ _ _) _ _
  ·exact (HB.o.setCell zg _).setCell zg _
 ·have h0:p≠0:=by simpa using hz
  have hl2:=wl_pos h0;have hl3:0<(zAc B32 p).length:=za;clear hz hz' h0;go_wp2;refine bodyPost_ret (v:=inV true A5 c5 p) (by simp [results,Tryz.results76,go_sem,hc]) rfl ⟨A5,c5,rfl,?_,?_⟩
  ·exact h5.set2 c0 c1 (nb_ _) (ns_ _ _ _) _ _
  ·exact (HB.o.setCell zg _).setCell zg _
theorem IAddN_c (A A2:Option Addr) (c c2 a b:Nat) (w:World) (h:Nt w A c a) (h2:Nt w A2 c2 b) (hn:(zAc B32 a).length≤400000000) (hba:b≤a) :
  Calls Tryz.prog 118 #[inV false A c a,inV true A2 c2 b] w (GivesI false (a - b) w):=by
 have HCM:=zq (fun W (q:Nt W A c a) (q2:Nt W A2 c2 b)=>Cmp_c A A2 c c2 a b W q q2 za)
 have HA:=zq (fun W (q:Nt W A c a) (q2:Nt W A2 c2 b)=>sub_c A A2 c c2 a b W q q2 za hba)
 rcases Nat.eq_or_lt_of_le hba with he | hl
 ·have hd:a - b=0:=by omega
  have hk:zDq a b=0:=zCM he.symm;rw [hk] at HCM;rw [hd];clear hd hk he hba HA
  go_enter Tryz.func118,Tryz.ntmps118
  go_wp2_with fail
  with_reducible refine (HCM.o _ (((h.alloc _).alloc _).alloc _) (((h2.alloc _).alloc _).alloc _)).mono ?_
  rintro e w1 ⟨rfl,nd,rfl⟩;go_wp2;refine bodyPost_ret (v:=inV false none 0 0) (by simp [results,Tryz.results118,go_sem];rfl) rfl ⟨none,0,rfl,Nt.zero _,?_⟩
  exact ((zAd ((((Below.refl w.heap.size w).alloc (Nat.le_refl _) _).alloc ze _).alloc zg _) nd).setCell (by first | (simp;omega) | omega) _).setCell (by first | (simp;omega) | omega) _
 ·have hk:zDq a b=1:=zBB hl
  rw [hk] at HCM;clear hk hl hba;generalize a - b=p at *
  go_enter Tryz.func118,Tryz.ntmps118
  go_wp2_with fail
  with_reducible refine (HCM.o _ (((h.alloc _).alloc _).alloc _) (((h2.alloc _).alloc _).alloc _)).mono ?_
  rintro e w1 ⟨rfl,nd,rfl⟩;have g1:Nt ((((w.alloc (.cells #[.bool false,.slice A (zAc B32 a).length c] 87)).alloc (.cells #[.bool true,.slice A2 (zAc B32 b).length c2] 87)).alloc (.cells #[.bool false,.slice none 0 0] 87)).drewN (nd+1)) A c a:=(((h.alloc _).alloc _).alloc _).drewN _;have g2:Nt ((((w.alloc (.cells #[.bool false,.slice A (zAc B32 a).length c] 87)).alloc (.cells #[.bool true,.slice A2 (zAc B32 b).length c2] 87)).alloc (.cells #[.bool false,.slice none 0 0] 87)).drewN (nd+1)) A2 c2 b:=(((h2.alloc _).alloc _).alloc _).drewN _;have HB0:Hid (Below w.heap.size w ((((w.alloc (.cells #[.bool false,.slice A (zAc B32 a).length c] 87)).alloc (.cells #[.bool true,.slice A2 (zAc B32 b).length c2] 87)).alloc (.cells #[.bool false,.slice none 0 0] 87)).drewN (nd+1))):=zAd ((((Below.refl w.heap.size w).alloc (Nat.le_refl _) _).alloc ze _).alloc zg _) (nd+1);have HBz:Hid (Bx ((((w.alloc (.cells #[.bool false,.slice A (zAc B32 a).length c] 87)).alloc (.cells #[.bool true,.slice A2 (zAc B32 b).length c2] 87)).alloc (.cells #[.bool false,.slice none 0 0] 87)).drewN (nd+1)) (w.heap.size+1+1) #[.bool false,.slice none 0 0] 87):=(Bx.new2 _ _ _ _ _).drewN _;have HBx:Hid (Bx ((((w.alloc (.cells #[.bool false,.slice A (zAc B32 a).length c] 87)).alloc (.cells #[.bool true,.slice A2 (zAc B32 b).length c2] 87)).alloc (.cells #[.bool false,.slice none 0 0] 87)).drewN (nd+1)) w.heap.size #[.bool false,.slice A (zAc B32 a).length c] 87):=(((Bx.new _ _ _).alloc _).alloc _).drewN _;have HBy:Hid (Bx ((((w.alloc (.cells #[.bool false,.slice A (zAc B32 a).length c] 87)).alloc (.cells #[.bool true,.slice A2 (zAc B32 b).length c2] 87)).alloc (.cells #[.bool false,.slice none 0 0] 87)).drewN (nd+1)) (w.heap.size+1) #[.bool true,.slice A2 (zAc B32 b).length c2] 87):=((Bx.new1 _ _ _ _).alloc _).drewN _;go_wp2
  go_region_held3 (fun w'=>w'.cell? ⟨w.heap.size,0,none⟩=some (.bool false)∧w'.cell? ⟨w.heap.size,1,none⟩=some (.slice A (zAc B32 a).length c)∧w'.cell? ⟨w.heap.size+1,1,none⟩=some (.slice A2 (zAc B32 b).length c2)) ((refine ⟨?_,?_,?_⟩<;>first | with_reducible assumption | go_simp))
   (first
    | ((go_at_call 170;(with_reducible refine (HA.o _ g1 g2).mono ?_);rintro e w1 ⟨A5,c5,rfl,h5,hb⟩;have HZ:=zq (HBz.o.below hb);have HB:=zq (zAa HB0.o hb);have HX:=zq (HBx.o.below hb);have HY:=zq (HBy.o.below hb);have x0:=HX.o.cell (i:=0) rfl;have x1:=HX.o.cell (i:=1) rfl;have y1:=HY.o.cell (i:=1) rfl;have r0:=HZ.o.cell (i:=0) rfl;have r1:=HZ.o.cell (i:=1) rfl;have fr:=HZ.o.frozen;have rl:=HZ.o.lt;clear hb)))
  go_wp2;refine bodyPost_ret (v:=inV false A5 c5 p) (by simp [results,Tryz.results118,go_sem,r0,r1]) rfl ⟨A5,c5,rfl,?_,?_⟩
  ·exact h5.set2 r0 r1 (nb_ _) (ns_ _ _ _) _ _
  ·exact (HB.o.setCell (by first | (simp;omega) | omega) _).setCell (by first | (simp;omega) | omega) _
abbrev raN (A:Option Addr) (c n:Nat) (A2:Option Addr) (c2 d:Nat):Array Value:=#[.bool true,.slice A (zAc B32 n).length c,.slice A2 (zAc B32 d).length c2]
def subP (p q:Nat×Nat):Nat×Nat:=zBV (p.1*q.2 - q.1*p.2) (p.2*q.2)
theorem subP_same (n m d:Nat) (h:0<d):subP (n,d) (m,d)=zBV (n - m) d:=by
 unfold subP
 show zBV (n*d - m*d) (d*d)=_
 rw [←Nat.sub_mul,Nat.mul_comm,lowP_scale h]
theorem RAddN_same (A A2 A3 A4:Option Addr) (c c2 c3 c4 n d m e:Nat) (w:World) (h:Nt w A c n) (h2:Nt w A2 c2 d) (h3:Nt w A3 c3 m) (h4:Nt w A4 c4 e)
  (hn:(zAc B32 n).length≤100000000) (hd:(zAc B32 d).length≤100000000) (_hm:(zAc B32 m).length≤100000000) (he:(zAc B32 e).length≤100000000) (hd0:0<d) (he0:0<e) (_hm0:m≠0) (hle:m*d≤n*e) (hde:d=e) :
  Calls Tryz.prog 75 #[raV false A c n A2 c2 d,raV true A3 c3 m A4 c4 e] w (zCK false (subP (n,d) (m,e)).1 (subP (n,d) (m,e)).2 w):=by
 subst hde;rw [subP_same n m d hd0];have hle2:m≤n:=Nat.le_of_mul_le_mul_right hle hd0;have HC:=zq (fun W (x:Nt W A2 c2 d) (y:Nt W A4 c4 d)=>Cmp_c A2 A4 c2 c4 d d W x y za)
 have HA:=zq (fun W (x:Nt W A c n) (y:Nt W A3 c3 m)=>IAddN_c A A3 c c3 n m W x y za hle2)
 have HO:=zq (fun A5 c5 W (x:Nt W A5 c5 (n - m)) (y:Nt W A2 c2 d)=>Over_c A5 A2 c5 c2 (n - m) d false W x y hd0 (by have:=zAq zAt (Nat.sub_le n m);omega) za)
 rw [zCM rfl] at HC;simp only [Bool.false_and] at HO;generalize (zBV (n - m) d).1=pp at *;generalize (zBV (n - m) d).2=pq at *;clear hle hle2;generalize n - m=nm at *;have HX0:Hid (Bx (((w.alloc (.cells (raC A c n A2 c2 d) 89)).alloc (.cells (raN A3 c3 m A4 c4 d) 89)).alloc (.cells zCb 89)) w.heap.size (raC A c n A2 c2 d) 89):=((Bx.new _ _ _).alloc _).alloc _;have HY0:Hid (Bx (((w.alloc (.cells (raC A c n A2 c2 d) 89)).alloc (.cells (raN A3 c3 m A4 c4 d) 89)).alloc (.cells zCb 89)) (w.heap.size+1) (raN A3 c3 m A4 c4 d) 89):=(Bx.new1 _ _ _ _).alloc _;have HZ0:Hid (Bx (((w.alloc (.cells (raC A c n A2 c2 d) 89)).alloc (.cells (raN A3 c3 m A4 c4 d) 89)).alloc (.cells zCb 89)) (w.heap.size+1+1) zCb 89):=Bx.new2 _ _ _ _ _;have HB0:Hid (Below w.heap.size w (((w.alloc (.cells (raC A c n A2 c2 d) 89)).alloc (.cells (raN A3 c3 m A4 c4 d) 89)).alloc (.cells zCb 89))):=(((Below.refl w.heap.size w).alloc (Nat.le_refl _) _).alloc ze _).alloc zg _;obtain ⟨W,hW⟩:∃ W,W=(((w.alloc (.cells (raC A c n A2 c2 d) 89)).alloc (.cells (raN A3 c3 m A4 c4 d) 89)).alloc (.cells zCb 89)):=⟨_,rfl⟩;have g1:Nt W A c n:=yp;have g2:Nt W A2 c2 d:=yk;have g3:Nt W A3 c3 m:=ym;have g4:Nt W A4 c4 d:=yo;rw [←hW] at HX0 HY0 HZ0 HB0;clear hn hd _hm he hd0 he0 _hm0
 go_enter Tryz.func75,Tryz.ntmps75
 go_wp2_with fail
 rw [←hW];clear hW;have x0:=HX0.o.cell (i:=0) rfl;have x1:=HX0.o.cell (i:=1) rfl;have x2:=HX0.o.cell (i:=2) rfl;have y0:=HY0.o.cell (i:=0) rfl;have y1:=HY0.o.cell (i:=1) rfl;have y2:=HY0.o.cell (i:=2) rfl;have z0:=HZ0.o.frozen;have z1:=HZ0.o.lt
 go_wp2_with fail
 with_reducible refine (HC.o _ g2 g4).mono ?_
 rintro e0 w0 ⟨rfl,nd,rfl⟩;clear x0 x1 x2 y0 y1 y2 z0 z1;have HX:=zq (HX0.o.drewN (nd+1));have HY:=zq (HY0.o.drewN (nd+1));have HZ:=zq (HZ0.o.drewN (nd+1));have HB:=zq (zAd HB0.o (nd+1));have x0:=HX.o.cell (i:=0) rfl;have x1:=HX.o.cell (i:=1) rfl;have x2:=HX.o.cell (i:=2) rfl;have y0:=HY.o.cell (i:=0) rfl;have y1:=HY.o.cell (i:=1) rfl;have y2:=HY.o.cell (i:=2) rfl;clear HX0 HY0 HZ0 HB0;go_wp2
 go_region_held3 (fun w'=>(w'.cell? ⟨w.heap.size,0,none⟩=some (.bool false)∧w'.cell? ⟨w.heap.size,1,none⟩=some (.slice A (zAc B32 n).length c)∧w'.cell? ⟨w.heap.size,2,none⟩=some (.slice A2 (zAc B32 d).length c2))∧(w'.cell? ⟨w.heap.size+1,0,none⟩=some (.bool true)∧w'.cell? ⟨w.heap.size+1,1,none⟩=some (.slice A3 (zAc B32 m).length c3)∧w'.cell? ⟨w.heap.size+1,2,none⟩=some (.slice A4 (zAc B32 d).length c4)))
  ((refine ⟨⟨?_,?_,?_⟩,?_,?_,?_⟩<;>first | with_reducible assumption | go_simp))
  (first
   | ((go_at_call 118;(with_reducible refine (HA.o _ (g1.drewN (nd+1)) (g3.drewN (nd+1))).mono ?_);rintro e1 w1 ⟨A5,c5,rfl,h5,hb1⟩;have HX1:=zq (HX.o.below hb1);have HY1:=zq (HY.o.below hb1);have HZ1:=zq (HZ.o.below hb1);have HB1:=zq (HB.o.trans (hb1.mono HB.o.size));have g21:=(g2.drewN (nd+1)).below hb1;have a0:=HX1.o.cell (i:=0) rfl;have a1:=HX1.o.cell (i:=1) rfl;have a2:=HX1.o.cell (i:=2) rfl;have b0:=HY1.o.cell (i:=0) rfl;have b1:=HY1.o.cell (i:=1) rfl;have b2:=HY1.o.cell (i:=2) rfl;clear hb1))
   | ((go_at_call 117;(with_reducible refine (HO.o _ _ _ h5 g21).mono ?_);rintro e2 w2 ⟨A6,c6,A7,c7,rfl,h6,h7,hb2⟩;have HX2:=zq (HX1.o.below hb2);have HY2:=zq (HY1.o.below hb2);have HZ2:=zq (HZ1.o.below hb2);have HB2:=zq (zAa HB1.o hb2);clear a0 a1 a2 b0 b1 b2;have a0:=HX2.o.cell (i:=0) rfl;have a1:=HX2.o.cell (i:=1) rfl;have a2:=HX2.o.cell (i:=2) rfl;have b0:=HY2.o.cell (i:=0) rfl;have b1:=HY2.o.cell (i:=1) rfl;have b2:=HY2.o.cell (i:=2) rfl;have r0:=HZ2.o.cell (i:=0) rfl;have r1:=HZ2.o.cell (i:=1) rfl;have r2:=HZ2.o.cell (i:=2) rfl;have fr:=HZ2.o.frozen;have rl:=HZ2.o.lt;clear hb2)))
 clear HX HY HZ HB;go_wp2;refine bodyPost_ret (v:=raV false A6 c6 pp A7 c7 pq) ql rfl ⟨A6,c6,A7,c7,rfl,h6.setR HZ2.o _ _ _,h7.setR HZ2.o _ _ _,?_⟩
 exact ((HB2.o.setCell zg _).setCell zg _).setCell zg _
theorem RAddN_diff (A A2 A3 A4:Option Addr) (c c2 c3 c4 n d m e:Nat) (w:World) (h:Nt w A c n) (h2:Nt w A2 c2 d) (h3:Nt w A3 c3 m) (h4:Nt w A4 c4 e)
  (hn:(zAc B32 n).length≤100000000) (hd:(zAc B32 d).length≤100000000) (hm:(zAc B32 m).length≤100000000) (he:(zAc B32 e).length≤100000000) (hd0:0<d) (he0:0<e) (hm0:m≠0) (hle:m*d≤n*e) (hde:d≠e) :
  Calls Tryz.prog 75 #[raV false A c n A2 c2 d,raV true A3 c3 m A4 c4 e] w (zCK false (subP (n,d) (m,e)).1 (subP (n,d) (m,e)).2 w):=by
 have HC:=zq (fun W (x:Nt W A2 c2 d) (y:Nt W A4 c4 e)=>Cmp_c A2 A4 c2 c4 d e W x y za)
 have hk:(zDq d e == 0)=false:=by
  rcases Nat.lt_or_gt_of_ne hde with h | h
  ·rw [zBF h];rfl
  ·rw [zBB h];rfl
 have l1:=zDi n e;have l2:=zDi m d;have l3:=zDi d e;have l4:=zAq zAt (Nat.sub_le (n*e) (m*d));have HM1:=zq (fun W (x:Nt W A c n) (y:Nt W A4 c4 e)=>IMul_c A A4 c c4 n e W x y za za)
 have HM2:=zq (fun W (x:Nt W A3 c3 m) (y:Nt W A2 c2 d)=>IMulN_c A3 A2 c3 c2 m d W x y za za)
 rw [show decide (m*d≠0)=true from decide_eq_true (Nat.mul_ne_zero hm0 za)] at HM2
 have HM3:=zq (fun W (x:Nt W A2 c2 d) (y:Nt W A4 c4 e)=>Mul_c A2 A4 c2 c4 d e W x y za za)
 have HA:=zq (fun A5 c5 A6 c6 W (x:Nt W A5 c5 (n*e)) (y:Nt W A6 c6 (m*d))=>IAddN_c A5 A6 c5 c6 (n*e) (m*d) W x y za hle)
 have HO:=zq (fun A5 c5 A6 c6 W (x:Nt W A5 c5 (n*e - m*d)) (y:Nt W A6 c6 (d*e))=>Over_c A5 A6 c5 c6 (n*e - m*d) (d*e) false W x y (Nat.mul_pos hd0 he0) za za)
 simp only [Bool.false_and] at HO;have hap:subP (n,d) (m,e)=zBV (n*e - m*d) (d*e):=rfl;rw [hap];clear hap l1 l2 l3 l4 hle hm0;generalize (zBV (n*e - m*d) (d*e)).1=pp at *;generalize (zBV (n*e - m*d) (d*e)).2=pq at *;generalize n*e=p1 at *;generalize m*d=p2 at *;generalize d*e=p3 at *;generalize p1 - p2=p4 at *;generalize zDq d e=cz at *;have HX0:Hid (Bx (((w.alloc (.cells (raC A c n A2 c2 d) 89)).alloc (.cells (raN A3 c3 m A4 c4 e) 89)).alloc (.cells zCb 89)) w.heap.size (raC A c n A2 c2 d) 89):=((Bx.new _ _ _).alloc _).alloc _;have HY0:Hid (Bx (((w.alloc (.cells (raC A c n A2 c2 d) 89)).alloc (.cells (raN A3 c3 m A4 c4 e) 89)).alloc (.cells zCb 89)) (w.heap.size+1) (raN A3 c3 m A4 c4 e) 89):=(Bx.new1 _ _ _ _).alloc _;have HZ0:Hid (Bx (((w.alloc (.cells (raC A c n A2 c2 d) 89)).alloc (.cells (raN A3 c3 m A4 c4 e) 89)).alloc (.cells zCb 89)) (w.heap.size+1+1) zCb 89):=Bx.new2 _ _ _ _ _;have HB0:Hid (Below w.heap.size w (((w.alloc (.cells (raC A c n A2 c2 d) 89)).alloc (.cells (raN A3 c3 m A4 c4 e) 89)).alloc (.cells zCb 89))):=(((Below.refl w.heap.size w).alloc (Nat.le_refl _) _).alloc ze _).alloc zg _;obtain ⟨W,hW⟩:∃ W,W=(((w.alloc (.cells (raC A c n A2 c2 d) 89)).alloc (.cells (raN A3 c3 m A4 c4 e) 89)).alloc (.cells zCb 89)):=⟨_,rfl⟩;have g1:Nt W A c n:=yp;have g2:Nt W A2 c2 d:=yk;have g3:Nt W A3 c3 m:=ym;have g4:Nt W A4 c4 e:=yo;rw [←hW] at HX0 HY0 HZ0 HB0;clear hn hd hm he hd0 he0 hde
 go_enter Tryz.func75,Tryz.ntmps75
 go_wp2_with fail
 rw [←hW];clear hW;have x0:=HX0.o.cell (i:=0) rfl;have x1:=HX0.o.cell (i:=1) rfl;have x2:=HX0.o.cell (i:=2) rfl;have y0:=HY0.o.cell (i:=0) rfl;have y1:=HY0.o.cell (i:=1) rfl;have y2:=HY0.o.cell (i:=2) rfl;have z0:=HZ0.o.frozen;have z1:=HZ0.o.lt
 go_wp2_with fail
 with_reducible refine (HC.o _ g2 g4).mono ?_
 rintro e0 w0 ⟨rfl,nd,rfl⟩;clear x0 x1 x2 y0 y1 y2 z0 z1;have HX:=zq (HX0.o.drewN (nd+1));have HY:=zq (HY0.o.drewN (nd+1));have HZ:=zq (HZ0.o.drewN (nd+1));have HB:=zq (zAd HB0.o (nd+1));have x0:=HX.o.cell (i:=0) rfl;have x1:=HX.o.cell (i:=1) rfl;have x2:=HX.o.cell (i:=2) rfl;have y0:=HY.o.cell (i:=0) rfl;have y1:=HY.o.cell (i:=1) rfl;have y2:=HY.o.cell (i:=2) rfl;clear HX0 HY0 HZ0 HB0;go_wp2
 go_region_held3 (fun w'=>(w'.cell? ⟨w.heap.size,0,none⟩=some (.bool false)∧w'.cell? ⟨w.heap.size,1,none⟩=some (.slice A (zAc B32 n).length c)∧w'.cell? ⟨w.heap.size,2,none⟩=some (.slice A2 (zAc B32 d).length c2))∧(w'.cell? ⟨w.heap.size+1,0,none⟩=some (.bool true)∧w'.cell? ⟨w.heap.size+1,1,none⟩=some (.slice A3 (zAc B32 m).length c3)∧w'.cell? ⟨w.heap.size+1,2,none⟩=some (.slice A4 (zAc B32 e).length c4)))
  ((refine ⟨⟨?_,?_,?_⟩,?_,?_,?_⟩<;>first | with_reducible assumption | go_simp))
  (first
   | ((go_at_call 76;(with_reducible refine (HM1.o _ (g1.drewN (nd+1)) (g4.drewN (nd+1))).mono ?_);rintro e1 w1 ⟨A5,c5,rfl,h5,hb1⟩;have HX1:=zq (HX.o.below hb1);have HY1:=zq (HY.o.below hb1);have HZ1:=zq (HZ.o.below hb1);have HB1:=zq (HB.o.trans (hb1.mono HB.o.size));have g21:=(g2.drewN (nd+1)).below hb1;have g31:=(g3.drewN (nd+1)).below hb1;have g41:=(g4.drewN (nd+1)).below hb1;have a0:=HX1.o.cell (i:=0) rfl;have a1:=HX1.o.cell (i:=1) rfl;have a2:=HX1.o.cell (i:=2) rfl;have b0:=HY1.o.cell (i:=0) rfl;have b1:=HY1.o.cell (i:=1) rfl;have b2:=HY1.o.cell (i:=2) rfl;clear hb1))
   | ((go_at_call 76;(with_reducible refine (HM2.o _ g31 g21).mono ?_);rintro e2 w2 ⟨A6,c6,rfl,h6,hb2⟩;have HX2:=zq (HX1.o.below hb2);have HY2:=zq (HY1.o.below hb2);have HZ2:=zq (HZ1.o.below hb2);have HB2:=zq (zAa HB1.o hb2);have h52:=h5.below hb2;have g22:=g21.below hb2;have g42:=g41.below hb2;clear a0 a1 a2 b0 b1 b2;have a0:=HX2.o.cell (i:=0) rfl;have a1:=HX2.o.cell (i:=1) rfl;have a2:=HX2.o.cell (i:=2) rfl;have b0:=HY2.o.cell (i:=0) rfl;have b1:=HY2.o.cell (i:=1) rfl;have b2:=HY2.o.cell (i:=2) rfl;clear hb2))
   | ((go_at_call 118;(with_reducible refine (HA.o _ _ _ _ _ h52 h6).mono ?_);rintro e3 w3 ⟨A7,c7,rfl,h7,hb3⟩;have HX3:=zq (HX2.o.below hb3);have HY3:=zq (HY2.o.below hb3);have HZ3:=zq (HZ2.o.below hb3);have HB3:=zq (zAa HB2.o hb3);have g23:=g22.below hb3;have g43:=g42.below hb3;clear a0 a1 a2 b0 b1 b2;have a0:=HX3.o.cell (i:=0) rfl;have a1:=HX3.o.cell (i:=1) rfl;have a2:=HX3.o.cell (i:=2) rfl;have b0:=HY3.o.cell (i:=0) rfl;have b1:=HY3.o.cell (i:=1) rfl;have b2:=HY3.o.cell (i:=2) rfl;clear hb3))
   | ((go_at_call 119;(with_reducible refine (HM3.o _ g23 g43).mono ?_);rintro e4 w4 ⟨A8,c8,rfl,h8,hb4⟩;have HX4:=zq (HX3.o.below hb4);have HY4:=zq (HY3.o.below hb4);have HZ4:=zq (HZ3.o.below hb4);have HB4:=zq (zAa HB3.o hb4);have h74:=h7.below hb4;clear a0 a1 a2 b0 b1 b2;have a0:=HX4.o.cell (i:=0) rfl;have a1:=HX4.o.cell (i:=1) rfl;have a2:=HX4.o.cell (i:=2) rfl;have b0:=HY4.o.cell (i:=0) rfl;have b1:=HY4.o.cell (i:=1) rfl;have b2:=HY4.o.cell (i:=2) rfl;clear hb4))
   | ((go_at_call 117;(with_reducible refine (HO.o _ _ _ _ _ h74 h8).mono ?_);rintro e5 w5 ⟨A9,c9,AD,cE,rfl,h9,hF,hb5⟩;have HX5:=zq (HX4.o.below hb5);have HY5:=zq (HY4.o.below hb5);have HZ5:=zq (HZ4.o.below hb5);have HB5:=zq (zAa HB4.o hb5);clear a0 a1 a2 b0 b1 b2;have a0:=HX5.o.cell (i:=0) rfl;have a1:=HX5.o.cell (i:=1) rfl;have a2:=HX5.o.cell (i:=2) rfl;have b0:=HY5.o.cell (i:=0) rfl;have b1:=HY5.o.cell (i:=1) rfl;have b2:=HY5.o.cell (i:=2) rfl;have r0:=HZ5.o.cell (i:=0) rfl;have r1:=HZ5.o.cell (i:=1) rfl;have r2:=HZ5.o.cell (i:=2) rfl;have fr:=HZ5.o.frozen;have rl:=HZ5.o.lt;clear hb5)))
 clear HX HY HZ HB;go_wp2;refine bodyPost_ret (v:=raV false A9 c9 pp AD cE pq) ql rfl ⟨A9,c9,AD,cE,rfl,h9.setR HZ5.o _ _ _,hF.setR HZ5.o _ _ _,?_⟩
 exact ((HB5.o.setCell zg _).setCell zg _).setCell zg _
theorem RAddN_c (A A2 A3 A4:Option Addr) (c c2 c3 c4 n d m e:Nat) (w:World) (h:Nt w A c n) (h2:Nt w A2 c2 d) (h3:Nt w A3 c3 m) (h4:Nt w A4 c4 e)
  (hn:(zAc B32 n).length≤100000000) (hd:(zAc B32 d).length≤100000000) (hm:(zAc B32 m).length≤100000000) (he:(zAc B32 e).length≤100000000) (hd0:0<d) (he0:0<e) (hm0:m≠0) (hle:m*d≤n*e) :
  Calls Tryz.prog 75 #[raV false A c n A2 c2 d,raV true A3 c3 m A4 c4 e] w (zCK false (subP (n,d) (m,e)).1 (subP (n,d) (m,e)).2 w):=by
 by_cases hde:d=e
 ·exact RAddN_same A A2 A3 A4 c c2 c3 c4 n d m e w h h2 h3 h4 hn hd hm he hd0 he0 hm0 hle hde
 ·exact RAddN_diff A A2 A3 A4 c c2 c3 c4 n d m e w h h2 h3 h4 hn hd hm he hd0 he0 hm0 hle hde
end Go.Proofs.YtieoifkdobcpiaaGreatDoor
namespace Go.Proofs.YtieoifkdobcpiaaGreatDoor
open Dw
theorem toQ_num {p:Nat×Nat} (h:Nat.gcd p.1 p.2=1) (h0:0<p.2):p=((toQ p).num.natAbs,(toQ p).den):=by
 have e:toQ p=(⟨(p.1:Int),p.2,za,by simpa [Nat.Coprime] using h⟩:Rat):=Rat.mkRat_self ⟨(p.1:Int),p.2,za,by simpa [Nat.Coprime] using h⟩
 rw [e]
 rfl
theorem lowP_gcd {n d:Nat} (hd:0<d):Nat.gcd (zBV n d).1 (zBV n d).2=1∧0<(zBV n d).2:=by
 have hg:0<Nat.gcd n d:=Nat.gcd_pos_of_pos_right _ hd;exact ⟨Nat.coprime_div_gcd_div_gcd hg,Nat.div_pos (Nat.le_of_dvd hd (Nat.gcd_dvd_right _ _)) hg⟩
theorem low_q {n d:Nat} {q:Rat} (hd:0<d) (h:mkRat (n:Int) d=q):zBV n d=(q.num.natAbs,q.den):=by
 obtain ⟨h1,h2⟩:=lowP_gcd (n:=n) hd;have:=toQ_num h1 h2;rw [toQ_low hd,h] at this;exact this
theorem abs_num {q:Rat} (h:0≤q):((q.num.natAbs:Nat):Int)=q.num:=by
 have:=Rat.num_nonneg.2 h;omega
theorem as_q {q:Rat} (h:0≤q):q=mkRat ((q.num.natAbs:Nat):Int) q.den:=by
 rw [abs_num h];exact (Rat.mkRat_self q).symm
abbrev prQ (q:Rat):Nat×Nat:=(q.num.natAbs,q.den)
theorem den_q (q:Rat):0<q.den:=Nat.pos_of_ne_zero q.den_nz
theorem addP_q {a b:Rat} (ha:0≤a) (hb:0≤b):addP (prQ a) (prQ b)=prQ (a+b):=by
 unfold addP;refine low_q (Nat.mul_pos (den_q a) (den_q b)) ?_
 conv=>rhs;rw [as_q ha,as_q hb]
 rw [Rat.mkRat_add_mkRat _ _ a.den_nz b.den_nz];simp
theorem le_q {a b:Rat} (hb:0≤b) (h:b≤a):b.num.natAbs*a.den≤a.num.natAbs*b.den:=by
 have h1:=(Rat.le_iff b a).1 h;have ha:0≤a:=Rat.le_trans hb h;rw [←abs_num ha,←abs_num hb] at h1
 exact_mod_cast h1
theorem subP_q {a b:Rat} (hb:0≤b) (h:b≤a):subP (prQ a) (prQ b)=prQ (a - b):=by
 unfold subP;refine low_q (Nat.mul_pos (den_q a) (den_q b)) ?_
 have hle:=le_q hb h;have ha:0≤a:=Rat.le_trans hb h
 have key:mkRat (((a.num.natAbs*b.den - b.num.natAbs*a.den:Nat)):Int) (a.den*b.den)+b=a:=by
  conv=>lhs;arg 2;rw [as_q hb]
  conv=>rhs;rw [as_q ha]
  rw [Rat.mkRat_add_mkRat _ _ (Nat.mul_ne_zero a.den_nz b.den_nz) b.den_nz,Rat.mkRat_eq_iff (Nat.mul_ne_zero (Nat.mul_ne_zero a.den_nz b.den_nz) b.den_nz) a.den_nz,Int.ofNat_sub hle]
  push_cast
  grind
 show mkRat (((a.num.natAbs*b.den - b.num.natAbs*a.den:Nat)):Int) (a.den*b.den)=a - b
 grind
def mulP (p q:Nat×Nat):Nat×Nat:=zBV (p.1*q.1) (p.2*q.2)
theorem mulP_q {a b:Rat} (ha:0≤a) (hb:0≤b):mulP (prQ a) (prQ b)=prQ (a*b):=by
 unfold mulP;refine low_q (Nat.mul_pos (den_q a) (den_q b)) ?_
 conv=>rhs;rw [as_q ha,as_q hb]
 rw [Rat.mkRat_mul_mkRat];simp
def SzN (k n:Nat):Prop:=(zAc B32 n).length≤k∧(zAc BT n).length≤k
theorem len_pow {B:Nat} (hB:10≤B) {n k:Nat} (h:n<10 ^ k):(zAc B n).length≤k:=by
 have hB1:1<B:=za
 rcases Nat.eq_zero_or_pos (zAc B n).length with h0 | h0
 ·omega
 ·have:=zEg (B:=B) h0 (zCj hB1 h0)
  rw [zAl hB1] at this;refine Nat.le_of_not_lt fun hk=>?_
  have h2:10 ^ k≤B ^ ((zAc B n).length - 1):=Nat.le_trans (Nat.pow_le_pow_left hB k) (Nat.pow_le_pow_right za za);omega
theorem szN_of {n k:Nat} (h:n<10 ^ k):SzN k n:=⟨len_pow zd h,len_pow zd h⟩
theorem SzN.le {n k m:Nat} (h:SzN k n) (hk:k≤m):SzN m n:=⟨Nat.le_trans h.1 hk,Nat.le_trans h.2 hk⟩
def SzQ (k:Nat) (q:Rat):Prop:=SzN k q.num.natAbs∧SzN k q.den
theorem SzQ.le {q:Rat} {k m:Nat} (h:SzQ k q) (hk:k≤m):SzQ m q:=⟨h.1.le hk,h.2.le hk⟩
theorem ratF_gcd {nu de:ByteArray} (h:zDm nu de=0):Nat.gcd (zAy (zAX nu)) (zAy de)=1:=by
 unfold zDm at h
 split at h
 ·cases h
 split at h
 ·cases h
 split at h
 ·next h1=>exact h1
 ·cases h
theorem ratF_prQ {nu de:ByteArray} (h:zDm nu de=0):(zAy (zAX nu),zAy de)=prQ (zCT nu de):=by
 obtain ⟨_,h2,h3,_,_⟩:=zBY h;exact toQ_num (ratF_gcd h) (den_pos h2 h3)
end Go.Proofs.YtieoifkdobcpiaaGreatDoor
