/- Parts of the proof, joined: Package right: deeds in memory; the order of deeds; small tests. Packa. -/
import Derived.Test.YtoaelidmmcbkfaaGreatDoorSt04
import Derived.Shelf.Strings.Builder1
import Derived.Shelf.Strings.OnBuilder
import Derived.Shelf.Strings.BuilderF
import Derived.Shelf.Strings.BuilderK
import Derived.Shelf.LaysM
import Derived.Shelf.Strconv.Itoa3
import Derived.Lib.ItoaNum
import Derived.Lib.Join
import Derived.Laws.IdiomStrings
import Derived.Lib.QuietBelow
set_option maxRecDepth 100000
set_option maxHeartbeats 8000000
namespace Go.Proofs.YtoaelidmmcbkfaaGreatDoor
open Go.RowKit Dw
abbrev Ints:=Rd1 (fun n:Int=>Value.int .i64 n)
def cmpI (a b:Int):Int:=if a<b then -1 else if b<a then 1 else 0
theorem isNaN_c (a:Int) (w:World):Calls Tryz.prog 140 #[.int .i64 a] w (zBb (.bool false) w):=by
 have hb:(a != a)=false:=zg
 go_enter Tryz.func140,Tryz.ntmps140
 go_wp2;go_ret
 exact zBb.mk rfl rfl
theorem cmpI_c (a b:Int) (w:World):Calls Tryz.prog 106 #[.int .i64 a,.int .i64 b] w (zBb (.int .i64 (cmpI a b)) w):=by
 generalize hres:cmpI a b=res;have HR:=zq hres;clear hres
 by_cases h1:a<b
 ·have HS:Hid (res = -1):=by
   show res = -1
   rw [←HR.o];unfold cmpI;rw [aE h1]
  go_enter Tryz.func106,Tryz.ntmps106
  go_wp2_with (go_at_call 140;refine (isNaN_c _ _).mono ?_;rintro e w' ⟨rfl,rfl⟩)
  go_ret
  exact zBb.mk (zBa HS.o.symm) rfl
 ·by_cases h2:b<a
  ·have HS:Hid (res=1):=by
    show res=1
    rw [←HR.o];unfold cmpI;rw [aC h1,aE h2]
   go_enter Tryz.func106,Tryz.ntmps106
   go_wp2_with (go_at_call 140;refine (isNaN_c _ _).mono ?_;rintro e w' ⟨rfl,rfl⟩)
   go_ret
   exact zBb.mk (zBa HS.o.symm) rfl
  ·have HS:Hid (res=0):=by
    show res=0
    rw [←HR.o];unfold cmpI;rw [aC h1,aC h2]
   go_enter Tryz.func106,Tryz.ntmps106
   go_wp2_with (go_at_call 140;refine (isNaN_c _ _).mono ?_;rintro e w' ⟨rfl,rfl⟩)
   go_ret
   exact zBb.mk (zBa HS.o.symm) rfl
def orI:List Int→Int
 | []=>0
 | a::l=>if a=0 then orI l else a
theorem orI_at {l:List Int} {k:Nat} (hk:k<l.length) (hp:∀ j (h:j<l.length),j<k→l[j]=0) (h:l[k]≠0):orI l=l[k]:=by
 induction l generalizing k with
 | nil=>simp at hk
 | cons a t ih =>
  cases k with
  | zero=>simp at h;simp [orI,h]
  | succ k =>
   have h0:a=0:=hp 0 zg za;rw [orI,aE h0];exact ih qj (fun j hj hjk=>hp (j+1) (by simpa using hj) za) yn
theorem orI_none {l:List Int} (hp:∀ j (h:j<l.length),l[j]=0):orI l=0:=by
 induction l with
 | nil=>rfl
 | cons a t ih =>
  have h0:a=0:=hp 0 zg;rw [orI,aE h0];exact ih fun j hj=>hp (j+1) (by simpa using hj)
def OrRel (w:World) (l:List Int) (m:Nat) (i:Value) (wr:World):Prop :=
 w=wr∧∃ k:Nat,k+m=l.length∧i = .int .i64 k∧∀ j (h:j<l.length),j<k→l[j]=0
theorem cmpOr_c (A:Option Addr) (c:Nat) (l:List Int) (w:World) (hn:l.length≤1000000) (h:Ints w A l) :
  Calls Tryz.prog 105 #[.slice A l.length c] w (zBb (.int .i64 (orI l)) w):=by
 generalize hres:orI l=res;have HR:=zq hres;clear hres
 go_enter Tryz.func105,Tryz.ntmps105
 go_wp2
 go_loopg [8] l.length (OrRel w l)
 case atStart=>exact ⟨rfl,0,za,rfl,fun j _ hj=>absurd hj za⟩
 case round =>
  obtain ⟨hw,k,hk,rfl,hpre⟩:=hrel;subst hw;have HK:=zq hk;have HP:=zq hpre;have hk1:k≤l.length:=za;clear hk hpre
  by_cases hlt:k<l.length
  ·obtain ⟨b,o,rfl,hb,hc⟩:=h.at_ za
   have hc0:=hc k hlt;clear hc
   by_cases hq:l[k]=0
   ·have hqb:(l[k] != 0)=false:=by simpa using hq
    have HQ:=zq hq;clear hq;go_wp2
    go_roundg (gk - 1)
    case measure=>have:=HK.o;omega
    case rel =>
     refine ⟨rfl,k+1,zk,zx,fun j hj hjk=>?_⟩
     rcases bK j k with h1 | h1
     ·exact HP.o j hj h1
     ·obtain rfl:j=k:=by omega
      exact HQ.o
   ·have hqb:(l[k] != 0)=true:=by simpa using hq
    have HQ:=zq hq;clear hq;go_wp2;go_ret
    exact zBb.mk (zBa (by rw [←HR.o,orI_at hlt HP.o HQ.o])) rfl
  ·go_wp2
   go_ret
   exact zBb.mk (zBa (by rw [←HR.o,orI_none fun j hj=>HP.o j hj za])) rfl
def cfS (x y:BA):Int:=Lib.compareBytes x.data.toList y.data.toList
theorem compare_less:∀ (a b:List UInt8),decide (Lib.compareBytes a b<0)=Op.bytesLess a b
 | [],[]=>by simp [Lib.compareBytes,Op.bytesLess]
 | [],_::_=>by simp [Lib.compareBytes,Op.bytesLess]
 | _::_,[]=>by simp [Lib.compareBytes,Op.bytesLess]
 | a::x,b::y=>by
  have ih:=compare_less x y;rw [Lib.compareBytes,Op.bytesLess]
  by_cases h1:a<b
  ·simp [h1]
  ·by_cases h2:b<a
   ·have h3:¬ a=b:=fun e=>by subst e;exact h1 h2
    simp [h1,h2,h3]
   ·have h3:a=b:=UInt8.le_antisymm (UInt8.not_lt.1 h2) (UInt8.not_lt.1 h1)
    subst h3;simp only [h1,if_false];rw [ih];simp
theorem cfS_lt (x y:BA):decide (cfS x y<0)=slt x y:=by
 unfold cfS slt;rw [compare_less,Dw.toList_eq,Dw.toList_eq]
theorem compareS_c (x y:BA) (w:World):Calls Tryz.prog 107 #[.string x,.string y] w (zBb (.int .i64 (cfS x y)) w):=by
 have h:=Any.strings_Compare Tryz.lays106 x y w
 change Calls Tryz.prog 107 _ _ _ at h
 exact h.mono fun _ _ ⟨he,hw⟩=>⟨he,hw.symm⟩
def Shs (w:World) (A:Option Addr) (l:List Sh):Prop :=
 0<l.length→∃ b o:Nat,A=some ⟨b,o,none⟩∧∀ i (h:i<l.length),w.cell? ⟨b,o+i*3,none⟩=some (.string (l[i]).pt)∧w.cell? ⟨b,o+i*3+1,none⟩=some (.string (l[i]).nu)∧w.cell? ⟨b,o+i*3+2,none⟩=some (.string (l[i]).de)
theorem Shs.at_ {w:World} {A:Option Addr} {l:List Sh} (h:Shs w A l) (hl:0<l.length):∃ b o:Nat,A=some ⟨b,o,none⟩∧b<w.heap.size∧∀ i (h:i<l.length),w.cell? ⟨b,o+i*3,none⟩=some (.string (l[i]).pt)∧w.cell? ⟨b,o+i*3+1,none⟩=some (.string (l[i]).nu)∧w.cell? ⟨b,o+i*3+2,none⟩=some (.string (l[i]).de):=by
 obtain ⟨b,o,rfl,hc⟩:=h hl;exact ⟨b,o,rfl,World.block_lt_of_cell? w _ (hc 0 hl).1,hc⟩
theorem Shs.below {w w':World} {A:Option Addr} {l:List Sh} (h:Shs w A l) (hb:Below w.heap.size w w'):Shs w' A l:=fun hl=>by
 obtain ⟨b,o,rfl,hlt,hc⟩:=h.at_ hl;refine ⟨b,o,rfl,fun i hi=>?_⟩
 rw [hb.cell hlt,hb.cell hlt,hb.cell hlt];exact hc i hi
abbrev deC (d:De):Array Value:=#[.string d.id,.int .i64 d.day,.int .i64 d.kd,.string d.th,.string d.fr,.string d.to_,.string d.nu,.string d.de,.bool d.ex,.bool d.sb,.slice d.arA d.ar.length d.arc,.slice d.usA d.us.length d.usc,.int .i64 d.bg,.int .i64 d.en,.slice d.shA d.sh.length d.shc,.string d.ot]
abbrev deV (d:De):Value:=.agg (deC d)
structure DeOk (w:World) (d:De):Prop where
 ars:Ars w d.arA d.ar
 uses:Strs w d.usA d.us
 shs:Shs w d.shA d.sh
 lens:d.ar.length≤140737488355328∧d.us.length≤140737488355328∧d.sh.length≤140737488355328
 strs:d.id.size≤9223372036854775807∧d.th.size≤9223372036854775807∧d.fr.size≤9223372036854775807∧d.to_.size≤9223372036854775807∧d.nu.size≤9223372036854775807∧d.de.size≤9223372036854775807
 shz:∀ s∈d.sh,s.pt.size≤9223372036854775807∧s.nu.size≤9223372036854775807∧s.de.size≤9223372036854775807
theorem DeOk.below {w w':World} {d:De} (h:DeOk w d) (hb:Below w.heap.size w w'):DeOk w' d:=⟨h.ars.below hb,h.uses.below hb,h.shs.below hb,h.lens,h.strs,h.shz⟩
theorem isDay_c (n:Int) (w:World):Calls Tryz.prog 72 #[.int .i64 n] w (zBb (.bool (zCG n)) w):=by
 by_cases h1:0≤n
 ·by_cases h2:n≤200000
  ·have hv:zCG n=true:=by simp [zCG,h1,h2]
   rw [hv];have HV:=zq hv;clear hv
   go_enter Tryz.func72,Tryz.ntmps72
   go_wp2;go_ret
   exact zBb.mk rfl rfl
  ·have hv:zCG n=false:=by simp [zCG,h2]
   rw [hv];have HV:=zq hv;have h2':200000<n:=za;clear hv h2
   go_enter Tryz.func72,Tryz.ntmps72
   go_wp2;go_ret
   exact zBb.mk (zAL (cF za)) rfl
 ·have hv:zCG n=false:=by simp [zCG,h1]
  rw [hv];have HV:=zq hv;have h1':n<0:=za;clear hv h1
  go_enter Tryz.func72,Tryz.ntmps72
  go_wp2;go_ret
  exact zBb.mk rfl rfl
def kindB (n:Int):Bool:=decide (1≤n)&&decide (n≤5)
theorem isKindD_c (n:Int) (w:World):Calls Tryz.prog 74 #[.int .i64 n] w (zBb (.bool (kindB n)) w):=by
 by_cases h1:1≤n
 ·by_cases h2:n≤5
  ·have hv:kindB n=true:=by simp [kindB,h1,h2]
   rw [hv];have HV:=zq hv;clear hv
   go_enter Tryz.func74,Tryz.ntmps74
   go_wp2;go_ret
   exact zBb.mk rfl rfl
  ·have hv:kindB n=false:=by simp [kindB,h2]
   rw [hv];have HV:=zq hv;have h2':5<n:=za;clear hv h2
   go_enter Tryz.func74,Tryz.ntmps74
   go_wp2;go_ret
   exact zBb.mk (zAL (cF za)) rfl
 ·have hv:kindB n=false:=by simp [kindB,h1]
  rw [hv];have HV:=zq hv;have h1':n<1:=za;clear hv h1
  go_enter Tryz.func74,Tryz.ntmps74
  go_wp2;go_ret
  exact zBb.mk rfl rfl
def deCmp (a b:De):Int:=orI [cmpI a.day b.day,cfS a.id b.id]
theorem deCmp_lt (a b:De):decide (deCmp a b<0)=deLt a b:=by
 unfold deCmp deLt cmpI
 rcases Int.lt_trichotomy a.day b.day with h | h | h
 ·simp [h,orI]
 ·rw [h]
  have e1:=cfS_lt a.id b.id;rw [←e1]
  by_cases hz:cfS a.id b.id=0
  ·simp [orI,hz]
  ·simp [orI,hz]
 ·have h1:¬ a.day<b.day:=by omega
  have h2:¬ a.day=b.day:=za;simp [orI,h,h1,h2]
theorem ints_twoR (w:World) (a b:Int) (t:TypeId):Ints (w.alloc (.cells #[.int .i64 a,.int .i64 b] t)) (some ⟨w.heap.size,0,none⟩) [a,b]:=fun _=>by
 refine ⟨w.heap.size,0,rfl,fun i hi=>?_⟩
 have h2:i=0∨i=1:=by simp at hi;omega
 rcases h2 with rfl | rfl
 ·exact (Bx.new w _ t).cell rfl
 ·exact (Bx.new w _ t).cell rfl
theorem compareDeeds_c (a b:De) (w:World):Calls Tryz.prog 73 #[deV a,deV b] w (zAe (.int .i64 (deCmp a b)) w):=by
 have HX:Hid (Bx ((w.alloc (.cells (deC a) 47)).alloc (.cells (deC b) 47)) w.heap.size (deC a) 47):=(Bx.new _ _ _).alloc _;have HY:Hid (Bx ((w.alloc (.cells (deC a) 47)).alloc (.cells (deC b) 47)) (w.heap.size+1) (deC b) 47):=Bx.new1 _ _ _ _;have HB:Hid (Below w.heap.size w ((w.alloc (.cells (deC a) 47)).alloc (.cells (deC b) 47))):=((bN w.heap.size w).alloc (aB _) _).alloc zg _;obtain ⟨W,hW⟩:∃ W,W=(w.alloc (.cells (deC a) 47)).alloc (.cells (deC b) 47):=⟨_,rfl⟩;rw [←hW] at HX HY HB;unfold deCmp;have HC:=zq (fun W'=>cmpI_c a.day b.day W')
 have HS:=zq (fun W'=>compareS_c a.id b.id W')
 go_enter Tryz.func73,Tryz.ntmps73
 go_wp2_with fail
 rw [←hW];clear hW;have x0:=HX.o.c 0 rfl;have x1:=HX.o.c 1 rfl;have y0:=HY.o.c 0 rfl;have y1:=HY.o.c 1 rfl;generalize cmpI a.day b.day=z1 at *;generalize cfS a.id b.id=z2 at *
 have ho:∀ W':World,Calls Tryz.prog 105 #[.slice (some ⟨W'.heap.size,0,none⟩) 2 2] (W'.alloc (.cells #[.int .i64 z1,.int .i64 z2] 3)).drew (zBb (.int .i64 (orI [z1,z2])) (W'.alloc (.cells #[.int .i64 z1,.int .i64 z2] 3)).drew) :=
  fun W'=>cmpOr_c (some ⟨W'.heap.size,0,none⟩) 2 [z1,z2] _ zg (Rd1.drew (ints_twoR W' z1 z2 _))
 have HO:=zq ho;clear ho;refine wp_region_still_tail 10 zb zb ?_
 simp only [bH,cQ,cR,cJ]
 iterate 4 still_step
 still_call ((HC.o _).mono (fun _ _ h=>⟨h.1,h.2.symm⟩))
 iterate 4 still_step
 still_call ((HS.o _).mono (fun _ _ h=>⟨h.1,h.2.symm⟩))
 refine wpStill_nil ?_
 change wpList _ _ _ _ _ W.drew
 clear x0 x1 y0 y1 HC HS
 go_wp2_with fail
 with_reducible refine (HO.o W).mono ?_
 rintro e w3 ⟨rfl,rfl⟩;have HB3:Hid (Below w.heap.size w (W.alloc (.cells #[.int .i64 z1,.int .i64 z2] 3)).drew):=zAc (HB.o.alloc HB.o.size _) 1;go_wp2;go_ret
 exact zAe.mk rfl HB3.o
def fldC (k:Int):Array Value :=
 if k=1 then #[.bool true,.bool false,.bool false,.bool false,.bool false,.bool false,.bool false,.bool true,.bool false]
 else if k=2 then #[.bool true,.bool true,.bool true,.bool true,.bool false,.bool true,.bool true,.bool false,.bool false]
 else if k=3 then #[.bool true,.bool true,.bool true,.bool false,.bool true,.bool true,.bool true,.bool false,.bool false]
 else if k=4 then #[.bool false,.bool false,.bool false,.bool false,.bool false,.bool false,.bool false,.bool false,.bool true]
 else #[.bool false,.bool true,.bool false,.bool false,.bool false,.bool false,.bool false,.bool true,.bool false]
theorem zBQ (k:Int) (w:World) (hk:1≤k∧k≤5):Calls Tryz.prog 32 #[.int .i64 k] w (zAe (.agg (fldC k)) w):=by
 have h5:k=1∨k=2∨k=3∨k=4∨k=5:=za
 rcases h5 with rfl | rfl | rfl | rfl | rfl
 all_goals
  clear hk
  go_enter Tryz.func32,Tryz.ntmps32
  go_wp2;refine cW (v:=.agg (fldC _)) (by simp [results,Tryz.results32,go_sem];rfl) rfl ⟨rfl,?_⟩
  exact (bN w.heap.size w).alloc (aB _) _
def GivesPos (M:List Bool) (w:World) (e:Ending) (w':World):Prop:=∃ z:Int,e = .returned (.int .i64 z)∧decide ((0:Int)≤z)=M.any id∧w=w'
def IdxRelB (w:World) (M:List Bool) (m:Nat) (i:Value) (wr:World):Prop :=
 wr=w∧∃ k:Nat,k+m=M.length∧i = .int .i64 k∧(M.take k).any id=false
theorem indexB_c (A:Option Addr) (c:Nat) (M:List Bool) (w:World) (hn:M.length≤1000000) (h:Rd1 Value.bool w A M) :
  Calls Tryz.prog 206 #[.slice A M.length c,.bool true] w (GivesPos M w):=by
 go_enter Tryz.func206,Tryz.ntmps206
 go_wp2
 go_loopg [8] M.length (IdxRelB w M)
 case atStart=>exact ⟨rfl,0,za,rfl,rfl⟩
 case round =>
  obtain ⟨hw,k,hk,rfl,hpre⟩:=hrel;subst hw;have HK:=zq hk;have HP:=zq hpre;have hk1:k≤M.length:=za;clear hk hpre
  by_cases hlt:k<M.length
  ·obtain ⟨b,o,rfl,hb,hc⟩:=h.at_ za
   have hc0:=hc k hlt;clear hc;have HE:Hid (M.take (k+1)=M.take k++[M[k]]):=bA hlt;have HM:Hid (M[k]=true→M.any id=true):=fun e=>List.any_eq_true.2 ⟨M[k],aI hlt,e⟩
   obtain ⟨x,hx⟩:∃ x,M[k]=x:=⟨_,rfl⟩;rw [hx] at hc0 HE HM;clear hx
   cases x with
   | true =>
    go_wp2;go_ret
    exact ⟨(k:Int),rfl,by rw [HM.o trivial];exact cD za,rfl⟩
   | false =>
    go_wp2
    go_roundg (gk - 1)
    case measure=>have:=HK.o;omega
    case rel=>exact ⟨rfl,k+1,zk,zx,by rw [HE.o,cY,HP.o];rfl⟩
  ·have HA:Hid (M.any id=false):=by
    show _=_
    have:=HP.o
    rwa [cH za] at this
   go_wp2;go_ret
   exact ⟨-1,rfl,by rw [HA.o];rfl,rfl⟩
theorem some_c (A:Option Addr) (c:Nat) (M:List Bool) (w:World) (hn:M.length≤1000000) (h:Rd1 Value.bool w A M) :
  Calls Tryz.prog 151 #[.slice A M.length c] w (zBb (.bool (M.any id)) w):=by
 have hC:∀ W,Rd1 Value.bool W A M→Calls Tryz.prog 185 #[.slice A M.length c,.bool true] W (zBb (.bool (M.any id)) W):=fun W hW=>by
  go_enter Tryz.func185,Tryz.ntmps185
  go_wp2_with fail
  with_reducible refine (indexB_c A c M W hn hW).mono ?_
  rintro e w' ⟨z,rfl,hz,rfl⟩;have HZ:=zq hz;clear hz;go_wp2;go_ret
  exact zBb.mk (zAL HZ.o) rfl
 have HC:=zq (hC w h);clear hC
 go_enter Tryz.func151,Tryz.ntmps151
 go_wp2_with fail
 with_reducible refine HC.o.mono ?_
 rintro e w' ⟨rfl,rfl⟩;go_wp2;go_ret
 exact zBb.mk rfl rfl
def UsesRel (w:World) (us l:List BA) (m:Nat) (i:Value) (wr:World):Prop :=
 (∃ n,wr=w.drewN n)∧∃ k:Nat,k+m=l.length∧i = .int .i64 k∧∀ j,j<k→zBh us l j=none
theorem useF_hit {us l:List BA} {k:Nat} {f:Int} (hk:k<l.length) (hp:∀ j,j<k→zBh us l j=none) (h:zBh us l k=some f):useF us l=f:=by
 unfold useF;rw [zBi hk hp h]
theorem useF_none {us l:List BA} (hp:∀ j,j<l.length→zBh us l j=none):useF us l=0:=by
 unfold useF;rw [zBs hp]
theorem usAt_of {l:List BA} {i:Nat} (h:i<l.length):usAt l i=l[i]:=by simp [usAt,List.getD,h]
theorem checkUses_c (A A2:Option Addr) (c c2:Nat) (us l:List BA) (w:World) (hu:us.length≤1000000) (hn:l.length≤140737488355328) (h:Strs w A us) (h2:Strs w A2 l) :
  Calls Tryz.prog 152 #[.slice A us.length c,.slice A2 l.length c2] w (zBA (.int .i64 (useF us l)) w):=by
 have HC:=zq (fun W s (x:Strs W A us)=>containsS_c A c us s W hu x)
 go_enter Tryz.func152,Tryz.ntmps152
 go_wp2
 go_loopg [9] l.length (UsesRel w us l)
 case atStart=>exact ⟨⟨0,rfl⟩,0,za,rfl,fun j hj=>absurd hj za⟩
 case round =>
  obtain ⟨⟨nd,hw⟩,k,hkm,rfl,hpre⟩:=hrel;subst hw;have HM:=zq hkm;have HP:=zq hpre;clear hkm hpre
  by_cases hlt:k<l.length
  ·obtain ⟨b,o,hA,hb,hc⟩:=h2.at_ za
   subst hA;have hc0:=hc k hlt;have HCL:=zq hc;clear hc;have e0:usAt l k=l[k]:=usAt_of hlt
   go_wp2_with fail
   with_reducible refine (HC.o _ _ (h.drewN nd)).mono ?_
   rintro e w' ⟨rfl,rfl⟩
   cases hm:memS us l[k] with
   | false =>
    have HF:Hid (useF us l=5):=useF_hit hlt HP.o (by unfold zBh;rw [e0,aE hm])
    clear hm e0;go_wp2;go_ret
    exact zBA.mk (zBa HF.o.symm) ⟨nd,rfl⟩
   | true =>
    rcases bE k with h0 | h0
    ·subst h0
     have HF:Hid (zBh us l 0=none):=by
      show _=_
      unfold zBh;rw [e0,aC (by rw [hm];simp),aC za]
     clear hm e0;go_wp2
     go_roundg (gk - 1)
     case measure=>have:=HM.o;omega
     case rel=>exact ⟨⟨nd,rfl⟩,1,by have:=HM.o;omega,zx,fun j hj=>by
      have e:j=0:=za;subst e;exact HF.o⟩
    ·have hcp:=HCL.o (k - 1) za
     have hd:decide ((0:Int)<(k:Int))=true:=zj;have e1:usAt l (k - 1)=l[k - 1]'(by omega):=usAt_of za
     cases hle:sle l[k] (l[k - 1]'(by omega)) with
     | true =>
      have HF:Hid (useF us l=8):=useF_hit hlt HP.o (by unfold zBh;rw [e0,e1,aC (by rw [hm];simp),aE ⟨h0,hle⟩])
      have hleb:=hle;unfold sle at hleb;clear hm e0 e1 hle;go_wp2;go_ret
      exact zBA.mk (zBa HF.o.symm) ⟨nd,rfl⟩
     | false =>
      have HF:Hid (zBh us l k=none):=by
       show _=_
       unfold zBh;rw [e0,e1,aC (by rw [hm];simp),aC (by rintro ⟨_,h9⟩;rw [hle] at h9;cases h9)]
      have hleb:=hle;unfold sle at hleb;clear hm e0 e1 hle;go_wp2
      go_roundg (gk - 1)
      case measure=>have:=HM.o;omega
      case rel =>
       refine ⟨⟨nd,rfl⟩,k+1,by have:=HM.o;omega,zx,fun j hj=>?_⟩
       rcases bK j k with h1 | h1
       ·exact HP.o j h1
       ·have e:j=k:=by omega
        subst e;exact HF.o
  ·have HF:Hid (useF us l=0):=useF_none fun j hj=>HP.o j za
   go_wp2;go_ret
   exact zBA.mk (zBa HF.o.symm) ⟨nd,rfl⟩
def ptIs (fr:BA) (s:Sh):Bool:=decide (s.pt=fr)
def ShIx (w:World) (l:List Sh) (fr:BA) (m:Nat) (i:Value) (wr:World):Prop :=
 Below w.heap.size w wr∧∃ k:Nat,k+m=l.length∧i = .int .i64 k∧(l.take k).any (ptIs fr)=false
def GivesPosB (t:Bool) (w:World) (e:Ending) (w':World):Prop:=∃ z:Int,e = .returned (.int .i64 z)∧decide ((0:Int)≤z)=t∧Below w.heap.size w w'
theorem ptIs_c (s:Sh) (p:Nat) (fr:BA) (w:World) (hp:w.cell? ⟨p,4,none⟩=some (.string fr)) :
  Calls Tryz.prog 155 #[.agg #[.string s.pt,.string s.nu,.string s.de],.pointer (some ⟨p,0,none⟩)] w (zAe (.bool (ptIs fr s)) w):=by
 have hpl:p<w.heap.size:=World.block_lt_of_cell? w _ hp
 by_cases h:s.pt=fr
 ·have hb:=zAQ h
  have hv:ptIs fr s=true:=by unfold ptIs;exact cD h
  rw [hv];have HV:=zq hv;clear hv h
  go_enter Tryz.func155,Tryz.ntmps155
  go_wp2;go_ret
  exact zAe.mk rfl ((bN w.heap.size w).alloc (aB _) _)
 ·have hb:=zAw h
  have hv:ptIs fr s=false:=by unfold ptIs;exact cF h
  rw [hv];have HV:=zq hv;clear hv h
  go_enter Tryz.func155,Tryz.ntmps155
  go_wp2;go_ret
  exact zAe.mk rfl ((bN w.heap.size w).alloc (aB _) _)
theorem indexSh_c (A:Option Addr) (c p:Nat) (l:List Sh) (fr:BA) (w:World) (hn:l.length≤1000000) (h:Shs w A l) (hp:w.cell? ⟨p,4,none⟩=some (.string fr)) :
  Calls Tryz.prog 188 #[.slice A l.length c,.func (.func 155) #[] #[.pointer (some ⟨p,0,none⟩)]] w (GivesPosB (l.any (ptIs fr)) w):=by
 have hpl:p<w.heap.size:=World.block_lt_of_cell? w _ hp
 go_enter Tryz.func188,Tryz.ntmps188
 go_wp2
 go_loopg [8] l.length (ShIx w l fr)
 case atStart=>exact ⟨bN _ _,0,za,rfl,rfl⟩
 case round =>
  obtain ⟨hbw,k,hk,rfl,hpre⟩:=hrel;have HK:=zq hk;have HP:=zq hpre;have HBW:=zq hbw;clear hk hpre hbw
  by_cases hlt:k<l.length
  ·obtain ⟨b,o,hA,hb,hc⟩:=(h.below HBW.o).at_ za
   subst hA;obtain ⟨c0,c1,c2⟩:=hc k hlt;clear hc;have HE:Hid (l.take (k+1)=l.take k++[l[k]]):=bA hlt;have HM:Hid (ptIs fr l[k]=true→l.any (ptIs fr)=true):=fun e=>List.any_eq_true.2 ⟨l[k],aI hlt,e⟩
   have hcall:=ptIs_c l[k] p fr wr ((HBW.o.cell (p:=⟨p,4,none⟩) hpl).trans hp);have HCALL:=zq hcall;clear hcall
   go_wp2_with fail
   with_reducible refine HCALL.o.mono ?_
   rintro e w2 ⟨rfl,hb2⟩;have HB2:=zq (zAb HBW.o hb2);clear hb2 HCALL c0 c1 c2
   cases hx:ptIs fr l[k] with
   | true =>
    have HM2:=zq (HM.o hx);clear hx;go_wp2;go_ret
    exact ⟨(k:Int),rfl,by rw [HM2.o];exact cD za,HB2.o⟩
   | false =>
    have HX:=zq hx;clear hx;go_wp2
    go_roundg (gk - 1)
    case measure=>have:=HK.o;omega
    case rel=>exact ⟨HB2.o,k+1,zk,zx,by rw [HE.o,cY,HP.o];simp [HX.o]⟩
  ·have HA:Hid (l.any (ptIs fr)=false):=by
    show _=_
    have:=HP.o
    rwa [cH za] at this
   go_wp2;go_ret
   exact ⟨-1,rfl,by rw [HA.o];rfl,HBW.o⟩
theorem containsSh_c (A:Option Addr) (c p:Nat) (l:List Sh) (fr:BA) (w:World) (hn:l.length≤1000000) (h:Shs w A l) (hp:w.cell? ⟨p,4,none⟩=some (.string fr)) :
  Calls Tryz.prog 154 #[.slice A l.length c,.func (.func 155) #[] #[.pointer (some ⟨p,0,none⟩)]] w (zAe (.bool (l.any (ptIs fr))) w):=by
 go_enter Tryz.func154,Tryz.ntmps154
 go_wp2_with fail
 refine (indexSh_c A c p l fr w hn h hp).mono ?_
 rintro e w1 ⟨z,rfl,hz,hb⟩;have HZ:=zq hz;clear hz;go_wp2;go_ret
 exact zAe.mk (zAL HZ.o) hb
def zCK:BA:=⟨#[97,98,99,100,101,102,103,104,105,106,107,108,109,110,111,112,113,114,115,116,117,118,119,120,121,122,48,49,50,51,52,53,54,55,56,57,45]⟩
theorem cut_okB (c:UInt8):zCK.data.toList.contains c=okB c:=by
 have h:∀ n:Nat,n<256→zCK.data.toList.contains (UInt8.ofNat n)=okB (UInt8.ofNat n):=qt;have:=h c.toNat c.toNat_lt
 simpa using this
theorem zBU {p:UInt8→Bool}:∀ {l:List UInt8} {b:UInt8},b∈l→p b=false→b∈l.dropWhile p
 | [],_,h,_=>by simp at h
 | a::t,b,h,hb=>by
  rw [List.dropWhile_cons]
  cases ha:p a with
  | false=>simpa using h
  | true =>
   simp only [if_true]
   rcases List.mem_cons.1 h with rfl | h
   ·rw [ha] at hb;cases hb
   ·exact zBU h hb
theorem zDl {p:UInt8→Bool}:∀ {l:List UInt8},l.all p=true→l.dropWhile p=[]
 | [],_=>rfl
 | a::t,h=>by
  rw [List.all_cons,cU] at h;rw [List.dropWhile_cons,h.1]
  simpa using zDl h.2
theorem trim_empty (l:List UInt8):(Lib.trimS l zCK.data.toList).isEmpty=l.all okB:=by
 have hp:(fun b=>zCK.data.toList.contains b)=okB:=funext cut_okB
 cases ha:l.all okB with
 | true =>
  have:Lib.trimS l zCK.data.toList=[]:=by
   unfold Lib.trimS Lib.trimLeftS Lib.trimRightS;rw [hp,zDl (l:=l.reverse) (by rw [List.all_reverse];exact ha)]
   rfl
  rw [this];rfl
 | false =>
  obtain ⟨b,hb,hn⟩:=List.all_eq_false.1 ha;have hn':okB b=false:=by simpa using hn
  have:b∈Lib.trimS l zCK.data.toList:=by
   unfold Lib.trimS Lib.trimLeftS Lib.trimRightS;rw [hp];exact zBU (List.mem_reverse.2 (zBU (List.mem_reverse.2 hb) hn')) hn'
  cases hs:Lib.trimS l zCK.data.toList with
  | nil=>rw [hs] at this;simp at this
  | cons a t=>rfl
theorem trimS_c (s:BA) (w:World) (hs:s.size≤9223372036854775807) :
  Calls Tryz.prog 67 #[.string s,.string zCK] w (zAe (.string ⟨(Lib.trimS s.data.toList zCK.data.toList).toArray⟩) w) :=
 Any.strings_Trim_laid Tryz.lays160 zb s zCK w hs zc (ascii_of_all qt)
theorem soundIsName_c (s:BA) (w:World) (hs:s.size≤9223372036854775807) :
  Calls Tryz.prog 71 #[.string s] w (zAe (.bool (zAC s)) w):=by
 generalize hres:zAC s=res;have HR:=zq hres;clear hres
 by_cases h1:1≤s.size
 ·by_cases h2:s.size≤40
  ·by_cases h3:97≤(s[0]'h1).toNat
   ·by_cases h4:(s[0]'h1).toNat≤122
    ·have hall:(⟨(Lib.trimS s.data.toList zCK.data.toList).toArray⟩:BA).toList.isEmpty=res:=by
      rw [←HR.o,isNm_all h1 h2 h3 h4,ByteArray.toList_mk,trim_empty]
     have hcon:=trimS_c s w hs;generalize (⟨(Lib.trimS s.data.toList zCK.data.toList).toArray⟩:BA)=r at hall hcon;have HC:=zq hcon;have HA:=zq hall;clear hcon hall
     go_enter Tryz.func71,Tryz.ntmps71
     go_wp2_with fail
     refine HC.o.mono ?_
     rintro e w' ⟨rfl,hB⟩;go_wp2;go_ret
     exact zAe.mk (zAL HA.o) hB
    ·have hres:res=false:=by
      rw [←HR.o];unfold zAC;rw [zCX s h1];simp [h4]
     have HS:=zq hres;clear hres
     go_enter Tryz.func71,Tryz.ntmps71
     go_wp2_with fail
     go_ret
     exact zAe.mk (zAL HS.o.symm) (bN _ _)
   ·have hres:res=false:=by
     rw [←HR.o];unfold zAC;rw [zCX s h1];simp [h3]
    have HS:=zq hres;clear hres
    go_enter Tryz.func71,Tryz.ntmps71
    go_wp2_with fail
    go_ret
    exact zAe.mk (zAL HS.o.symm) (bN _ _)
  ·have hres:res=false:=by
    rw [←HR.o];unfold zAC;simp [h2]
   have HS:=zq hres;clear hres
   go_enter Tryz.func71,Tryz.ntmps71
   go_wp2_with fail
   go_ret
   exact zAe.mk (zAL HS.o.symm) (bN _ _)
 ·have hres:res=false:=by
   rw [←HR.o];unfold zAC;simp [h1]
  have HS:=zq hres;clear hres
  go_enter Tryz.func71,Tryz.ntmps71
  go_wp2_with fail
  go_ret
  exact zAe.mk (zAL HS.o.symm) (bN _ _)
theorem zBM (s:BA) (w:World) (hs:s.size≤9223372036854775807) :
  Calls Tryz.prog 42 #[.string s] w (zAe (.bool (zAC s)) w):=by
 go_enter Tryz.func42,Tryz.ntmps42
 go_wp2_with fail
 refine (soundIsName_c s w hs).mono ?_
 rintro e w' ⟨rfl,hB⟩;go_wp2;go_ret
 exact zAe.mk rfl hB
theorem Bx.set {w:World} {g:Nat} {cs:Array Value} {T:TypeId} (h:Bx w g cs T) (i:Nat) (v:Value):Bx (w.setCell ⟨g,i,none⟩ v) g (cs.setIfInBounds i v) T:=by
 have h':w.heap[g]?=some (.cells cs T (0,0)):=h
 show (w.setCell ⟨g,i,none⟩ v).heap[g]?=_
 simp [World.setCell,Array.getElem?_modify,h']
theorem Bx.far {w:World} {g:Nat} {cs:Array Value} {T:TypeId} (h:Bx w g cs T) {p:Addr} (hp:g≠p.block) (v:Value):Bx (w.setCell p v) g cs T:=(bX w p v g hp).trans h
abbrev rdC (ng:Bool) (A:Option Addr) (c n:Nat) (A2:Option Addr) (c2 d:Nat):Array Value:=#[.bool ng,.slice A (zAf B32 n).length c,.slice A2 (zAf B32 d).length c2]
structure ShSt (w:World) (d:De) (g:Nat) (A:Option Addr) (c:Nat) (A2:Option Addr) (c2:Nat) (pr:Nat×Nat) (W:World):Prop where
 bel:Below w.heap.size w W
 box:Bx W w.heap.size (deC d) 47
 sum:Bx W g (rdC false A c pr.1 A2 c2 pr.2) 158
 n1:Nt W A c pr.1
 n2:Nt W A2 c2 pr.2
 gt:w.heap.size<g
section
variable {w W W':World} {d:De} {g:Nat} {A A2:Option Addr} {c c2:Nat} {pr:Nat×Nat}
theorem ShSt.below (h:ShSt w d g A c A2 c2 pr W) (hb:Below W.heap.size W W'):ShSt w d g A c A2 c2 pr W' :=
 ⟨zAb h.bel hb,h.box.below hb,h.sum.below hb,h.n1.below hb,h.n2.below hb,h.gt⟩
theorem ShSt.drewN (h:ShSt w d g A c A2 c2 pr W) (n:Nat):ShSt w d g A c A2 c2 pr (W.drewN n) :=
 ⟨zAc h.bel n,h.box,h.sum,h.n1.drewN n,h.n2.drewN n,h.gt⟩
theorem ShSt.alloc (h:ShSt w d g A c A2 c2 pr W) (o:Obj):ShSt w d g A c A2 c2 pr (W.alloc o) :=
 h.below ((bN _ _).alloc (aB _) o)
theorem ShSt.store (h:ShSt w d g A c A2 c2 pr W) {A' A2':Option Addr} {c' c2':Nat} {pr':Nat×Nat} (h1:Nt W A' c' pr'.1) (h2:Nt W A2' c2' pr'.2) :
  ShSt w d g A' c' A2' c2' pr' (((W.setCell ⟨g,0,none⟩ (.bool false)).setCell ⟨g,1,none⟩ (.slice A' (zAf B32 pr'.1).length c')).setCell ⟨g,2,none⟩ (.slice A2' (zAf B32 pr'.2).length c2')):=by
 have hg:=h.gt;obtain ⟨k0,k1,k2⟩:=h.sum.t;refine ⟨((h.bel.setCell zj _).setCell zj _).setCell zj _,((h.box.far zj _).far zj _).far zj _,?_,h1.set3 k0 k1 k2 (nb_ _) (ns_ _ _ _) (ns_ _ _ _) _ _ _,h2.set3 k0 k1 k2 (nb_ _) (ns_ _ _ _) (ns_ _ _ _) _ _ _,hg⟩
 exact ((h.sum.set 0 _).set 1 _).set 2 _
theorem ShSt.shs (h:ShSt w d g A c A2 c2 pr W) (hd:DeOk w d):Shs W d.shA d.sh:=hd.shs.below h.bel
end
theorem sumP_zero (l:List Sh):sumP l 0=(0,1):=rfl
theorem sumP_succ {l:List Sh} {k:Nat} (h:k<l.length):sumP l (k+1)=addP (sumP l k) (zAX (zBm l[k].nu),zAX l[k].de):=by
 unfold sumP;rw [bA h,List.foldl_append]
 rfl
def ShLen (p:Nat×Nat) (k:Nat):Prop:=(zAf B32 p.1).length≤4001*k+1∧(zAf B32 p.2).length≤4001*k+1∧0<p.2
theorem shLen_succ {p:Nat×Nat} {k n d:Nat} (h:ShLen p k) (hn:(zAf B32 n).length≤2000) (hd:(zAf B32 d).length≤2000) (hd0:0<d):ShLen (addP p (n,d)) (k+1):=by
 obtain ⟨h1,h2,h3⟩:=h;have e1:=len_mul p.1 d;have e2:=len_mul n p.2;have e3:=len_add (p.1*d) (n*p.2);have e4:=len_mul p.2 d;have hp:0<p.2*d:=Nat.mul_pos h3 hd0;have f1:=zBE zAs (Nat.div_le_self (p.1*d+n*p.2) (Nat.gcd (p.1*d+n*p.2) (p.2*d)));have f2:=zBE zAs (Nat.div_le_self (p.2*d) (Nat.gcd (p.1*d+n*p.2) (p.2*d)));refine ⟨?_,?_,Nat.div_pos (Nat.le_of_dvd hp (Nat.gcd_dvd_right _ _)) (Nat.gcd_pos_of_pos_right _ hp)⟩
 ·show (zAf B32 ((p.1*d+n*p.2) / Nat.gcd (p.1*d+n*p.2) (p.2*d))).length≤_
  omega
 ·show (zAf B32 (p.2*d / Nat.gcd (p.1*d+n*p.2) (p.2*d))).length≤_
  omega
theorem ptAt_of {l:List Sh} {i:Nat} (h:i<l.length):ptAt l i=l[i].pt:=by simp [ptAt,List.getD,h]
theorem shD_of {l:List Sh} {i:Nat} (h:i<l.length):l.getD i default=l[i]:=by simp [List.getD,h]
theorem zDa {nu de:BA} (h:ratF nu de=0):numB (zBm nu)=true∧numB de=true∧de≠zeroS∧(zBm nu).size≤2000∧de.size≤2000:=by
 unfold ratF at h
 split at h
 ·cases h
 ·next h1 =>
  split at h
  ·cases h
  ·next h2 =>
   refine ⟨?_,?_,?_,za,za⟩
   ·cases hq:numB (zBm nu) with
    | true=>rfl
    | false=>exact absurd (.inl hq) h1
   ·cases hq:numB de with
    | true=>rfl
    | false=>exact absurd (.inr (.inr (.inl hq))) h1
   ·exact fun e=>h1 (.inr (.inr (.inr e)))
theorem absN_size (s:BA):(zBm s).size≤s.size:=by
 show (absL s).toArray.size≤_
 unfold absL;have e:s.data.toList.length=s.size:=cZ
 split
 ·rw [List.size_toArray,List.length_tail];omega
 ·rw [List.size_toArray];omega
theorem posB_sgn (nu:BA):decide (sgnI (sgB nu) (zAX (zBm nu))≤0) = !posB nu:=by
 unfold sgnI sgB posB
 cases negB nu<;>by_cases h:zAX (zBm nu)=0<;>simp [h]
theorem posB_sg {nu:BA} (h:posB nu=true):sgB nu=false:=by
 unfold posB at h;unfold sgB
 cases hn:negB nu<;>simp_all
def ShRel (w:World) (d:De) (g:Nat) (m:Nat) (i:Value) (wr:World):Prop :=
 ∃ A c A2 c2 k,ShSt w d g A c A2 c2 (sumP d.sh k) wr∧ShLen (sumP d.sh k) k∧k+m=d.sh.length∧i = .int .i64 (k:Nat)∧∀ j,j<k→zAW d.sh j=none
def zBV (d:De):Int:=if shF d.kd d.sh≠0 then shF d.kd d.sh else if d.kd=5∧(d.sh.any fun s=>decide (s.pt=d.fr))=true then 12 else 0
theorem whole0_c (w:World):Calls Tryz.prog 112 #[.int .i64 0] w (GivesR false 0 1 w):=Whole_c 0 w za
theorem whole1_c (w:World):Calls Tryz.prog 112 #[.int .i64 1] w (GivesR false 1 1 w):=Whole_c 1 w za
def shEnd (d:De):Int:=if (sumP d.sh d.sh.length).2<(sumP d.sh d.sh.length).1∨(d.kd=5∧(sumP d.sh d.sh.length).1≠(sumP d.sh d.sh.length).2) then 1 else if d.kd=5∧(d.sh.any (ptIs d.fr))=true then 12 else 0
def shRest (s:Sh):Option Int:=if ratF s.nu s.de≠0 then some (ratF s.nu s.de) else if posB s.nu=false then some 1 else none
theorem shFault_nz {l:List Sh} {k:Nat} {f:Int} (h:zAW l k=some f):f≠0:=by
 unfold zAW at h
 split at h
 ·cases h;decide
 ·split at h
  ·cases h;decide
  ·split at h
   ·next hr=>cases h;exact hr
   ·split at h
    ·cases h;decide
    ·cases h
theorem shFull_hit {d:De} {k:Nat} {f:Int} (hne:d.sh≠[]) (h20:¬20<d.sh.length) (hk:k<d.sh.length) (hp:∀ j,j<k→zAW d.sh j=none) (hf:zAW d.sh k=some f):zBV d=f:=by
 have e:shF d.kd d.sh=f:=by
  unfold shF;rw [aC hne,aC h20,zBi hk hp hf]
 unfold zBV;rw [e,aE (shFault_nz hf)]
theorem shFull_none {d:De} (hne:d.sh≠[]) (h20:¬20<d.sh.length) (hp:∀ j,j<d.sh.length→zAW d.sh j=none):zBV d=shEnd d:=by
 have e:shF d.kd d.sh=if (sumP d.sh d.sh.length).2<(sumP d.sh d.sh.length).1∨(d.kd=5∧(sumP d.sh d.sh.length).1≠(sumP d.sh d.sh.length).2) then 1 else 0:=by
  unfold shF;rw [aC hne,aC h20,zBs hp]
 unfold zBV shEnd;rw [e]
 by_cases h:(sumP d.sh d.sh.length).2<(sumP d.sh d.sh.length).1∨(d.kd=5∧(sumP d.sh d.sh.length).1≠(sumP d.sh d.sh.length).2)
 ·rw [aE h,aE h];rfl
 ·rw [aC h,aC h];rfl
theorem checkShares_c (d:De) (w:World) (hd:DeOk w d):Calls Tryz.prog 114 #[deV d] w (zAe (.int .i64 (zBV d)) w):=by
 generalize hres:zBV d=res;have HR:=zq hres;clear hres;have HD:=zq hd;clear hd;have HX:Hid (Bx (w.alloc (.cells (deC d) 47)) w.heap.size (deC d) 47):=Bx.new _ _ _;have HB:Hid (Below w.heap.size w (w.alloc (.cells (deC d) 47))):=(bN w.heap.size w).alloc (aB _) _;obtain ⟨W,hW⟩:∃ W,W=w.alloc (.cells (deC d) 47):=⟨_,rfl⟩;rw [←hW] at HX HB;have hsz:w.heap.size<W.heap.size:=HX.o.lt
 go_enter Tryz.func114,Tryz.ntmps114
 by_cases h0:d.sh.length=0
 ·have HS:Hid (res=9):=by
   show _=_
   rw [←HR.o];unfold zBV shF;have:d.sh=[]:=List.length_eq_zero_iff.1 h0;simp [this]
  go_wp2;go_ret
  exact zAe.mk (zBa HS.o.symm) (hW▸HB.o)
 ·by_cases h20:20<d.sh.length
  ·have HS:Hid (res=2):=by
    show _=_
    rw [←HR.o];unfold zBV shF;have:d.sh≠[]:=fun e=>h0 (by rw [e];rfl)
    simp [this,h20]
   go_wp2;go_ret
   exact zAe.mk (zBa HS.o.symm) (hW▸HB.o)
  ·have hne:d.sh≠[]:=fun e=>h0 (by rw [e];rfl)
   have HH:Hid (∀ k f,k<d.sh.length→(∀ j,j<k→zAW d.sh j=none)→zAW d.sh k=some f→res=f):=by
    intro k f hk hp hf;rw [←HR.o];exact shFull_hit hne h20 hk hp hf
   have HN:Hid ((∀ j,j<d.sh.length→zAW d.sh j=none)→shEnd d=res):=by
    intro hp;rw [←HR.o];exact (shFull_none hne h20 hp).symm
   have x14:=HX.o.c 14 rfl
   go_wp2_with fail
   rw [←hW];with_reducible refine (whole0_c W).mono ?_
   rintro e w1 ⟨A1,c1,A2,c2,rfl,hn1,hn2,hb1⟩;have HX1:=zq (HX.o.below hb1);have HB1:=zq (zAb HB.o hb1);have hs1:=hb1.size
   have HST:Hid (ShSt w d w1.heap.size A1 c1 A2 c2 (sumP d.sh 0) (w1.alloc (.cells (rdC false A1 c1 0 A2 c2 1) 158))) :=
    ⟨HB1.o.alloc za _,HX1.o.alloc _,Bx.new _ _ _,hn1.alloc _,hn2.alloc _,za⟩
   have y14:=HX1.o.c 14 rfl;have hlt1:=HX1.o.lt;clear hb1 x14;go_wp2;obtain ⟨b,o,hA,hb0,hc0⟩:=HD.o.shs.at_ za;have HC0:=zq hc0;clear hc0;rw [hA]
   go_loopg [21] d.sh.length (ShRel w d w1.heap.size)
   case atStart=>exact ⟨A1,c1,A2,c2,0,HST.o,⟨by rw [sumP_zero];decide,by rw [sumP_zero];decide,by rw [sumP_zero];decide⟩,za,rfl,fun j hj=>absurd hj za⟩
   case round =>
    clear HST HB1 HX1 hn1 hn2 y14 hs1 hW HX HB hsz;obtain ⟨A3,c3,A4,c4,k,hst,hle,hkm,rfl,hpre⟩:=hrel;have HST:=zq hst;have HLE:=zq hle;have HKM:=zq hkm;have HP:=zq hpre;have hkl:k≤d.sh.length:=za;clear hst hle hkm hpre;have HSH:=zq (HST.o.shs HD.o)
    by_cases hlt:k<d.sh.length
    ·have hb:b<wr.heap.size:=cP hb0 HST.o.bel.size
     have hc:∀ i (h:i<d.sh.length),wr.cell? ⟨b,o+i*3,none⟩=some (.string (d.sh[i]).pt)∧wr.cell? ⟨b,o+i*3+1,none⟩=some (.string (d.sh[i]).nu)∧wr.cell? ⟨b,o+i*3+2,none⟩=some (.string (d.sh[i]).de) :=
      fun i h=>⟨(HST.o.bel.cell hb0).trans (HC0.o i h).1,(HST.o.bel.cell hb0).trans (HC0.o i h).2.1,(HST.o.bel.cell hb0).trans (HC0.o i h).2.2⟩
     have HCL:=zq hc;obtain ⟨s0,s1,s2⟩:=hc k hlt;clear hc;have HSB:Hid (Bx (wr.alloc (.cells #[.string d.sh[k].pt,.string d.sh[k].nu,.string d.sh[k].de] 110)) wr.heap.size #[.string d.sh[k].pt,.string d.sh[k].nu,.string d.sh[k].de] 110):=Bx.new _ _ _;have HST1:=zq (HST.o.alloc (.cells #[.string d.sh[k].pt,.string d.sh[k].nu,.string d.sh[k].de] 110));have hsz1:=(HD.o.shz _ (aI hlt)).1;have hz1:=cM (absN_size d.sh[k].nu) (HD.o.shz _ (aI hlt)).2.1;have hz2:=(HD.o.shz _ (aI hlt)).2.2
     go_wp2_with fail
     with_reducible refine (zBM d.sh[k].pt _ hsz1).mono ?_
     rintro e w2 ⟨rfl,hb2⟩;have HST2:=zq (HST1.o.below hb2);have hbw:Below wr.heap.size wr w2:=((bN _ _).alloc (aB _) _).trans (hb2.mono zg);have HSB2:=zq (HSB.o.below hb2);clear HST1 HSB hb2
     cases hnm:zAC d.sh[k].pt with
     | false =>
      have HS:Hid (res=5):=HH.o k 5 hlt HP.o (by unfold zAW;rw [ptAt_of hlt,aE hnm])
      clear hnm;go_wp2;go_ret
      exact zAe.mk (zBa HS.o.symm) HST2.o.bel
     | true =>
      have HNM:=zq hnm;clear hnm;have yd:w2.cell? ⟨w.heap.size,14,none⟩=some (.slice (some ⟨b,o,none⟩) d.sh.length d.shc):=by rw [←hA];exact HST2.o.box.c 14 rfl
      have ye:=HST2.o.box.lt;obtain ⟨z0,z1,z2⟩:=HSB2.o.t;have HPV:Hid (∀ (h:0<k),w2.cell? ⟨b,o+(k - 1)*3,none⟩=some (.string (d.sh[k - 1]'(by omega)).pt)):=fun h=>(hbw.cell hb).trans (HCL.o (k - 1) za).1
      clear hbw s0 s1 s2
      by_cases hk0:0<k
      case' pos =>
       have zp:=HPV.o hk0;have hd:decide ((0:Int)<(k:Int))=true:=zj;have hd0:decide ((0:Int)≤(k:Int) - 1)=true:=zj
       cases hle:sle d.sh[k].pt (d.sh[k - 1]'(by omega)).pt
       case' true =>
        have HS:Hid (res=8):=HH.o k 8 hlt HP.o (by unfold zAW;rw [ptAt_of hlt,ptAt_of (show k - 1<d.sh.length by omega),aC (by rw [HNM.o];simp),aE ⟨hk0,hle⟩])
        unfold sle at hle;clear HPV HCL;go_wp2
        go_quiet (fail)
        go_wp2;go_ret
        exact zAe.mk (zBa HS.o.symm) (zAc HST2.o.bel _)
       case' false =>
        have HF:Hid (zAW d.sh k=shRest d.sh[k]):=by
         show _=_
         unfold zAW shRest;rw [shD_of hlt,ptAt_of hlt,ptAt_of (show k - 1<d.sh.length by omega),aC (by rw [HNM.o];simp),aC (fun hh=>by rw [hle] at hh;cases hh.2)]
        unfold sle at hle
      case' neg =>
       have hd:decide ((0:Int)<(k:Int))=false:=zj
       have HF:Hid (zAW d.sh k=shRest d.sh[k]):=by
        show _=_
        unfold zAW shRest;rw [shD_of hlt,ptAt_of hlt,aC (by rw [HNM.o];simp),aC (fun hh=>hk0 hh.1)]
      all_goals
       clear HPV HCL HNM;go_wp2
       go_quiet (fail)
       go_wp2_with fail
       with_reducible refine (CheckRatio_c d.sh[k].nu d.sh[k].de _ hz1 hz2).mono ?_
       rintro e w3 ⟨rfl,hb3⟩;have HST3:=zq ((HST2.o.drewN nq).below hb3);have HSB3:=zq ((HSB2.o.drewN nq).below hb3);clear yd ye z0 z1 z2 hb3 HSB2 HST2
       by_cases hr:ratF d.sh[k].nu d.sh[k].de=0
       case' neg =>
        have HS:Hid (res=ratF d.sh[k].nu d.sh[k].de):=HH.o k _ hlt HP.o (by rw [HF.o];unfold shRest;rw [aE hr])
        have hrb:(ratF d.sh[k].nu d.sh[k].de != 0)=true:=by simpa using hr
        clear hr;go_wp2;go_ret
        exact zAe.mk (zBa HS.o.symm) HST3.o.bel
       have HF2:Hid (zAW d.sh k=if posB d.sh[k].nu=false then some 1 else none):=by
        show _=_
        rw [HF.o];unfold shRest;rw [aC (by rw [hr];decide)]
       obtain ⟨q1,q2,q3,q4,q5⟩:=zDa hr;have HLN:Hid ((zAf B32 (zAX (zBm d.sh[k].nu))).length≤2000):=len_val (zBH q1).1 q4;have HLD:Hid ((zAf B32 (zAX d.sh[k].de)).length≤2000):=len_val (zBH q2).1 q5;have HDP:Hid (0<zAX d.sh[k].de):=den_pos q2 q3;have HFR:=zq (From_c d.sh[k].nu d.sh[k].de w3 (zBH q1).1 q4 (zBH q2).1 q5);obtain ⟨z0,z1,z2⟩:=HSB3.o.t;rw [hr];clear q1 q2 q3 q4 q5 hr HF HSB3
       go_wp2_with fail
       with_reducible refine HFR.o.mono ?_
       rintro e w4 ⟨A5,c5,A6,c6,rfl,h5,h6,hb4⟩;have HST4:=zq (HST3.o.below hb4);clear z0 z1 z2 hb4 HST3 HFR;have HXB:Hid (Bx (w4.alloc (.cells (rdC (sgB d.sh[k].nu) A5 c5 (zAX (zBm d.sh[k].nu)) A6 c6 (zAX d.sh[k].de)) 158)) w4.heap.size (rdC (sgB d.sh[k].nu) A5 c5 (zAX (zBm d.sh[k].nu)) A6 c6 (zAX d.sh[k].de)) 158):=Bx.new _ _ _;have HST5:=zq (HST4.o.alloc (.cells (rdC (sgB d.sh[k].nu) A5 c5 (zAX (zBm d.sh[k].nu)) A6 c6 (zAX d.sh[k].de)) 158));have H5:=zq (h5.alloc (.cells (rdC (sgB d.sh[k].nu) A5 c5 (zAX (zBm d.sh[k].nu)) A6 c6 (zAX d.sh[k].de)) 158));have H6:=zq (h6.alloc (.cells (rdC (sgB d.sh[k].nu) A5 c5 (zAX (zBm d.sh[k].nu)) A6 c6 (zAX d.sh[k].de)) 158));clear h5 h6 HST4
       go_wp2_with fail
       with_reducible refine (RSign_c (sgB d.sh[k].nu) A5 A6 c5 c6 (zAX (zBm d.sh[k].nu)) (zAX d.sh[k].de) _).mono ?_
       rintro e w5 ⟨rfl,hb5⟩;have HST6:=zq (HST5.o.below hb5);have HXB6:=zq (HXB.o.below hb5);have H56:=zq (H5.o.below hb5);have H66:=zq (H6.o.below hb5);have hsg:=posB_sgn d.sh[k].nu;clear hb5 HST5 HXB H5 H6
       cases hp:posB d.sh[k].nu with
       | false =>
        have HS:Hid (res=1):=HH.o k 1 hlt HP.o (by rw [HF2.o,aE hp])
        rw [hp] at hsg;clear hp;go_wp2;go_ret
        exact zAe.mk (zBa HS.o.symm) HST6.o.bel
       | true =>
        have HF3:Hid (zAW d.sh k=none):=by
         show _=_
         rw [HF2.o,aC (by rw [hp];simp)]
        have hsb:=posB_sg hp;rw [hp] at hsg;clear hp HF2;have HSUM:Hid (sumP d.sh (k+1)=addP (sumP d.sh k) (zAX (zBm d.sh[k].nu),zAX d.sh[k].de)):=sumP_succ hlt;have HLS:=zq (shLen_succ HLE.o HLN.o HLD.o HDP.o);have hk20:k<20:=za;have hle1:=HLE.o.1;have hle2:=HLE.o.2.1;have hle3:=HLE.o.2.2;have HADD:=zq (RAdd_c A3 A4 A5 A6 c3 c4 c5 c6 (sumP d.sh k).1 (sumP d.sh k).2 (zAX (zBm d.sh[k].nu)) (zAX d.sh[k].de) w5 HST6.o.n1 HST6.o.n2 H56.o H66.o za za (cM HLN.o za) (cM HLD.o za) hle3 HDP.o);rw [hsb] at hsg HXB6;rw [hsb];obtain ⟨a0,a1,a2⟩:=HST6.o.sum.t;obtain ⟨x0,x1,x2⟩:=HXB6.o.t;clear hle1 hle2 hle3 HLE HXB6 H56 H66
        go_wp2_with fail
        with_reducible refine HADD.o.mono ?_
        rintro e w6 ⟨A7,c7,A8,c8,rfl,h7,h8,hb6⟩;have HST7:=zq (HST6.o.below hb6);obtain ⟨r0,r1,r2⟩:=HST7.o.sum.t;have fr:=HST7.o.sum.frozen;have rl:=HST7.o.sum.lt;have HST8:=zq (HST7.o.store (pr':=addP (sumP d.sh k) (zAX (zBm d.sh[k].nu),zAX d.sh[k].de)) h7 h8);clear a0 a1 a2 x0 x1 x2 hb6 h7 h8 HST6 HADD hsg hsb;go_wp2
        go_roundg (gk - 1)
        case measure=>have:=HKM.o;omega
        case rel =>
         refine ⟨A7,c7,A8,c8,k+1,by rw [HSUM.o];exact HST8.o,by rw [HSUM.o];exact HLS.o,qm,zx,fun j hj=>?_⟩
         rcases bK j k with h9 | h9
         ·exact HP.o j h9
         ·obtain rfl:j=k:=by omega
          exact HF3.o
    ·have hke:k=d.sh.length:=by omega
     rw [hke] at HST HLE HP;have HE:=zq (HN.o HP.o);have hl1:(zAf B32 (sumP d.sh d.sh.length).1).length≤100000000:=cM HLE.o.1 za;have hl2:(zAf B32 (sumP d.sh d.sh.length).2).length≤100000000:=cM HLE.o.2.1 za;have HL1:=zq hl1;have HL2:=zq hl2;clear hl1 hl2 HLE HP HC0;obtain ⟨a0,a1,a2⟩:=HST.o.sum.t;go_wp2
     go_region_held3 (fun w'=>w'.cell? ⟨w1.heap.size,0,none⟩=some (.bool false)∧w'.cell? ⟨w1.heap.size,1,none⟩=some (.slice A3 (zAf B32 (sumP d.sh d.sh.length).1).length c3)∧w'.cell? ⟨w1.heap.size,2,none⟩=some (.slice A4 (zAf B32 (sumP d.sh d.sh.length).2).length c4)) ((refine ⟨?_,?_,?_⟩<;>first | with_reducible assumption | go_simp))
      (first
       | ((go_at_call 112;(with_reducible refine (whole1_c _).mono ?_);rintro e w8 ⟨A7,c7,A8,c8,rfl,h7,h8,hb8⟩;have HST8:=zq ((HST.o.drewN 1).below hb8);obtain ⟨b0,b1,b2⟩:=HST8.o.sum.t;clear hb8))
       | ((go_at_call 111;(with_reducible refine (RCmp_c A3 A4 A7 A8 c3 c4 c7 c8 _ _ 1 1 w8 HST8.o.n1 HST8.o.n2 h7 h8 HL1.o HL2.o zc zc).mono ?_);rintro e w9 ⟨rfl,hb9⟩;have HST9:=zq (HST8.o.below hb9);obtain ⟨d0,d1,d2⟩:=HST9.o.sum.t;clear hb9)))
     clear a0 a1 a2 b0 b1 b2 d0 d1 d2 HST HST8 h7 h8 HL1 HL2 HSH;have y2:w9.cell? ⟨w.heap.size,2,none⟩=some (.int .i64 d.kd):=HST9.o.box.c 2 rfl;have y14:w9.cell? ⟨w.heap.size,14,none⟩=some (.slice d.shA d.sh.length d.shc):=HST9.o.box.c 14 rfl;have yl:=HST9.o.box.lt;have HCO:=zq (containsSh_c d.shA d.shc w.heap.size d.sh d.fr w9 za (HST9.o.shs HD.o) (HST9.o.box.c 4 rfl));have he:=HE.o;unfold shEnd at he;clear HE HN HH HR
     try simp only [Nat.mul_one,Nat.one_mul]
     rcases Nat.lt_trichotomy (sumP d.sh d.sh.length).2 (sumP d.sh d.sh.length).1 with h | h | h
     ·rw [aE (.inl h)] at he
      rw [cmpN_gt h];have HS:=zq he;clear he h;go_wp2;go_ret
      exact zAe.mk (zBa HS.o) HST9.o.bel
     ·rw [aC za] at he
      rw [cmpN_eq h.symm]
      by_cases hk:d.kd=5
      ·have hkb:(d.kd == 5)=true:=by rw [hk];rfl
       cases hany:d.sh.any (ptIs d.fr) with
       | true =>
        rw [aE ⟨hk,hany⟩] at he;rw [hany,hA] at HCO;have HS:=zq he;clear he h hk hany
        go_wp2_with fail
        with_reducible refine HCO.o.mono ?_
        rintro e w10 ⟨rfl,hb10⟩;go_wp2;go_ret
        exact zAe.mk (zBa HS.o) (zAb HST9.o.bel hb10)
       | false =>
        rw [aC (fun hh=>by rw [hany] at hh;cases hh.2)] at he
        rw [hany,hA] at HCO;have HS:=zq he;clear he h hk hany
        go_wp2_with fail
        with_reducible refine HCO.o.mono ?_
        rintro e w10 ⟨rfl,hb10⟩;go_wp2;go_ret
        exact zAe.mk (zBa HS.o) (zAb HST9.o.bel hb10)
      ·have hkb:(d.kd == 5)=false:=by simpa using hk
       rw [aC (fun hh=>hk hh.1)] at he
       have HS:=zq he;clear he h hk;go_wp2;go_ret
       exact zAe.mk (zBa HS.o) HST9.o.bel
     ·rw [zDi h]
      by_cases hk:d.kd=5
      ·have hkb:(d.kd == 5)=true:=by rw [hk];rfl
       rw [aE (.inr ⟨hk,za⟩)] at he;have HS:=zq he;clear he h hk;go_wp2;go_ret
       exact zAe.mk (zBa HS.o) HST9.o.bel
      ·have hkb:(d.kd == 5)=false:=by simpa using hk
       rw [aC za,aC (fun hh=>hk hh.1)] at he
       have HS:=zq he;clear he h hk;go_wp2;go_ret
       exact zAe.mk (zBa HS.o) HST9.o.bel
end Go.Proofs.YtoaelidmmcbkfaaGreatDoor
namespace Go.Proofs
open Go.Shelf
def Tryz.lays170_ren:Go.Shelf.Ren:=⟨fun | 170=>24 | n=>n,fun | 70=>66 | 3=>3 | 0=>0 | 72=>69 | 37=>67 | 5=>5 | n=>n,fun | n=>n⟩
theorem Tryz.lays170:Go.Proofs.Lays.n170 Tryz.prog Tryz.lays170_ren:={
 mixed:=zb
 f170:=Tryz.func24.trans (aV some zb)
 t0:=Tryz.underlying0
 a0:=Tryz.isAgg0
 z0:=Tryz.sizeOf0
 v0:=Tryz.zeroValue0
 t3:=Tryz.underlying3
 a3:=Tryz.isAgg3
 z3:=Tryz.sizeOf3
 v3:=Tryz.zeroValue3
 t37:=Tryz.underlying67
 a37:=Tryz.isAgg67
 z37:=Tryz.sizeOf67
 v37:=Tryz.zeroValue67
 t70:=Tryz.underlying66
 a70:=Tryz.isAgg66
 z70:=Tryz.sizeOf66
 v70:=Tryz.zeroValue66
 t72:=Tryz.underlying69
 a72:=Tryz.isAgg69
 z72:=Tryz.sizeOf69
 v72:=Tryz.zeroValue69 }
def Tryz.lays169_ren:Go.Shelf.Ren:=⟨fun | 169=>25 | n=>n,fun | 70=>66 | 9=>9 | 0=>0 | 72=>69 | 37=>67 | 127=>120 | 3=>3 | 5=>5 | n=>n,fun | n=>n⟩
theorem Tryz.lays169:Go.Proofs.Lays.n169 Tryz.prog Tryz.lays169_ren:={
 mixed:=zb
 f169:=Tryz.func25.trans (aV some zb)
 t0:=Tryz.underlying0
 a0:=Tryz.isAgg0
 z0:=Tryz.sizeOf0
 v0:=Tryz.zeroValue0
 t3:=Tryz.underlying3
 a3:=Tryz.isAgg3
 z3:=Tryz.sizeOf3
 v3:=Tryz.zeroValue3
 t9:=Tryz.underlying9
 a9:=Tryz.isAgg9
 z9:=Tryz.sizeOf9
 v9:=Tryz.zeroValue9
 t37:=Tryz.underlying67
 a37:=Tryz.isAgg67
 z37:=Tryz.sizeOf67
 v37:=Tryz.zeroValue67
 t70:=Tryz.underlying66
 a70:=Tryz.isAgg66
 z70:=Tryz.sizeOf66
 v70:=Tryz.zeroValue66
 t72:=Tryz.underlying69
 a72:=Tryz.isAgg69
 z72:=Tryz.sizeOf69
 v72:=Tryz.zeroValue69
 t127:=Tryz.underlying120
 a127:=Tryz.isAgg120
 z127:=Tryz.sizeOf120
 v127:=Tryz.zeroValue120 }
theorem Tryz.Builder_Extra_169:Builder.Extra Tryz.prog Tryz.lays169_ren:={
 sizeBuilder:=zb
 liesBuilder:=zb
 t5:=Tryz.underlying5
 a5:=Tryz.isAgg5
 z5:=Tryz.sizeOf5
 v5:=Tryz.zeroValue5
 infoByte:=zb
 cellsByte:=zb
 sizeByte:=zb
 neB5:=by decide }
def Tryz.lays156_ren:Go.Shelf.Ren:=⟨fun | 156=>61 | 165=>89 | 166=>22 | 169=>25 | 240=>59 | 241=>125 | 276=>88 | 277=>168 | n=>n,fun | 31=>23 | 9=>9 | 3=>3 | 4=>4 | 0=>0 | 20=>20 | 72=>69 | 76=>72 | 70=>66 | 37=>67 | 75=>71 | 127=>120 | 164=>136 | 5=>5 | 80=>76 | n=>n,fun | n=>n⟩
theorem Tryz.lays156:Go.Proofs.Lays.n156 Tryz.prog Tryz.lays156_ren:={
 mixed:=zb
 f156:=Tryz.func61.trans (aV some zb)
 f165:=Tryz.func89.trans (aV some zb)
 f166:=Tryz.func22.trans (aV some zb)
 f169:=Tryz.func25.trans (aV some zb)
 f240:=Tryz.func59.trans (aV some zb)
 f241:=Tryz.func125.trans (aV some zb)
 f276:=Tryz.func88.trans (aV some zb)
 f277:=Tryz.func168.trans (aV some zb)
 t0:=Tryz.underlying0
 a0:=Tryz.isAgg0
 z0:=Tryz.sizeOf0
 v0:=Tryz.zeroValue0
 t3:=Tryz.underlying3
 a3:=Tryz.isAgg3
 z3:=Tryz.sizeOf3
 v3:=Tryz.zeroValue3
 t4:=Tryz.underlying4
 a4:=Tryz.isAgg4
 z4:=Tryz.sizeOf4
 v4:=Tryz.zeroValue4
 t9:=Tryz.underlying9
 a9:=Tryz.isAgg9
 z9:=Tryz.sizeOf9
 v9:=Tryz.zeroValue9
 t20:=Tryz.underlying20
 a20:=Tryz.isAgg20
 z20:=Tryz.sizeOf20
 v20:=Tryz.zeroValue20
 t31:=Tryz.underlying23
 a31:=Tryz.isAgg23
 z31:=Tryz.sizeOf23
 v31:=Tryz.zeroValue23
 t37:=Tryz.underlying67
 a37:=Tryz.isAgg67
 z37:=Tryz.sizeOf67
 v37:=Tryz.zeroValue67
 t70:=Tryz.underlying66
 a70:=Tryz.isAgg66
 z70:=Tryz.sizeOf66
 v70:=Tryz.zeroValue66
 t72:=Tryz.underlying69
 a72:=Tryz.isAgg69
 z72:=Tryz.sizeOf69
 v72:=Tryz.zeroValue69
 t75:=Tryz.underlying71
 a75:=Tryz.isAgg71
 z75:=Tryz.sizeOf71
 v75:=Tryz.zeroValue71
 t76:=Tryz.underlying72
 a76:=Tryz.isAgg72
 z76:=Tryz.sizeOf72
 v76:=Tryz.zeroValue72
 t127:=Tryz.underlying120
 a127:=Tryz.isAgg120
 z127:=Tryz.sizeOf120
 v127:=Tryz.zeroValue120
 t164:=Tryz.underlying136
 a164:=Tryz.isAgg136
 z164:=Tryz.sizeOf136
 v164:=Tryz.zeroValue136 }
theorem Tryz.Builder_Extra_156:Builder.Extra Tryz.prog Tryz.lays156_ren:={
 sizeBuilder:=zb
 liesBuilder:=zb
 t5:=Tryz.underlying5
 a5:=Tryz.isAgg5
 z5:=Tryz.sizeOf5
 v5:=Tryz.zeroValue5
 infoByte:=zb
 cellsByte:=zb
 sizeByte:=zb
 neB5:=by decide }
def Tryz.laysM171_ren:Go.Shelf.Ren:=⟨fun | 171=>62 | 243=>90 | 246=>126 | 283=>169 | 284=>170 | 285=>171 | 286=>172 | 129=>193 | 317=>192 | 318=>194 | 319=>195 | 320=>196 | 337=>211 | 338=>212 | n=>n,fun | 3=>3 | 9=>9 | 2=>2 | 4=>4 | 171=>204 | 0=>0 | 53=>198 | 37=>67 | 5=>5 | 173=>207 | 212=>233 | 51=>213 | 20=>20 | 213=>234 | 46=>175 | 232=>254 | 233=>255 | n=>n,fun | 17=>5 | 18=>6 | 19=>7 | n=>n⟩
theorem Tryz.laysM171:Go.Proofs.LaysM.n171 Tryz.prog Tryz.laysM171_ren:={
 mixed:=zb
 f129:=Tryz.func193.trans (aV some zb)
 f171:=Tryz.func62.trans (aV some zb)
 f243:=Tryz.func90.trans (aV some zb)
 f246:=Tryz.func126.trans (aV some zb)
 f283:=Tryz.func169.trans (aV some zb)
 f284:=Tryz.func170.trans (aV some zb)
 f285:=Tryz.func171.trans (aV some zb)
 f286:=Tryz.func172.trans (aV some zb)
 f317:=Tryz.func192.trans (aV some zb)
 f318:=Tryz.func194.trans (aV some zb)
 f319:=Tryz.func195.trans (aV some zb)
 f320:=Tryz.func196.trans (aV some zb)
 f337:=Tryz.func211.trans (aV some zb)
 f338:=Tryz.func212.trans (aV some zb)
 t0:=Tryz.underlying0
 a0:=Tryz.isAgg0
 z0:=Tryz.sizeOf0
 v0:=Tryz.zeroValue0
 t2:=Tryz.underlying2
 a2:=Tryz.isAgg2
 z2:=Tryz.sizeOf2
 v2:=Tryz.zeroValue2
 t3:=Tryz.underlying3
 a3:=Tryz.isAgg3
 z3:=Tryz.sizeOf3
 v3:=Tryz.zeroValue3
 t4:=Tryz.underlying4
 a4:=Tryz.isAgg4
 z4:=Tryz.sizeOf4
 v4:=Tryz.zeroValue4
 t5:=Tryz.underlying5
 a5:=Tryz.isAgg5
 z5:=Tryz.sizeOf5
 v5:=Tryz.zeroValue5
 t9:=Tryz.underlying9
 a9:=Tryz.isAgg9
 z9:=Tryz.sizeOf9
 v9:=Tryz.zeroValue9
 t20:=Tryz.underlying20
 a20:=Tryz.isAgg20
 z20:=Tryz.sizeOf20
 v20:=Tryz.zeroValue20
 t37:=Tryz.underlying67
 a37:=Tryz.isAgg67
 z37:=Tryz.sizeOf67
 v37:=Tryz.zeroValue67
 t46:=Tryz.underlying175
 a46:=Tryz.isAgg175
 z46:=Tryz.sizeOf175
 v46:=Tryz.zeroValue175
 t51:=Tryz.underlying213
 a51:=Tryz.isAgg213
 z51:=Tryz.sizeOf213
 v51:=Tryz.zeroValue213
 t53:=Tryz.underlying198
 a53:=Tryz.isAgg198
 z53:=Tryz.sizeOf198
 v53:=Tryz.zeroValue198
 t171:=Tryz.underlying204
 a171:=Tryz.isAgg204
 z171:=Tryz.sizeOf204
 v171:=Tryz.zeroValue204
 t173:=Tryz.underlying207
 a173:=Tryz.isAgg207
 z173:=Tryz.sizeOf207
 v173:=Tryz.zeroValue207
 t212:=Tryz.underlying233
 a212:=Tryz.isAgg233
 z212:=Tryz.sizeOf233
 v212:=Tryz.zeroValue233
 t213:=Tryz.underlying234
 a213:=Tryz.isAgg234
 z213:=Tryz.sizeOf234
 t232:=Tryz.underlying254
 a232:=Tryz.isAgg254
 z232:=Tryz.sizeOf254
 v232:=Tryz.zeroValue254
 t233:=Tryz.underlying255
 a233:=Tryz.isAgg255
 z233:=Tryz.sizeOf255
 v233:=Tryz.zeroValue255
 g17:=zb
 g18:=zb
 g19:=zb
 i0:=zb
 i2:=zb
 i3:=zb
 i4:=zb
 i5:=zb
 i9:=zb
 i20:=zb
 i37:=zb
 i46:=zb
 i51:=zb
 i53:=zb
 i171:=zb
 i173:=zb
 i212:=zb
 i232:=zb
 i233:=zb
 m17:=zb
 m18:=zb
 m19:=by kernel_rfl }
end Go.Proofs
namespace Go.Proofs.YtoaelidmmcbkfaaGreatDoor
open Go.RowKit Dw
def zBc (n:Int):BA:=⟨(Lib.itoa n).toArray⟩
theorem dec_size (u:Nat) (k:Nat) (h:u<10 ^ k) (h1:1≤k):(Lib.decDigits u).length≤k:=by
 induction u using Nat.strongRecOn generalizing k with
 | _ u ih =>
  rw [Lib.decDigits]
  by_cases hu:u<10
  ·rw [dif_pos hu];simpa using h1
  ·rw [dif_neg hu,cS]
   have hk:2≤k:=by
    rcases bK k 2 with h2 | h2
    ·have:k=1:=by omega
     subst this;omega
    ·exact h2
   have:=ih (u / 10) za (k - 1) (by
    have e:10 ^ k=10 ^ (k - 1)*10:=by rw [←aN];congr 1;omega
    rw [e] at h;exact Nat.div_lt_of_lt_mul (by rwa [aP])) za
   simp only [aM,dA];omega
theorem itoaB_size {n:Int} (h0:0≤n) (h:n<10000000000000000):(zBc n).size≤16:=by
 unfold zBc Lib.itoa;rw [aC za];have:=dec_size n.toNat 16 za za
 show (Lib.decDigits n.toNat).toArray.size≤16
 simpa using this
theorem zDj (a b:BA):(a++b).data.toList=a.data.toList++b.data.toList:=by simp [ByteArray.data_append]
def POK (w:World):Prop:=Lib.TabIs Tryz.prog w "internal/strconv.uint64pow10" .u64 Lib.pow10Tab
theorem POK.below {w w':World} (h:POK w) (hb:Below w.heap.size w w'):POK w':=by
 unfold POK Lib.TabIs World.var? at *;have hg:Tryz.prog.globalNamed "internal/strconv.uint64pow10" = some 5:=zb;rw [hg] at h ⊢;simp only [Option.bind_some] at h ⊢
 have hlt:5<w.heap.size:=by
  rcases bK 5 w.heap.size with h1 | h1
  ·exact h1
  ·rw [Array.getElem?_eq_none h1] at h;cases h
 rw [hb.block _ hlt];exact h
theorem itoa_c (n:Int) (w:World) (h0 : -9223372036854775808≤n) (h1:n≤9223372036854775807) (hP:POK w):Calls Tryz.prog 62 #[.int .i64 n] w (zAe (.string (zBc n)) w) :=
 (Any.strconv_Itoa Tryz.laysM171 n h0 h1 w hP).mono fun _ _ ⟨he,k,os,hw⟩=>⟨he,by rw [hw];exact below_regrown w (w.drawn+k) os⟩
def Bld (B b:Nat) (l:List UInt8) (w:World):Prop:=Lib.IsBuilderF 69 5 B b (Lib.byteCells l) w
def GivesWr (B b:Nat) (l:List UInt8) (n:Nat) (w:World) (e:Ending) (w':World):Prop :=
 e = .returned (.tuple #[.int .i64 (n:Int),.nilIface])∧Bld B b l w'∧Below B w w'∧Lib.OthersKept 5 (some b) w w'
theorem byteCells_app (l m:List UInt8):Lib.byteCells (l++m)=Lib.byteCells l++Lib.byteCells m:=by unfold Lib.byteCells;rw [dC]
theorem write_c (B b:Nat) (l:List UInt8) (s:BA) (w:World) (h:Bld B b l w) (hl:l.length+s.size≤140737488355328) (hB:B≤w.heap.size) :
  Calls Tryz.prog 22 #[.pointer (some ⟨b,0,none⟩),.string s] w (GivesWr B b (l++s.data.toList) s.size w) :=
 (Any.Builder_WriteString_k { Tryz.lays156 with } Tryz.Builder_Extra_156 B b (Lib.byteCells l) s w h (by rw [Lib.byteCells_length];exact hl) hB).mono fun _ _ ⟨he,hb,hbl,hk⟩=>⟨he,by
  show Lib.IsBuilderF _ _ _ _ _ _
  rw [byteCells_app];exact .inr hb,hbl,hk⟩
theorem bstr_c (B b:Nat) (l:List UInt8) (w:World) (h:Bld B b l w) (hB:B≤w.heap.size) :
  Calls Tryz.prog 25 #[.pointer (some ⟨b,0,none⟩)] w fun e w'=>e = .returned (.string ⟨l.toArray⟩)∧Below B w w' :=
 (Any.Builder_String_any_f Tryz.lays169 Tryz.Builder_Extra_169 B b l w h hB).mono fun _ _ ⟨he,_,hb⟩=>⟨he,hb⟩
theorem blen_c (B b:Nat) (l:List UInt8) (w:World) (h:Bld B b l w) :
  Calls Tryz.prog 24 #[.pointer (some ⟨b,0,none⟩)] w (zBb (.int .i64 (l.length:Int)) w) :=
 (Any.Builder_Len_f Tryz.lays170 B b (Lib.byteCells l) w h).mono fun _ _ ⟨he,hw⟩=>⟨by rw [he,Lib.byteCells_length],hw.symm⟩
theorem join_c (A:Option Addr) (c:Nat) (xs:List BA) (sep:BA) (w:World) (h:Strs w A xs) (hc:xs.length≤c) (hN:xs.length≤140737488355328)
  (hlen:(Lib.join (xs.map (·.data.toList)) sep.data.toList).length≤140737488355328) :
  Calls Tryz.prog 61 #[.slice A xs.length c,.string sep] w (zAe (.string ⟨(Lib.join (xs.map (·.data.toList)) sep.data.toList).toArray⟩) w):=by
 rcases bE xs.length with h0 | h0
 ·have hx:xs=[]:=cT h0
  subst hx;exact (Any.strings_Join_none Tryz.lays156 Tryz.Builder_Extra_156 A c sep w).mono fun _ _ ⟨he,hw⟩=>⟨he,hw▸bN _ _⟩
 ·obtain ⟨b,o,rfl,hb,hcc⟩:=h.at_ h0
  exact Any.strings_Join Tryz.lays156 Tryz.Builder_Extra_156 b o c xs sep w (fun j x hj=>by
   obtain ⟨hj',hx⟩:=List.getElem?_eq_some_iff.1 hj;rw [←hx];exact hcc j hj') hb hN hc hlen
theorem tail_len (sep:List UInt8):∀ (r:List (List UInt8)) (m:Nat),(∀ x∈r,x.length≤m)→(Lib.joinTail sep r).length≤r.length*(sep.length+m)
 | [],_,_=>by simp [Lib.joinTail]
 | x::r,m,h=>by
  have h1:=tail_len sep r m (fun y hy=>h y (aJ _ hy))
  have h2:=h x (aK ..)
  have e:(Lib.joinTail sep (x::r)).length=sep.length+x.length+(Lib.joinTail sep r).length:=by
   unfold Lib.joinTail;simp;omega
  rw [e,aM,Nat.succ_mul];omega
theorem join_len (sep:List UInt8) (xs:List (List UInt8)) (m:Nat) (h:∀ x∈xs,x.length≤m):(Lib.join xs sep).length≤xs.length*(sep.length+m):=by
 cases xs with
 | nil=>simp [Lib.join_nil]
 | cons x r =>
  rw [Lib.join_cons,cS,aM,Nat.succ_mul];have h1:=tail_len sep r m (fun y hy=>h y (aJ _ hy))
  have h2:=h x (aK ..);omega
def joinB (xs:List BA) (sep:BA):BA:=⟨(Lib.join (xs.map (·.data.toList)) sep.data.toList).toArray⟩
theorem joinB_size {xs:List BA} {sep:BA} {m:Nat} (h:∀ x∈xs,x.size≤m):(joinB xs sep).size≤xs.length*(sep.size+m):=by
 have h1:=join_len sep.data.toList (xs.map (·.data.toList)) m (fun x hx=>by
  obtain ⟨y,hy,rfl⟩:=List.mem_map.1 hx;have:=h y hy
  simpa using this)
 show (Lib.join (xs.map (·.data.toList)) sep.data.toList).toArray.size≤_
 simpa using h1
theorem joinB_c (A:Option Addr) (c:Nat) (xs:List BA) (sep:BA) (w:World) (h:Strs w A xs) (hc:xs.length≤c) (hN:xs.length≤140737488355328) (hlen:(joinB xs sep).size≤140737488355328) :
  Calls Tryz.prog 61 #[.slice A xs.length c,.string sep] w (zAe (.string (joinB xs sep)) w) :=
 join_c A c xs sep w h hc hN (by
  have:(Lib.join (xs.map (·.data.toList)) sep.data.toList).toArray.size≤140737488355328:=hlen
  simpa using this)
theorem zBy (a b:BA) (h:a.size+b.size≤1000000000):∀ W,(Op.stringOp .add a b).run Tryz.prog W = .ok (.string (a++b)) W:=fun W=>run_string_add_sum W _ _ za
theorem Bld.below {B b:Nat} {l:List UInt8} {w w':World} (h:Bld B b l w) (hb:Below w.heap.size w w'):Bld B b l w':=by
 unfold Bld Lib.IsBuilderF Lib.BuilderAtF at *
 rcases h with ⟨h1,v,h2,h3,h4⟩ | ⟨h1,v,h2,h3,h4⟩
 ·exact .inl ⟨h1,v,(hb.block _ (Array.getElem?_eq_some_iff.1 h2).1).trans h2,h3.kept (zCn hb none) (by cases hv:v.ownBlock with
  | none=>exact .inl rfl
  | some g=>exact .inr zg),h4⟩
 ·exact .inr ⟨h1,v,(hb.block _ (Array.getElem?_eq_some_iff.1 h2).1).trans h2,h3.kept (zCn hb none) (by cases hv:v.ownBlock with
  | none=>exact .inl rfl
  | some g=>exact .inr zg),h4⟩
end Go.Proofs.YtoaelidmmcbkfaaGreatDoor
