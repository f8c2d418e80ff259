/- Parts of the proof, joined: Package right: deeds in memory; the order of deeds; small tests. Packa. -/
import Derived.Test.YtoaelidmmcbkfaaGreatDoorSr04
import Derived.Shelf.Strings.Builder1
import Derived.Shelf.Strings.OnBuilder
import Derived.Shelf.Strings.BuilderF
import Derived.Shelf.Strings.BuilderK
import Derived.Shelf.LaysM
import Derived.Shelf.Strconv.Itoa3
import Derived.Lib.ItoaNum
import Derived.Lib.Join
import Derived.Laws.IdiomStrings
import Derived.Lib.QuietBelow
set_option maxRecDepth 100000
set_option maxHeartbeats 8000000
namespace Go.Proofs.YtoaelidmmcbkfaaGreatDoor
open Go.RowKit Dw
abbrev Ints:=Rd1 (fun n:Int=>Value.int .i64 n)
def cmpI (a b:Int):Int:=if a<b then -1 else if b<a then 1 else 0
theorem isNaN_c (a:Int) (w:World):Calls Tryz.prog 140 #[.int .i64 a] w (zAr (.bool false) w):=by
 have hb:(a != a)=false:=zd
 go_enter Tryz.func140,Tryz.ntmps140
 go_wp2;go_ret
 exact zAr.mk rfl rfl
theorem cmpI_c (a b:Int) (w:World):Calls Tryz.prog 106 #[.int .i64 a,.int .i64 b] w (zAr (.int .i64 (cmpI a b)) w):=by
 generalize hres:cmpI a b=res;have HR:=zq hres;clear hres
 by_cases h1:a<b
 ·have HS:Hid (res = -1):=by
   show res = -1
   rw [←HR.o];unfold cmpI;rw [aE h1]
  go_enter Tryz.func106,Tryz.ntmps106
  go_wp2_with (go_at_call 140;refine (isNaN_c _ _).mono ?_;rintro e w' ⟨rfl,rfl⟩)
  go_ret
  exact zAr.mk (zAC HS.o.symm) rfl
 ·by_cases h2:b<a
  ·have HS:Hid (res=1):=by
    show res=1
    rw [←HR.o];unfold cmpI;rw [aC h1,aE h2]
   go_enter Tryz.func106,Tryz.ntmps106
   go_wp2_with (go_at_call 140;refine (isNaN_c _ _).mono ?_;rintro e w' ⟨rfl,rfl⟩)
   go_ret
   exact zAr.mk (zAC HS.o.symm) rfl
  ·have HS:Hid (res=0):=by
    show res=0
    rw [←HR.o];unfold cmpI;rw [aC h1,aC h2]
   go_enter Tryz.func106,Tryz.ntmps106
   go_wp2_with (go_at_call 140;refine (isNaN_c _ _).mono ?_;rintro e w' ⟨rfl,rfl⟩)
   go_ret
   exact zAr.mk (zAC HS.o.symm) rfl
def orI:List Int→Int
 | []=>0
 | a::l=>if a=0 then orI l else a
theorem orI_at {l:List Int} {k:Nat} (hk:k<l.length) (hp:∀ j (h:j<l.length),j<k→l[j]=0) (h:l[k]≠0):orI l=l[k]:=by
 induction l generalizing k with
 | nil=>simp at hk
 | cons a t ih =>
  cases k with
  | zero=>simp at h;simp [orI,h]
  | succ k =>
   have h0:a=0:=hp 0 zd za;rw [orI,aE h0];exact ih (by simpa using hk) (fun j hj hjk=>hp (j+1) xg za) qj
theorem orI_none {l:List Int} (hp:∀ j (h:j<l.length),l[j]=0):orI l=0:=by
 induction l with
 | nil=>rfl
 | cons a t ih =>
  have h0:a=0:=hp 0 zd;rw [orI,aE h0];exact ih fun j hj=>hp (j+1) xg
def OrRel (w:World) (l:List Int) (m:Nat) (i:Value) (wr:World):Prop :=
 w=wr∧∃ k:Nat,k+m=l.length∧i = .int .i64 k∧∀ j (h:j<l.length),j<k→l[j]=0
theorem cmpOr_c (A:Option Addr) (c:Nat) (l:List Int) (w:World) (hn:l.length≤1000000) (h:Ints w A l) :
  Calls Tryz.prog 105 #[.slice A l.length c] w (zAr (.int .i64 (orI l)) w):=by
 generalize hres:orI l=res;have HR:=zq hres;clear hres
 go_enter Tryz.func105,Tryz.ntmps105
 go_wp2
 go_loopg [8] l.length (OrRel w l)
 case atStart=>exact ⟨rfl,0,za,rfl,fun j _ hj=>absurd hj za⟩
 case round =>
  obtain ⟨hw,k,hk,rfl,hpre⟩:=hrel;subst hw;have HK:=zq hk;have HP:=zq hpre;have hk1:k≤l.length:=za;clear hk hpre
  by_cases hlt:k<l.length
  ·obtain ⟨b,o,rfl,hb,hc⟩:=h.at_ za
   have hc0:=hc k hlt;clear hc
   by_cases hq:l[k]=0
   ·have hqb:(l[k] != 0)=false:=by simpa using hq
    have HQ:=zq hq;clear hq;go_wp2
    go_roundg (gk - 1)
    case measure=>have:=HK.o;omega
    case rel =>
     refine ⟨rfl,k+1,zl,zn,fun j hj hjk=>?_⟩
     rcases bO j k with h1 | h1
     ·exact HP.o j hj h1
     ·obtain rfl:j=k:=by omega
      exact HQ.o
   ·have hqb:(l[k] != 0)=true:=by simpa using hq
    have HQ:=zq hq;clear hq;go_wp2;go_ret
    exact zAr.mk (zAC (by rw [←HR.o,orI_at hlt HP.o HQ.o])) rfl
  ·go_wp2
   go_ret
   exact zAr.mk (zAC (by rw [←HR.o,orI_none fun j hj=>HP.o j hj za])) rfl
def cfS (x y:BA):Int:=Lib.compareBytes x.data.toList y.data.toList
theorem compare_less:∀ (a b:List UInt8),decide (Lib.compareBytes a b<0)=Op.bytesLess a b
 | [],[]=>by simp [Lib.compareBytes,Op.bytesLess]
 | [],_::_=>by simp [Lib.compareBytes,Op.bytesLess]
 | _::_,[]=>by simp [Lib.compareBytes,Op.bytesLess]
 | a::x,b::y=>by
  have ih:=compare_less x y;rw [Lib.compareBytes,Op.bytesLess]
  by_cases h1:a<b
  ·simp [h1]
  ·by_cases h2:b<a
   ·have h3:¬ a=b:=fun e=>by subst e;exact h1 h2
    simp [h1,h2,h3]
   ·have h3:a=b:=UInt8.le_antisymm (UInt8.not_lt.1 h2) (UInt8.not_lt.1 h1)
    subst h3;simp only [h1,dG];rw [ih];simp
theorem cfS_lt (x y:BA):decide (cfS x y<0)=slt x y:=by
 unfold cfS slt;rw [compare_less,Dw.toList_eq,Dw.toList_eq]
theorem compareS_c (x y:BA) (w:World):Calls Tryz.prog 107 #[.string x,.string y] w (zAr (.int .i64 (cfS x y)) w):=by
 have h:=Any.strings_Compare Tryz.lays106 x y w
 change Calls Tryz.prog 107 _ _ _ at h
 exact h.mono fun _ _ ⟨he,hw⟩=>⟨he,hw.symm⟩
def Shs (w:World) (A:Option Addr) (l:List Sh):Prop :=
 0<l.length→∃ b o:Nat,A=some ⟨b,o,none⟩∧∀ i (h:i<l.length),w.cell? ⟨b,o+i*3,none⟩=some (.string (l[i]).pt)∧w.cell? ⟨b,o+i*3+1,none⟩=some (.string (l[i]).nu)∧w.cell? ⟨b,o+i*3+2,none⟩=some (.string (l[i]).de)
theorem Shs.at_ {w:World} {A:Option Addr} {l:List Sh} (h:Shs w A l) (hl:0<l.length):∃ b o:Nat,A=some ⟨b,o,none⟩∧b<w.heap.size∧∀ i (h:i<l.length),w.cell? ⟨b,o+i*3,none⟩=some (.string (l[i]).pt)∧w.cell? ⟨b,o+i*3+1,none⟩=some (.string (l[i]).nu)∧w.cell? ⟨b,o+i*3+2,none⟩=some (.string (l[i]).de):=by
 obtain ⟨b,o,rfl,hc⟩:=h hl;exact ⟨b,o,rfl,World.block_lt_of_cell? w _ (hc 0 hl).1,hc⟩
theorem Shs.below {w w':World} {A:Option Addr} {l:List Sh} (h:Shs w A l) (hb:Below w.heap.size w w'):Shs w' A l:=fun hl=>by
 obtain ⟨b,o,rfl,hlt,hc⟩:=h.at_ hl;refine ⟨b,o,rfl,fun i hi=>?_⟩
 rw [hb.cell hlt,hb.cell hlt,hb.cell hlt];exact hc i hi
abbrev deC (d:De):Array Value:=#[.string d.id,.int .i64 d.day,.int .i64 d.kd,.string d.th,.string d.fr,.string d.to_,.string d.nu,.string d.de,.bool d.ex,.bool d.sb,.slice d.arA d.ar.length d.arc,.slice d.usA d.us.length d.usc,.int .i64 d.bg,.int .i64 d.en,.slice d.shA d.sh.length d.shc,.string d.ot]
abbrev deV (d:De):Value:=.agg (deC d)
structure DeOk (w:World) (d:De):Prop where
 ars:Ars w d.arA d.ar
 uses:Strs w d.usA d.us
 shs:Shs w d.shA d.sh
 lens:d.ar.length≤140737488355328∧d.us.length≤140737488355328∧d.sh.length≤140737488355328
 strs:d.id.size≤9223372036854775807∧d.th.size≤9223372036854775807∧d.fr.size≤9223372036854775807∧d.to_.size≤9223372036854775807∧d.nu.size≤9223372036854775807∧d.de.size≤9223372036854775807
 shz:∀ s∈d.sh,s.pt.size≤9223372036854775807∧s.nu.size≤9223372036854775807∧s.de.size≤9223372036854775807
theorem DeOk.below {w w':World} {d:De} (h:DeOk w d) (hb:Below w.heap.size w w'):DeOk w' d:=⟨h.ars.below hb,h.uses.below hb,h.shs.below hb,h.lens,h.strs,h.shz⟩
theorem isDay_c (n:Int) (w:World):Calls Tryz.prog 72 #[.int .i64 n] w (zAr (.bool (zCm n)) w):=by
 by_cases h1:0≤n
 ·by_cases h2:n≤200000
  ·have hv:zCm n=true:=by simp [zCm,h1,h2]
   rw [hv];have HV:=zq hv;clear hv
   go_enter Tryz.func72,Tryz.ntmps72
   go_wp2;go_ret
   exact zAr.mk rfl rfl
  ·have hv:zCm n=false:=by simp [zCm,h2]
   rw [hv];have HV:=zq hv;have h2':200000<n:=za;clear hv h2
   go_enter Tryz.func72,Tryz.ntmps72
   go_wp2;go_ret
   exact zAr.mk (zAu (cQ za)) rfl
 ·have hv:zCm n=false:=by simp [zCm,h1]
  rw [hv];have HV:=zq hv;have h1':n<0:=za;clear hv h1
  go_enter Tryz.func72,Tryz.ntmps72
  go_wp2;go_ret
  exact zAr.mk rfl rfl
def kindB (n:Int):Bool:=decide (1≤n)&&decide (n≤5)
theorem isKindD_c (n:Int) (w:World):Calls Tryz.prog 74 #[.int .i64 n] w (zAr (.bool (kindB n)) w):=by
 by_cases h1:1≤n
 ·by_cases h2:n≤5
  ·have hv:kindB n=true:=by simp [kindB,h1,h2]
   rw [hv];have HV:=zq hv;clear hv
   go_enter Tryz.func74,Tryz.ntmps74
   go_wp2;go_ret
   exact zAr.mk rfl rfl
  ·have hv:kindB n=false:=by simp [kindB,h2]
   rw [hv];have HV:=zq hv;have h2':5<n:=za;clear hv h2
   go_enter Tryz.func74,Tryz.ntmps74
   go_wp2;go_ret
   exact zAr.mk (zAu (cQ za)) rfl
 ·have hv:kindB n=false:=by simp [kindB,h1]
  rw [hv];have HV:=zq hv;have h1':n<1:=za;clear hv h1
  go_enter Tryz.func74,Tryz.ntmps74
  go_wp2;go_ret
  exact zAr.mk rfl rfl
def deCmp (a b:De):Int:=orI [cmpI a.day b.day,cfS a.id b.id]
theorem deCmp_lt (a b:De):decide (deCmp a b<0)=deLt a b:=by
 unfold deCmp deLt cmpI
 rcases Int.lt_trichotomy a.day b.day with h | h | h
 ·simp [h,orI]
 ·rw [h]
  have e1:=cfS_lt a.id b.id;rw [←e1]
  by_cases hz:cfS a.id b.id=0
  ·simp [orI,hz]
  ·simp [orI,hz]
 ·have h1:¬ a.day<b.day:=by omega
  have h2:¬ a.day=b.day:=za;simp [orI,h,h1,h2]
theorem ints_twoR (w:World) (a b:Int) (t:TypeId):Ints (w.alloc (.cells #[.int .i64 a,.int .i64 b] t)) (some ⟨w.heap.size,0,none⟩) [a,b]:=fun _=>by
 refine ⟨w.heap.size,0,rfl,fun i hi=>?_⟩
 have h2:i=0∨i=1:=by simp at hi;omega
 rcases h2 with rfl | rfl
 ·exact (Bx.new w _ t).cell rfl
 ·exact (Bx.new w _ t).cell rfl
theorem compareDeeds_c (a b:De) (w:World):Calls Tryz.prog 73 #[deV a,deV b] w (zAd (.int .i64 (deCmp a b)) w):=by
 have HX:Hid (Bx ((w.alloc (.cells (deC a) 47)).alloc (.cells (deC b) 47)) w.heap.size (deC a) 47):=(Bx.new _ _ _).alloc _;have HY:Hid (Bx ((w.alloc (.cells (deC a) 47)).alloc (.cells (deC b) 47)) (w.heap.size+1) (deC b) 47):=Bx.new1 _ _ _ _;have HB:Hid (Below w.heap.size w ((w.alloc (.cells (deC a) 47)).alloc (.cells (deC b) 47))):=((bS w.heap.size w).alloc (aB _) _).alloc zd _;obtain ⟨W,hW⟩:∃ W,W=(w.alloc (.cells (deC a) 47)).alloc (.cells (deC b) 47):=⟨_,rfl⟩;rw [←hW] at HX HY HB;unfold deCmp;have HC:=zq (fun W'=>cmpI_c a.day b.day W')
 have HS:=zq (fun W'=>compareS_c a.id b.id W')
 go_enter Tryz.func73,Tryz.ntmps73
 go_wp2_with fail
 rw [←hW];clear hW;have x0:=HX.o.c 0 rfl;have x1:=HX.o.c 1 rfl;have y0:=HY.o.c 0 rfl;have y1:=HY.o.c 1 rfl;generalize cmpI a.day b.day=z1 at *;generalize cfS a.id b.id=z2 at *
 have ho:∀ W':World,Calls Tryz.prog 105 #[.slice (some ⟨W'.heap.size,0,none⟩) 2 2] (W'.alloc (.cells #[.int .i64 z1,.int .i64 z2] 3)).drew (zAr (.int .i64 (orI [z1,z2])) (W'.alloc (.cells #[.int .i64 z1,.int .i64 z2] 3)).drew) :=
  fun W'=>cmpOr_c (some ⟨W'.heap.size,0,none⟩) 2 [z1,z2] _ zd (Rd1.drew (ints_twoR W' z1 z2 _))
 have HO:=zq ho;clear ho;refine wp_region_still_tail 10 zb zb ?_
 simp only [bL,List.take_zero,List.drop_succ_cons,cT]
 iterate 4 still_step
 still_call ((HC.o _).mono (fun _ _ h=>⟨h.1,h.2.symm⟩))
 iterate 4 still_step
 still_call ((HS.o _).mono (fun _ _ h=>⟨h.1,h.2.symm⟩))
 refine wpStill_nil ?_
 change wpList _ _ _ _ _ W.drew
 clear x0 x1 y0 y1 HC HS
 go_wp2_with fail
 with_reducible refine (HO.o W).mono ?_
 rintro e w3 ⟨rfl,rfl⟩;have HB3:Hid (Below w.heap.size w (W.alloc (.cells #[.int .i64 z1,.int .i64 z2] 3)).drew):=zAc (HB.o.alloc HB.o.size _) 1;go_wp2;go_ret
 exact zAd.mk rfl HB3.o
def fldC (k:Int):Array Value :=
 if k=1 then #[.bool true,.bool false,.bool false,.bool false,.bool false,.bool false,.bool false,.bool true,.bool false]
 else if k=2 then #[.bool true,.bool true,.bool true,.bool true,.bool false,.bool true,.bool true,.bool false,.bool false]
 else if k=3 then #[.bool true,.bool true,.bool true,.bool false,.bool true,.bool true,.bool true,.bool false,.bool false]
 else if k=4 then #[.bool false,.bool false,.bool false,.bool false,.bool false,.bool false,.bool false,.bool false,.bool true]
 else #[.bool false,.bool true,.bool false,.bool false,.bool false,.bool false,.bool false,.bool true,.bool false]
theorem zCM (k:Int) (w:World) (hk:1≤k∧k≤5):Calls Tryz.prog 32 #[.int .i64 k] w (zAd (.agg (fldC k)) w):=by
 have h5:k=1∨k=2∨k=3∨k=4∨k=5:=za
 rcases h5 with rfl | rfl | rfl | rfl | rfl
 all_goals
  clear hk
  go_enter Tryz.func32,Tryz.ntmps32
  go_wp2;refine dD (v:=.agg (fldC _)) (by simp [results,Tryz.results32,go_sem];rfl) rfl ⟨rfl,?_⟩
  exact (bS w.heap.size w).alloc (aB _) _
def GivesPos (M:List Bool) (w:World) (e:Ending) (w':World):Prop:=∃ z:Int,e = .returned (.int .i64 z)∧decide ((0:Int)≤z)=M.any id∧w=w'
def IdxRelB (w:World) (M:List Bool) (m:Nat) (i:Value) (wr:World):Prop :=
 wr=w∧∃ k:Nat,k+m=M.length∧i = .int .i64 k∧(M.take k).any id=false
theorem indexB_c (A:Option Addr) (c:Nat) (M:List Bool) (w:World) (hn:M.length≤1000000) (h:Rd1 Value.bool w A M) :
  Calls Tryz.prog 206 #[.slice A M.length c,.bool true] w (GivesPos M w):=by
 go_enter Tryz.func206,Tryz.ntmps206
 go_wp2
 go_loopg [8] M.length (IdxRelB w M)
 case atStart=>exact ⟨rfl,0,za,rfl,rfl⟩
 case round =>
  obtain ⟨hw,k,hk,rfl,hpre⟩:=hrel;subst hw;have HK:=zq hk;have HP:=zq hpre;have hk1:k≤M.length:=za;clear hk hpre
  by_cases hlt:k<M.length
  ·obtain ⟨b,o,rfl,hb,hc⟩:=h.at_ za
   have hc0:=hc k hlt;clear hc;have HE:Hid (M.take (k+1)=M.take k++[M[k]]):=bD hlt;have HM:Hid (M[k]=true→M.any id=true):=fun e=>List.any_eq_true.2 ⟨M[k],aI hlt,e⟩
   obtain ⟨x,hx⟩:∃ x,M[k]=x:=⟨_,rfl⟩;rw [hx] at hc0 HE HM;clear hx
   cases x with
   | true =>
    go_wp2;go_ret
    exact ⟨(k:Int),rfl,by rw [HM.o trivial];exact cP za,rfl⟩
   | false =>
    go_wp2
    go_roundg (gk - 1)
    case measure=>have:=HK.o;omega
    case rel=>exact ⟨rfl,k+1,zl,zn,by rw [HE.o,dH,HP.o];rfl⟩
  ·have HA:Hid (M.any id=false):=by
    show _=_
    have:=HP.o
    rwa [cS za] at this
   go_wp2;go_ret
   exact ⟨-1,rfl,by rw [HA.o];rfl,rfl⟩
theorem some_c (A:Option Addr) (c:Nat) (M:List Bool) (w:World) (hn:M.length≤1000000) (h:Rd1 Value.bool w A M) :
  Calls Tryz.prog 151 #[.slice A M.length c] w (zAr (.bool (M.any id)) w):=by
 have hC:∀ W,Rd1 Value.bool W A M→Calls Tryz.prog 185 #[.slice A M.length c,.bool true] W (zAr (.bool (M.any id)) W):=fun W hW=>by
  go_enter Tryz.func185,Tryz.ntmps185
  go_wp2_with fail
  with_reducible refine (indexB_c A c M W hn hW).mono ?_
  rintro e w' ⟨z,rfl,hz,rfl⟩;have HZ:=zq hz;clear hz;go_wp2;go_ret
  exact zAr.mk (zAu HZ.o) rfl
 have HC:=zq (hC w h);clear hC
 go_enter Tryz.func151,Tryz.ntmps151
 go_wp2_with fail
 with_reducible refine HC.o.mono ?_
 rintro e w' ⟨rfl,rfl⟩;go_wp2;go_ret
 exact zAr.mk rfl rfl
def UsesRel (w:World) (us l:List BA) (m:Nat) (i:Value) (wr:World):Prop :=
 (∃ n,wr=w.drewN n)∧∃ k:Nat,k+m=l.length∧i = .int .i64 k∧∀ j,j<k→zBH us l j=none
theorem useF_hit {us l:List BA} {k:Nat} {f:Int} (hk:k<l.length) (hp:∀ j,j<k→zBH us l j=none) (h:zBH us l k=some f):useF us l=f:=by
 unfold useF;rw [zAZ hk hp h]
theorem useF_none {us l:List BA} (hp:∀ j,j<l.length→zBH us l j=none):useF us l=0:=by
 unfold useF;rw [zBk hp]
theorem zCH {l:List BA} {i:Nat} (h:i<l.length):usAt l i=l[i]:=by simp [usAt,List.getD,h]
theorem checkUses_c (A A2:Option Addr) (c c2:Nat) (us l:List BA) (w:World) (hu:us.length≤1000000) (hn:l.length≤140737488355328) (h:Strs w A us) (h2:Strs w A2 l) :
  Calls Tryz.prog 152 #[.slice A us.length c,.slice A2 l.length c2] w (zBx (.int .i64 (useF us l)) w):=by
 have HC:=zq (fun W s (x:Strs W A us)=>containsS_c A c us s W hu x)
 go_enter Tryz.func152,Tryz.ntmps152
 go_wp2
 go_loopg [9] l.length (UsesRel w us l)
 case atStart=>exact ⟨⟨0,rfl⟩,0,za,rfl,fun j hj=>absurd hj za⟩
 case round =>
  obtain ⟨⟨nd,hw⟩,k,hkm,rfl,hpre⟩:=hrel;subst hw;have HM:=zq hkm;have HP:=zq hpre;clear hkm hpre
  by_cases hlt:k<l.length
  ·obtain ⟨b,o,hA,hb,hc⟩:=h2.at_ za
   subst hA;have hc0:=hc k hlt;have HCL:=zq hc;clear hc;have e0:usAt l k=l[k]:=zCH hlt
   go_wp2_with fail
   with_reducible refine (HC.o _ _ (h.drewN nd)).mono ?_
   rintro e w' ⟨rfl,rfl⟩
   cases hm:memS us l[k] with
   | false =>
    have HF:Hid (useF us l=5):=useF_hit hlt HP.o (by unfold zBH;rw [e0,aE hm])
    clear hm e0;go_wp2;go_ret
    exact zBx.mk (zAC HF.o.symm) ⟨nd,rfl⟩
   | true =>
    rcases bH k with h0 | h0
    ·subst h0
     have HF:Hid (zBH us l 0=none):=by
      show _=_
      unfold zBH;rw [e0,aC (by rw [hm];simp),aC za]
     clear hm e0;go_wp2
     go_roundg (gk - 1)
     case measure=>have:=HM.o;omega
     case rel=>exact ⟨⟨nd,rfl⟩,1,yp,zn,fun j hj=>by
      have e:j=0:=za;subst e;exact HF.o⟩
    ·have hcp:=HCL.o (k - 1) za
     have hd:decide ((0:Int)<(k:Int))=true:=zg;have e1:usAt l (k - 1)=l[k - 1]'(by omega):=zCH za
     cases hle:sle l[k] (l[k - 1]'(by omega)) with
     | true =>
      have HF:Hid (useF us l=8):=useF_hit hlt HP.o (by unfold zBH;rw [e0,e1,aC (by rw [hm];simp),aE ⟨h0,hle⟩])
      have hleb:=hle;unfold sle at hleb;clear hm e0 e1 hle;go_wp2;go_ret
      exact zBx.mk (zAC HF.o.symm) ⟨nd,rfl⟩
     | false =>
      have HF:Hid (zBH us l k=none):=by
       show _=_
       unfold zBH;rw [e0,e1,aC (by rw [hm];simp),aC (by rintro ⟨_,h9⟩;rw [hle] at h9;cases h9)]
      have hleb:=hle;unfold sle at hleb;clear hm e0 e1 hle;go_wp2
      go_roundg (gk - 1)
      case measure=>have:=HM.o;omega
      case rel =>
       refine ⟨⟨nd,rfl⟩,k+1,yp,zn,fun j hj=>?_⟩
       rcases bO j k with h1 | h1
       ·exact HP.o j h1
       ·have e:j=k:=by omega
        subst e;exact HF.o
  ·have HF:Hid (useF us l=0):=useF_none fun j hj=>HP.o j za
   go_wp2;go_ret
   exact zBx.mk (zAC HF.o.symm) ⟨nd,rfl⟩
def ptIs (fr:BA) (s:Sh):Bool:=decide (s.pt=fr)
def ShIx (w:World) (l:List Sh) (fr:BA) (m:Nat) (i:Value) (wr:World):Prop :=
 Below w.heap.size w wr∧∃ k:Nat,k+m=l.length∧i = .int .i64 k∧(l.take k).any (ptIs fr)=false
def GivesPosB (t:Bool) (w:World) (e:Ending) (w':World):Prop:=∃ z:Int,e = .returned (.int .i64 z)∧decide ((0:Int)≤z)=t∧Below w.heap.size w w'
theorem ptIs_c (s:Sh) (p:Nat) (fr:BA) (w:World) (hp:w.cell? ⟨p,4,none⟩=some (.string fr)) :
  Calls Tryz.prog 155 #[.agg #[.string s.pt,.string s.nu,.string s.de],.pointer (some ⟨p,0,none⟩)] w (zAd (.bool (ptIs fr s)) w):=by
 have hpl:p<w.heap.size:=World.block_lt_of_cell? w _ hp
 by_cases h:s.pt=fr
 ·have hb:=zAy h
  have hv:ptIs fr s=true:=by unfold ptIs;exact cP h
  rw [hv];have HV:=zq hv;clear hv h
  go_enter Tryz.func155,Tryz.ntmps155
  go_wp2;go_ret
  exact zAd.mk rfl ((bS w.heap.size w).alloc (aB _) _)
 ·have hb:=zAo h
  have hv:ptIs fr s=false:=by unfold ptIs;exact cQ h
  rw [hv];have HV:=zq hv;clear hv h
  go_enter Tryz.func155,Tryz.ntmps155
  go_wp2;go_ret
  exact zAd.mk rfl ((bS w.heap.size w).alloc (aB _) _)
theorem indexSh_c (A:Option Addr) (c p:Nat) (l:List Sh) (fr:BA) (w:World) (hn:l.length≤1000000) (h:Shs w A l) (hp:w.cell? ⟨p,4,none⟩=some (.string fr)) :
  Calls Tryz.prog 188 #[.slice A l.length c,.func (.func 155) #[] #[.pointer (some ⟨p,0,none⟩)]] w (GivesPosB (l.any (ptIs fr)) w):=by
 have hpl:p<w.heap.size:=World.block_lt_of_cell? w _ hp
 go_enter Tryz.func188,Tryz.ntmps188
 go_wp2
 go_loopg [8] l.length (ShIx w l fr)
 case atStart=>exact ⟨bS _ _,0,za,rfl,rfl⟩
 case round =>
  obtain ⟨hbw,k,hk,rfl,hpre⟩:=hrel;have HK:=zq hk;have HP:=zq hpre;have HBW:=zq hbw;clear hk hpre hbw
  by_cases hlt:k<l.length
  ·obtain ⟨b,o,hA,hb,hc⟩:=(h.below HBW.o).at_ za
   subst hA;obtain ⟨c0,c1,c2⟩:=hc k hlt;clear hc;have HE:Hid (l.take (k+1)=l.take k++[l[k]]):=bD hlt;have HM:Hid (ptIs fr l[k]=true→l.any (ptIs fr)=true):=fun e=>List.any_eq_true.2 ⟨l[k],aI hlt,e⟩
   have hcall:=ptIs_c l[k] p fr wr ((HBW.o.cell (p:=⟨p,4,none⟩) hpl).trans hp);have HCALL:=zq hcall;clear hcall
   go_wp2_with fail
   with_reducible refine HCALL.o.mono ?_
   rintro e w2 ⟨rfl,hb2⟩;have HB2:=zq (zAb HBW.o hb2);clear hb2 HCALL c0 c1 c2
   cases hx:ptIs fr l[k] with
   | true =>
    have HM2:=zq (HM.o hx);clear hx;go_wp2;go_ret
    exact ⟨(k:Int),rfl,by rw [HM2.o];exact cP za,HB2.o⟩
   | false =>
    have HX:=zq hx;clear hx;go_wp2
    go_roundg (gk - 1)
    case measure=>have:=HK.o;omega
    case rel=>exact ⟨HB2.o,k+1,zl,zn,by rw [HE.o,dH,HP.o];simp [HX.o]⟩
  ·have HA:Hid (l.any (ptIs fr)=false):=by
    show _=_
    have:=HP.o
    rwa [cS za] at this
   go_wp2;go_ret
   exact ⟨-1,rfl,by rw [HA.o];rfl,HBW.o⟩
theorem containsSh_c (A:Option Addr) (c p:Nat) (l:List Sh) (fr:BA) (w:World) (hn:l.length≤1000000) (h:Shs w A l) (hp:w.cell? ⟨p,4,none⟩=some (.string fr)) :
  Calls Tryz.prog 154 #[.slice A l.length c,.func (.func 155) #[] #[.pointer (some ⟨p,0,none⟩)]] w (zAd (.bool (l.any (ptIs fr))) w):=by
 go_enter Tryz.func154,Tryz.ntmps154
 go_wp2_with fail
 refine (indexSh_c A c p l fr w hn h hp).mono ?_
 rintro e w1 ⟨z,rfl,hz,hb⟩;have HZ:=zq hz;clear hz;go_wp2;go_ret
 exact zAd.mk (zAu HZ.o) hb
def zDG:BA:=⟨#[97,98,99,100,101,102,103,104,105,106,107,108,109,110,111,112,113,114,115,116,117,118,119,120,121,122,48,49,50,51,52,53,54,55,56,57,45]⟩
theorem cut_okB (c:UInt8):zDG.data.toList.contains c=okB c:=by
 have h:∀ n:Nat,n<256→zDG.data.toList.contains (UInt8.ofNat n)=okB (UInt8.ofNat n):=qx;have:=h c.toNat c.toNat_lt
 simpa using this
theorem zCz {p:UInt8→Bool}:∀ {l:List UInt8} {b:UInt8},b∈l→p b=false→b∈l.dropWhile p
 | [],_,h,_=>by simp at h
 | a::t,b,h,hb=>by
  rw [List.dropWhile_cons]
  cases ha:p a with
  | false=>simpa using h
  | true =>
   simp only [if_true]
   rcases List.mem_cons.1 h with rfl | h
   ·rw [ha] at hb;cases hb
   ·exact zCz h hb
theorem zEj {p:UInt8→Bool}:∀ {l:List UInt8},l.all p=true→l.dropWhile p=[]
 | [],_=>rfl
 | a::t,h=>by
  rw [List.all_cons,dA] at h;rw [List.dropWhile_cons,h.1]
  simpa using zEj h.2
theorem trim_empty (l:List UInt8):(Lib.trimS l zDG.data.toList).isEmpty=l.all okB:=by
 have hp:(fun b=>zDG.data.toList.contains b)=okB:=funext cut_okB
 cases ha:l.all okB with
 | true =>
  have:Lib.trimS l zDG.data.toList=[]:=by
   unfold Lib.trimS Lib.trimLeftS Lib.trimRightS;rw [hp,zEj (l:=l.reverse) (by rw [List.all_reverse];exact ha)]
   rfl
  rw [this];rfl
 | false =>
  obtain ⟨b,hb,hn⟩:=List.all_eq_false.1 ha;have hn':okB b=false:=by simpa using hn
  have:b∈Lib.trimS l zDG.data.toList:=by
   unfold Lib.trimS Lib.trimLeftS Lib.trimRightS;rw [hp];exact zCz (List.mem_reverse.2 (zCz (List.mem_reverse.2 hb) hn')) hn'
  cases hs:Lib.trimS l zDG.data.toList with
  | nil=>rw [hs] at this;simp at this
  | cons a t=>rfl
theorem trimS_c (s:BA) (w:World) (hs:s.size≤9223372036854775807) :
  Calls Tryz.prog 67 #[.string s,.string zDG] w (zAd (.string ⟨(Lib.trimS s.data.toList zDG.data.toList).toArray⟩) w) :=
 Any.strings_Trim_laid Tryz.lays160 zb s zDG w hs zc (ascii_of_all qx)
theorem soundIsName_c (s:BA) (w:World) (hs:s.size≤9223372036854775807) :
  Calls Tryz.prog 71 #[.string s] w (zAd (.bool (zBA s)) w):=by
 generalize hres:zBA s=res;have HR:=zq hres;clear hres
 by_cases h1:1≤s.size
 ·by_cases h2:s.size≤40
  ·by_cases h3:97≤(s[0]'h1).toNat
   ·by_cases h4:(s[0]'h1).toNat≤122
    ·have hall:(⟨(Lib.trimS s.data.toList zDG.data.toList).toArray⟩:BA).toList.isEmpty=res:=by
      rw [←HR.o,isNm_all h1 h2 h3 h4,ByteArray.toList_mk,trim_empty]
     have hcon:=trimS_c s w hs;generalize (⟨(Lib.trimS s.data.toList zDG.data.toList).toArray⟩:BA)=r at hall hcon;have HC:=zq hcon;have HA:=zq hall;clear hcon hall
     go_enter Tryz.func71,Tryz.ntmps71
     go_wp2_with fail
     refine HC.o.mono ?_
     rintro e w' ⟨rfl,hB⟩;go_wp2;go_ret
     exact zAd.mk (zAu HA.o) hB
    ·have hres:res=false:=by
      rw [←HR.o];unfold zBA;rw [zCB s h1];simp [h4]
     have HS:=zq hres;clear hres
     go_enter Tryz.func71,Tryz.ntmps71
     go_wp2_with fail
     go_ret
     exact zAd.mk (zAu HS.o.symm) (bS _ _)
   ·have hres:res=false:=by
     rw [←HR.o];unfold zBA;rw [zCB s h1];simp [h3]
    have HS:=zq hres;clear hres
    go_enter Tryz.func71,Tryz.ntmps71
    go_wp2_with fail
    go_ret
    exact zAd.mk (zAu HS.o.symm) (bS _ _)
  ·have hres:res=false:=by
    rw [←HR.o];unfold zBA;simp [h2]
   have HS:=zq hres;clear hres
   go_enter Tryz.func71,Tryz.ntmps71
   go_wp2_with fail
   go_ret
   exact zAd.mk (zAu HS.o.symm) (bS _ _)
 ·have hres:res=false:=by
   rw [←HR.o];unfold zBA;simp [h1]
  have HS:=zq hres;clear hres
  go_enter Tryz.func71,Tryz.ntmps71
  go_wp2_with fail
  go_ret
  exact zAd.mk (zAu HS.o.symm) (bS _ _)
theorem zCp (s:BA) (w:World) (hs:s.size≤9223372036854775807) :
  Calls Tryz.prog 42 #[.string s] w (zAd (.bool (zBA s)) w):=by
 go_enter Tryz.func42,Tryz.ntmps42
 go_wp2_with fail
 refine (soundIsName_c s w hs).mono ?_
 rintro e w' ⟨rfl,hB⟩;go_wp2;go_ret
 exact zAd.mk rfl hB
theorem Bx.set {w:World} {g:Nat} {cs:Array Value} {T:TypeId} (h:Bx w g cs T) (i:Nat) (v:Value):Bx (w.setCell ⟨g,i,none⟩ v) g (cs.setIfInBounds i v) T:=by
 have h':w.heap[g]?=some (.cells cs T (0,0)):=h
 show (w.setCell ⟨g,i,none⟩ v).heap[g]?=_
 simp [World.setCell,Array.getElem?_modify,h']
theorem Bx.far {w:World} {g:Nat} {cs:Array Value} {T:TypeId} (h:Bx w g cs T) {p:Addr} (hp:g≠p.block) (v:Value):Bx (w.setCell p v) g cs T:=(cH w p v g hp).trans h
abbrev rdC (ng:Bool) (A:Option Addr) (c n:Nat) (A2:Option Addr) (c2 d:Nat):Array Value:=#[.bool ng,.slice A (zAe B32 n).length c,.slice A2 (zAe B32 d).length c2]
structure ShSt (w:World) (d:De) (g:Nat) (A:Option Addr) (c:Nat) (A2:Option Addr) (c2:Nat) (pr:Nat×Nat) (W:World):Prop where
 bel:Below w.heap.size w W
 box:Bx W w.heap.size (deC d) 47
 sum:Bx W g (rdC false A c pr.1 A2 c2 pr.2) 158
 n1:Nt W A c pr.1
 n2:Nt W A2 c2 pr.2
 gt:w.heap.size<g
section
variable {w W W':World} {d:De} {g:Nat} {A A2:Option Addr} {c c2:Nat} {pr:Nat×Nat}
theorem ShSt.below (h:ShSt w d g A c A2 c2 pr W) (hb:Below W.heap.size W W'):ShSt w d g A c A2 c2 pr W' :=
 ⟨zAb h.bel hb,h.box.below hb,h.sum.below hb,h.n1.below hb,h.n2.below hb,h.gt⟩
theorem ShSt.drewN (h:ShSt w d g A c A2 c2 pr W) (n:Nat):ShSt w d g A c A2 c2 pr (W.drewN n) :=
 ⟨zAc h.bel n,h.box,h.sum,h.n1.drewN n,h.n2.drewN n,h.gt⟩
theorem ShSt.alloc (h:ShSt w d g A c A2 c2 pr W) (o:Obj):ShSt w d g A c A2 c2 pr (W.alloc o) :=
 h.below ((bS _ _).alloc (aB _) o)
theorem ShSt.store (h:ShSt w d g A c A2 c2 pr W) {A' A2':Option Addr} {c' c2':Nat} {pr':Nat×Nat} (h1:Nt W A' c' pr'.1) (h2:Nt W A2' c2' pr'.2) :
  ShSt w d g A' c' A2' c2' pr' (((W.setCell ⟨g,0,none⟩ (.bool false)).setCell ⟨g,1,none⟩ (.slice A' (zAe B32 pr'.1).length c')).setCell ⟨g,2,none⟩ (.slice A2' (zAe B32 pr'.2).length c2')):=by
 have hg:=h.gt;obtain ⟨k0,k1,k2⟩:=h.sum.t;refine ⟨((h.bel.setCell zg _).setCell zg _).setCell zg _,((h.box.far zg _).far zg _).far zg _,?_,h1.set3 k0 k1 k2 (nb_ _) (ns_ _ _ _) (ns_ _ _ _) _ _ _,h2.set3 k0 k1 k2 (nb_ _) (ns_ _ _ _) (ns_ _ _ _) _ _ _,hg⟩
 exact ((h.sum.set 0 _).set 1 _).set 2 _
theorem ShSt.shs (h:ShSt w d g A c A2 c2 pr W) (hd:DeOk w d):Shs W d.shA d.sh:=hd.shs.below h.bel
end
theorem sumP_zero (l:List Sh):zCY l 0=(0,1):=rfl
theorem sumP_succ {l:List Sh} {k:Nat} (h:k<l.length):zCY l (k+1)=addP (zCY l k) (zAK (zBh l[k].nu),zAK l[k].de):=by
 unfold zCY;rw [bD h,List.foldl_append]
 rfl
def ShLen (p:Nat×Nat) (k:Nat):Prop:=(zAe B32 p.1).length≤4001*k+1∧(zAe B32 p.2).length≤4001*k+1∧0<p.2
theorem shLen_succ {p:Nat×Nat} {k n d:Nat} (h:ShLen p k) (hn:(zAe B32 n).length≤2000) (hd:(zAe B32 d).length≤2000) (hd0:0<d):ShLen (addP p (n,d)) (k+1):=by
 obtain ⟨h1,h2,h3⟩:=h;have e1:=len_mul p.1 d;have e2:=len_mul n p.2;have e3:=len_add (p.1*d) (n*p.2);have e4:=len_mul p.2 d;have hp:0<p.2*d:=Nat.mul_pos h3 hd0;have f1:=zAL zAJ (Nat.div_le_self (p.1*d+n*p.2) (Nat.gcd (p.1*d+n*p.2) (p.2*d)));have f2:=zAL zAJ (Nat.div_le_self (p.2*d) (Nat.gcd (p.1*d+n*p.2) (p.2*d)));refine ⟨?_,?_,Nat.div_pos (Nat.le_of_dvd hp (Nat.gcd_dvd_right _ _)) (dE _ hp)⟩
 ·show (zAe B32 ((p.1*d+n*p.2) / Nat.gcd (p.1*d+n*p.2) (p.2*d))).length≤_
  omega
 ·show (zAe B32 (p.2*d / Nat.gcd (p.1*d+n*p.2) (p.2*d))).length≤_
  omega
theorem zDO {l:List Sh} {i:Nat} (h:i<l.length):ptAt l i=l[i].pt:=by simp [ptAt,List.getD,h]
theorem shD_of {l:List Sh} {i:Nat} (h:i<l.length):l.getD i default=l[i]:=by simp [List.getD,h]
theorem ratF_zero {nu de:BA} (h:ratF nu de=0):zCN (zBh nu)=true∧zCN de=true∧de≠zCJ∧(zBh nu).size≤2000∧de.size≤2000:=by
 unfold ratF at h
 split at h
 ·cases h
 ·next h1 =>
  split at h
  ·cases h
  ·next h2 =>
   refine ⟨?_,?_,?_,za,za⟩
   ·cases hq:zCN (zBh nu) with
    | true=>rfl
    | false=>exact absurd (.inl hq) h1
   ·cases hq:zCN de with
    | true=>rfl
    | false=>exact absurd (.inr (.inr (.inl hq))) h1
   ·exact fun e=>h1 (.inr (.inr (.inr e)))
theorem absN_size (s:BA):(zBh s).size≤s.size:=by
 show (absL s).toArray.size≤_
 unfold absL;have e:s.data.toList.length=s.size:=Array.length_toList
 split
 ·rw [List.size_toArray,List.length_tail];omega
 ·rw [List.size_toArray];omega
theorem posB_sgn (nu:BA):decide (sgnI (sgB nu) (zAK (zBh nu))≤0) = !posB nu:=by
 unfold sgnI sgB posB
 cases zDo nu<;>by_cases h:zAK (zBh nu)=0<;>simp [h]
theorem posB_sg {nu:BA} (h:posB nu=true):sgB nu=false:=by
 unfold posB at h;unfold sgB
 cases hn:zDo nu<;>simp_all
def ShRel (w:World) (d:De) (g:Nat) (m:Nat) (i:Value) (wr:World):Prop :=
 ∃ A c A2 c2 k,ShSt w d g A c A2 c2 (zCY d.sh k) wr∧ShLen (zCY d.sh k) k∧k+m=d.sh.length∧i = .int .i64 (k:Nat)∧∀ j,j<k→zBe d.sh j=none
def zCF (d:De):Int:=if shF d.kd d.sh≠0 then shF d.kd d.sh else if d.kd=5∧(d.sh.any fun s=>decide (s.pt=d.fr))=true then 12 else 0
theorem whole0_c (w:World):Calls Tryz.prog 112 #[.int .i64 0] w (GivesR false 0 1 w):=Whole_c 0 w za
theorem whole1_c (w:World):Calls Tryz.prog 112 #[.int .i64 1] w (GivesR false 1 1 w):=Whole_c 1 w za
def shEnd (d:De):Int:=if (zCY d.sh d.sh.length).2<(zCY d.sh d.sh.length).1∨(d.kd=5∧(zCY d.sh d.sh.length).1≠(zCY d.sh d.sh.length).2) then 1 else if d.kd=5∧(d.sh.any (ptIs d.fr))=true then 12 else 0
def shRest (s:Sh):Option Int:=if ratF s.nu s.de≠0 then some (ratF s.nu s.de) else if posB s.nu=false then some 1 else none
theorem shFault_nz {l:List Sh} {k:Nat} {f:Int} (h:zBe l k=some f):f≠0:=by
 unfold zBe at h
 split at h
 ·cases h;decide
 ·split at h
  ·cases h;decide
  ·split at h
   ·next hr=>cases h;exact hr
   ·split at h
    ·cases h;decide
    ·cases h
theorem shFull_hit {d:De} {k:Nat} {f:Int} (hne:d.sh≠[]) (h20:¬20<d.sh.length) (hk:k<d.sh.length) (hp:∀ j,j<k→zBe d.sh j=none) (hf:zBe d.sh k=some f):zCF d=f:=by
 have e:shF d.kd d.sh=f:=by
  unfold shF;rw [aC hne,aC h20,zAZ hk hp hf]
 unfold zCF;rw [e,aE (shFault_nz hf)]
theorem shFull_none {d:De} (hne:d.sh≠[]) (h20:¬20<d.sh.length) (hp:∀ j,j<d.sh.length→zBe d.sh j=none):zCF d=shEnd d:=by
 have e:shF d.kd d.sh=if (zCY d.sh d.sh.length).2<(zCY d.sh d.sh.length).1∨(d.kd=5∧(zCY d.sh d.sh.length).1≠(zCY d.sh d.sh.length).2) then 1 else 0:=by
  unfold shF;rw [aC hne,aC h20,zBk hp]
 unfold zCF shEnd;rw [e]
 by_cases h:(zCY d.sh d.sh.length).2<(zCY d.sh d.sh.length).1∨(d.kd=5∧(zCY d.sh d.sh.length).1≠(zCY d.sh d.sh.length).2)
 ·rw [aE h,aE h];rfl
 ·rw [aC h,aC h];rfl
theorem checkShares_c (d:De) (w:World) (hd:DeOk w d):Calls Tryz.prog 114 #[deV d] w (zAd (.int .i64 (zCF d)) w):=by
 generalize hres:zCF d=res;have HR:=zq hres;clear hres;have HD:=zq hd;clear hd;have HX:Hid (Bx (w.alloc (.cells (deC d) 47)) w.heap.size (deC d) 47):=Bx.new _ _ _;have HB:Hid (Below w.heap.size w (w.alloc (.cells (deC d) 47))):=(bS w.heap.size w).alloc (aB _) _;obtain ⟨W,hW⟩:∃ W,W=w.alloc (.cells (deC d) 47):=⟨_,rfl⟩;rw [←hW] at HX HB;have hsz:w.heap.size<W.heap.size:=HX.o.lt
 go_enter Tryz.func114,Tryz.ntmps114
 by_cases h0:d.sh.length=0
 ·have HS:Hid (res=9):=by
   show _=_
   rw [←HR.o];unfold zCF shF;have:d.sh=[]:=List.length_eq_zero_iff.1 h0;simp [this]
  go_wp2;go_ret
  exact zAd.mk (zAC HS.o.symm) (hW▸HB.o)
 ·by_cases h20:20<d.sh.length
  ·have HS:Hid (res=2):=by
    show _=_
    rw [←HR.o];unfold zCF shF;have:d.sh≠[]:=fun e=>h0 (by rw [e];rfl)
    simp [this,h20]
   go_wp2;go_ret
   exact zAd.mk (zAC HS.o.symm) (hW▸HB.o)
  ·have hne:d.sh≠[]:=fun e=>h0 (by rw [e];rfl)
   have HH:Hid (∀ k f,k<d.sh.length→(∀ j,j<k→zBe d.sh j=none)→zBe d.sh k=some f→res=f):=by
    intro k f hk hp hf;rw [←HR.o];exact shFull_hit hne h20 hk hp hf
   have HN:Hid ((∀ j,j<d.sh.length→zBe d.sh j=none)→shEnd d=res):=by
    intro hp;rw [←HR.o];exact (shFull_none hne h20 hp).symm
   have x14:=HX.o.c 14 rfl
   go_wp2_with fail
   rw [←hW];with_reducible refine (whole0_c W).mono ?_
   rintro e w1 ⟨A1,c1,A2,c2,rfl,hn1,hn2,hb1⟩;have HX1:=zq (HX.o.below hb1);have HB1:=zq (zAb HB.o hb1);have hs1:=hb1.size
   have HST:Hid (ShSt w d w1.heap.size A1 c1 A2 c2 (zCY d.sh 0) (w1.alloc (.cells (rdC false A1 c1 0 A2 c2 1) 158))) :=
    ⟨HB1.o.alloc za _,HX1.o.alloc _,Bx.new _ _ _,hn1.alloc _,hn2.alloc _,za⟩
   have y14:=HX1.o.c 14 rfl;have hlt1:=HX1.o.lt;clear hb1 x14;go_wp2;obtain ⟨b,o,hA,hb0,hc0⟩:=HD.o.shs.at_ za;have HC0:=zq hc0;clear hc0;rw [hA]
   go_loopg [21] d.sh.length (ShRel w d w1.heap.size)
   case atStart=>exact ⟨A1,c1,A2,c2,0,HST.o,⟨vw,vw,vw⟩,za,rfl,fun j hj=>absurd hj za⟩
   case round =>
    clear HST HB1 HX1 hn1 hn2 y14 hs1 hW HX HB hsz;obtain ⟨A3,c3,A4,c4,k,hst,hle,hkm,rfl,hpre⟩:=hrel;have HST:=zq hst;have HLE:=zq hle;have HKM:=zq hkm;have HP:=zq hpre;have hkl:k≤d.sh.length:=za;clear hst hle hkm hpre;have HSH:=zq (HST.o.shs HD.o)
    by_cases hlt:k<d.sh.length
    ·have hb:b<wr.heap.size:=cX hb0 HST.o.bel.size
     have hc:∀ i (h:i<d.sh.length),wr.cell? ⟨b,o+i*3,none⟩=some (.string (d.sh[i]).pt)∧wr.cell? ⟨b,o+i*3+1,none⟩=some (.string (d.sh[i]).nu)∧wr.cell? ⟨b,o+i*3+2,none⟩=some (.string (d.sh[i]).de) :=
      fun i h=>⟨(HST.o.bel.cell hb0).trans (HC0.o i h).1,(HST.o.bel.cell hb0).trans (HC0.o i h).2.1,(HST.o.bel.cell hb0).trans (HC0.o i h).2.2⟩
     have HCL:=zq hc;obtain ⟨s0,s1,s2⟩:=hc k hlt;clear hc;have HSB:Hid (Bx (wr.alloc (.cells #[.string d.sh[k].pt,.string d.sh[k].nu,.string d.sh[k].de] 110)) wr.heap.size #[.string d.sh[k].pt,.string d.sh[k].nu,.string d.sh[k].de] 110):=Bx.new _ _ _;have HST1:=zq (HST.o.alloc (.cells #[.string d.sh[k].pt,.string d.sh[k].nu,.string d.sh[k].de] 110));have hsz1:=(HD.o.shz _ (aI hlt)).1;have hz1:=cV (absN_size d.sh[k].nu) (HD.o.shz _ (aI hlt)).2.1;have hz2:=(HD.o.shz _ (aI hlt)).2.2
     go_wp2_with fail
     with_reducible refine (zCp d.sh[k].pt _ hsz1).mono ?_
     rintro e w2 ⟨rfl,hb2⟩;have HST2:=zq (HST1.o.below hb2);have hbw:Below wr.heap.size wr w2:=((bS _ _).alloc (aB _) _).trans (hb2.mono zd);have HSB2:=zq (HSB.o.below hb2);clear HST1 HSB hb2
     cases hnm:zBA d.sh[k].pt with
     | false =>
      have HS:Hid (res=5):=HH.o k 5 hlt HP.o (by unfold zBe;rw [zDO hlt,aE hnm])
      clear hnm;go_wp2;go_ret
      exact zAd.mk (zAC HS.o.symm) HST2.o.bel
     | true =>
      have HNM:=zq hnm;clear hnm;have yd:w2.cell? ⟨w.heap.size,14,none⟩=some (.slice (some ⟨b,o,none⟩) d.sh.length d.shc):=by rw [←hA];exact HST2.o.box.c 14 rfl
      have ye:=HST2.o.box.lt;obtain ⟨z0,z1,z2⟩:=HSB2.o.t;have HPV:Hid (∀ (h:0<k),w2.cell? ⟨b,o+(k - 1)*3,none⟩=some (.string (d.sh[k - 1]'(by omega)).pt)):=fun h=>(hbw.cell hb).trans (HCL.o (k - 1) za).1
      clear hbw s0 s1 s2
      by_cases hk0:0<k
      case' pos =>
       have zp:=HPV.o hk0;have hd:decide ((0:Int)<(k:Int))=true:=zg;have hd0:decide ((0:Int)≤(k:Int) - 1)=true:=zg
       cases hle:sle d.sh[k].pt (d.sh[k - 1]'(by omega)).pt
       case' true =>
        have HS:Hid (res=8):=HH.o k 8 hlt HP.o qp;unfold sle at hle;clear HPV HCL;go_wp2
        go_quiet (fail)
        go_wp2;go_ret
        exact zAd.mk (zAC HS.o.symm) (zAc HST2.o.bel _)
       case' false =>
        have HF:Hid (zBe d.sh k=shRest d.sh[k]):=by
         show _=_
         unfold zBe shRest;rw [shD_of hlt,zDO hlt,zDO (show k - 1<d.sh.length by omega),aC qu,aC (fun hh=>xc)]
        unfold sle at hle
      case' neg =>
       have hd:decide ((0:Int)<(k:Int))=false:=zg
       have HF:Hid (zBe d.sh k=shRest d.sh[k]):=by
        show _=_
        unfold zBe shRest;rw [shD_of hlt,zDO hlt,aC qu,aC (fun hh=>hk0 hh.1)]
      all_goals
       clear HPV HCL HNM;go_wp2
       go_quiet (fail)
       go_wp2_with fail
       with_reducible refine (CheckRatio_c d.sh[k].nu d.sh[k].de _ hz1 hz2).mono ?_
       rintro e w3 ⟨rfl,hb3⟩;have HST3:=zq ((HST2.o.drewN nq).below hb3);have HSB3:=zq ((HSB2.o.drewN nq).below hb3);clear yd ye z0 z1 z2 hb3 HSB2 HST2
       by_cases hr:ratF d.sh[k].nu d.sh[k].de=0
       case' neg =>
        have HS:Hid (res=ratF d.sh[k].nu d.sh[k].de):=HH.o k _ hlt HP.o (by rw [HF.o];unfold shRest;rw [aE hr])
        have hrb:(ratF d.sh[k].nu d.sh[k].de != 0)=true:=by simpa using hr
        clear hr;go_wp2;go_ret
        exact zAd.mk (zAC HS.o.symm) HST3.o.bel
       have HF2:Hid (zBe d.sh k=if posB d.sh[k].nu=false then some 1 else none):=by
        show _=_
        rw [HF.o];unfold shRest;rw [aC (by rw [hr];decide)]
       obtain ⟨q1,q2,q3,q4,q5⟩:=ratF_zero hr;have HLN:Hid ((zAe B32 (zAK (zBh d.sh[k].nu))).length≤2000):=len_val (zBt q1).1 q4;have HLD:Hid ((zAe B32 (zAK d.sh[k].de)).length≤2000):=len_val (zBt q2).1 q5;have HDP:Hid (0<zAK d.sh[k].de):=den_pos q2 q3;have HFR:=zq (From_c d.sh[k].nu d.sh[k].de w3 (zBt q1).1 q4 (zBt q2).1 q5);obtain ⟨z0,z1,z2⟩:=HSB3.o.t;rw [hr];clear q1 q2 q3 q4 q5 hr HF HSB3
       go_wp2_with fail
       with_reducible refine HFR.o.mono ?_
       rintro e w4 ⟨A5,c5,A6,c6,rfl,h5,h6,hb4⟩;have HST4:=zq (HST3.o.below hb4);clear z0 z1 z2 hb4 HST3 HFR;have HXB:Hid (Bx (w4.alloc (.cells (rdC (sgB d.sh[k].nu) A5 c5 (zAK (zBh d.sh[k].nu)) A6 c6 (zAK d.sh[k].de)) 158)) w4.heap.size (rdC (sgB d.sh[k].nu) A5 c5 (zAK (zBh d.sh[k].nu)) A6 c6 (zAK d.sh[k].de)) 158):=Bx.new _ _ _;have HST5:=zq (HST4.o.alloc (.cells (rdC (sgB d.sh[k].nu) A5 c5 (zAK (zBh d.sh[k].nu)) A6 c6 (zAK d.sh[k].de)) 158));have H5:=zq (h5.alloc (.cells (rdC (sgB d.sh[k].nu) A5 c5 (zAK (zBh d.sh[k].nu)) A6 c6 (zAK d.sh[k].de)) 158));have H6:=zq (h6.alloc (.cells (rdC (sgB d.sh[k].nu) A5 c5 (zAK (zBh d.sh[k].nu)) A6 c6 (zAK d.sh[k].de)) 158));clear h5 h6 HST4
       go_wp2_with fail
       with_reducible refine (RSign_c (sgB d.sh[k].nu) A5 A6 c5 c6 (zAK (zBh d.sh[k].nu)) (zAK d.sh[k].de) _).mono ?_
       rintro e w5 ⟨rfl,hb5⟩;have HST6:=zq (HST5.o.below hb5);have HXB6:=zq (HXB.o.below hb5);have H56:=zq (H5.o.below hb5);have H66:=zq (H6.o.below hb5);have hsg:=posB_sgn d.sh[k].nu;clear hb5 HST5 HXB H5 H6
       cases hp:posB d.sh[k].nu with
       | false =>
        have HS:Hid (res=1):=HH.o k 1 hlt HP.o (by rw [HF2.o,aE hp])
        rw [hp] at hsg;clear hp;go_wp2;go_ret
        exact zAd.mk (zAC HS.o.symm) HST6.o.bel
       | true =>
        have HF3:Hid (zBe d.sh k=none):=by
         show _=_
         rw [HF2.o,aC (by rw [hp];simp)]
        have hsb:=posB_sg hp;rw [hp] at hsg;clear hp HF2;have HSUM:Hid (zCY d.sh (k+1)=addP (zCY d.sh k) (zAK (zBh d.sh[k].nu),zAK d.sh[k].de)):=sumP_succ hlt;have HLS:=zq (shLen_succ HLE.o HLN.o HLD.o HDP.o);have hk20:k<20:=za;have hle1:=HLE.o.1;have hle2:=HLE.o.2.1;have hle3:=HLE.o.2.2;have HADD:=zq (RAdd_c A3 A4 A5 A6 c3 c4 c5 c6 (zCY d.sh k).1 (zCY d.sh k).2 (zAK (zBh d.sh[k].nu)) (zAK d.sh[k].de) w5 HST6.o.n1 HST6.o.n2 H56.o H66.o za za (cV HLN.o za) (cV HLD.o za) hle3 HDP.o);rw [hsb] at hsg HXB6;rw [hsb];obtain ⟨a0,a1,a2⟩:=HST6.o.sum.t;obtain ⟨x0,x1,x2⟩:=HXB6.o.t;clear hle1 hle2 hle3 HLE HXB6 H56 H66
        go_wp2_with fail
        with_reducible refine HADD.o.mono ?_
        rintro e w6 ⟨A7,c7,A8,c8,rfl,h7,h8,hb6⟩;have HST7:=zq (HST6.o.below hb6);obtain ⟨r0,r1,r2⟩:=HST7.o.sum.t;have fr:=HST7.o.sum.frozen;have rl:=HST7.o.sum.lt;have HST8:=zq (HST7.o.store (pr':=addP (zCY d.sh k) (zAK (zBh d.sh[k].nu),zAK d.sh[k].de)) h7 h8);clear a0 a1 a2 x0 x1 x2 hb6 h7 h8 HST6 HADD hsg hsb;go_wp2
        go_roundg (gk - 1)
        case measure=>have:=HKM.o;omega
        case rel =>
         refine ⟨A7,c7,A8,c8,k+1,by rw [HSUM.o];exact HST8.o,by rw [HSUM.o];exact HLS.o,by have:=HKM.o;omega,zn,fun j hj=>?_⟩
         rcases bO j k with h9 | h9
         ·exact HP.o j h9
         ·obtain rfl:j=k:=by omega
          exact HF3.o
    ·have hke:k=d.sh.length:=by omega
     rw [hke] at HST HLE HP;have HE:=zq (HN.o HP.o);have hl1:(zAe B32 (zCY d.sh d.sh.length).1).length≤100000000:=cV HLE.o.1 za;have hl2:(zAe B32 (zCY d.sh d.sh.length).2).length≤100000000:=cV HLE.o.2.1 za;have HL1:=zq hl1;have HL2:=zq hl2;clear hl1 hl2 HLE HP HC0;obtain ⟨a0,a1,a2⟩:=HST.o.sum.t;go_wp2
     go_region_held3 (fun w'=>w'.cell? ⟨w1.heap.size,0,none⟩=some (.bool false)∧w'.cell? ⟨w1.heap.size,1,none⟩=some (.slice A3 (zAe B32 (zCY d.sh d.sh.length).1).length c3)∧w'.cell? ⟨w1.heap.size,2,none⟩=some (.slice A4 (zAe B32 (zCY d.sh d.sh.length).2).length c4)) ((refine ⟨?_,?_,?_⟩<;>first | with_reducible assumption | go_simp))
      (first
       | ((go_at_call 112;(with_reducible refine (whole1_c _).mono ?_);rintro e w8 ⟨A7,c7,A8,c8,rfl,h7,h8,hb8⟩;have HST8:=zq ((HST.o.drewN 1).below hb8);obtain ⟨b0,b1,b2⟩:=HST8.o.sum.t;clear hb8))
       | ((go_at_call 111;(with_reducible refine (RCmp_c A3 A4 A7 A8 c3 c4 c7 c8 _ _ 1 1 w8 HST8.o.n1 HST8.o.n2 h7 h8 HL1.o HL2.o zc zc).mono ?_);rintro e w9 ⟨rfl,hb9⟩;have HST9:=zq (HST8.o.below hb9);obtain ⟨d0,d1,d2⟩:=HST9.o.sum.t;clear hb9)))
     clear a0 a1 a2 b0 b1 b2 d0 d1 d2 HST HST8 h7 h8 HL1 HL2 HSH;have y2:w9.cell? ⟨w.heap.size,2,none⟩=some (.int .i64 d.kd):=HST9.o.box.c 2 rfl;have y14:w9.cell? ⟨w.heap.size,14,none⟩=some (.slice d.shA d.sh.length d.shc):=HST9.o.box.c 14 rfl;have yl:=HST9.o.box.lt;have HCO:=zq (containsSh_c d.shA d.shc w.heap.size d.sh d.fr w9 za (HST9.o.shs HD.o) (HST9.o.box.c 4 rfl));have he:=HE.o;unfold shEnd at he;clear HE HN HH HR
     try simp only [bP,Nat.one_mul]
     rcases Nat.lt_trichotomy (zCY d.sh d.sh.length).2 (zCY d.sh d.sh.length).1 with h | h | h
     ·rw [aE (.inl h)] at he
      rw [zBT h];have HS:=zq he;clear he h;go_wp2;go_ret
      exact zAd.mk (zAC HS.o) HST9.o.bel
     ·rw [aC za] at he
      rw [zDa h.symm]
      by_cases hk:d.kd=5
      ·have hkb:(d.kd == 5)=true:=by rw [hk];rfl
       cases hany:d.sh.any (ptIs d.fr) with
       | true =>
        rw [aE ⟨hk,hany⟩] at he;rw [hany,hA] at HCO;have HS:=zq he;clear he h hk hany
        go_wp2_with fail
        with_reducible refine HCO.o.mono ?_
        rintro e w10 ⟨rfl,hb10⟩;go_wp2;go_ret
        exact zAd.mk (zAC HS.o) (zAb HST9.o.bel hb10)
       | false =>
        rw [aC (fun hh=>by rw [hany] at hh;cases hh.2)] at he
        rw [hany,hA] at HCO;have HS:=zq he;clear he h hk hany
        go_wp2_with fail
        with_reducible refine HCO.o.mono ?_
        rintro e w10 ⟨rfl,hb10⟩;go_wp2;go_ret
        exact zAd.mk (zAC HS.o) (zAb HST9.o.bel hb10)
      ·have hkb:(d.kd == 5)=false:=by simpa using hk
       rw [aC (fun hh=>hk hh.1)] at he
       have HS:=zq he;clear he h hk;go_wp2;go_ret
       exact zAd.mk (zAC HS.o) HST9.o.bel
     ·rw [zBU h]
      by_cases hk:d.kd=5
      ·have hkb:(d.kd == 5)=true:=by rw [hk];rfl
       rw [aE (.inr ⟨hk,za⟩)] at he;have HS:=zq he;clear he h hk;go_wp2;go_ret
       exact zAd.mk (zAC HS.o) HST9.o.bel
      ·have hkb:(d.kd == 5)=false:=by simpa using hk
       rw [aC za,aC (fun hh=>hk hh.1)] at he
       have HS:=zq he;clear he h hk;go_wp2;go_ret
       exact zAd.mk (zAC HS.o) HST9.o.bel
end Go.Proofs.YtoaelidmmcbkfaaGreatDoor
namespace Go.Proofs
open Go.Shelf
end Go.Proofs
namespace Go.Proofs.YtoaelidmmcbkfaaGreatDoor
open Go.RowKit Dw
def itoaB (n:Int):BA:=⟨(Lib.itoa n).toArray⟩
end Go.Proofs.YtoaelidmmcbkfaaGreatDoor
