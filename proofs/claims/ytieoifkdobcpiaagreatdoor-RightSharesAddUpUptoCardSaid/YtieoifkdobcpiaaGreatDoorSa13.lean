/- Parts of the proof, joined: Package right (places): checkArea and in of a world. Plain zAc for t. -/
import Derived.Test.YtieoifkdobcpiaaGreatDoorSa12
set_option maxRecDepth 100000
set_option maxHeartbeats 8000000
namespace Go.Proofs.YtieoifkdobcpiaaGreatDoor
open Go.RowKit Dw
def CkRel (W:World) (l:List Rg) (a:List Ar) (m:Nat) (i:Value) (wr:World):Prop :=
 ∃ k:Nat,k+m=a.length∧i = .int .i64 k∧(∀ j,j<k→zCc l a j=none)∧Below W.heap.size W wr
theorem checkArea_c (A A2:Option Addr) (c r1 r2 g1 g2:Nat) (AL:Option Addr) (cL c2:Nat) (l:List Rg) (a:List Ar) (w:World) (g:GoodR l) (h:WR w A r1 r2 g1 g2 AL l) (h2:Ars w A2 a) :
  Calls Tryz.prog 91 #[wv A c r1 r2 g1 g2 AL cL l,.slice A2 a.length c2] w (zAe (.int .i64 (chkA l a)) w):=by
 generalize hres:chkA l a=res;have HR:=zq hres;clear hres;unfold wv
 by_cases hlen:100<a.length
 ·go_enter Tryz.func91,Tryz.ntmps91
  go_wp2;go_ret
  refine zAe.mk (zAW ?_) ((Below.refl _ _).alloc (Nat.le_refl _) _)
  rw [←HR.o];unfold chkA;rw [if_pos hlen]
 ·have hn2:a.length≤100:=by omega
  go_enter Tryz.func91,Tryz.ntmps91
  go_wp2;generalize hW:w.alloc (.cells #[.slice A l.length c,.map (some r1),.slice AL (zCi l (fun i=>!zAF l i) l.length).length cL,.map (some r2),.slice (some ⟨g1,0,none⟩) l.length l.length,.slice (some ⟨g2,0,none⟩) l.length l.length] 108)=W
  have hWs:W.heap.size=w.heap.size+1:=by rw [←hW];simp
  have hWb:Below w.heap.size w W:=yi;have hW1:W.cell? ⟨w.heap.size,1,none⟩=some (.map (some r1)):=by rw [←hW,cell_of_row _ w.heap.size 1 _ _ _ (heap_alloc_new _ _)];rfl
  have hm:zAx Value.string W r1 (mp l l.length):=h.m1.keep (hWb.block _ h.m1.lt);have hr1:r1<W.heap.size:=hm.lt;have h2':=h2.below hWb;have HM:=zq hm;have HWb:=zq hWb;clear hW hWb hm h h2
  go_loopg [14] a.length (CkRel W l a)
  case atStart=>exact ⟨0,za,rfl,fun j hj=>absurd hj za,Below.refl _ _⟩
  case round =>
   obtain ⟨k,hk,rfl,hpre,hbel⟩:=hrel;have HK:=zq hk;have HP:=zq hpre;have HB:=zq hbel;have hk1:k≤a.length:=za;have hws:w.heap.size<wr.heap.size:=by have:=hbel.size;omega
   have hs1:wr.cell? ⟨w.heap.size,1,none⟩=some (.map (some r1)):=(hbel.cell (by show w.heap.size<W.heap.size;omega)).trans hW1
   clear hk hpre hbel
   by_cases hlt:k<a.length
   ·obtain ⟨b,o,rfl,hb,hc⟩:=h2'.at_ za
    have hbr:b<wr.heap.size:=Nat.lt_of_lt_of_le hb HB.o.size;have hc0:wr.cell? ⟨b,o+k*2,none⟩=some (.string (a[k]).rg):=(HB.o.cell hb).trans (hc k hlt).1;have hc1:wr.cell? ⟨b,o+k*2+1,none⟩=some (.bool (a[k]).out):=(HB.o.cell hb).trans (hc k hlt).2;have hr0:=rgAt_of hlt;have hlk:=zAv tMap kStr zInt ((HM.o.keep (HB.o.block _ hr1)).alloc (.cells #[.string (a[k]).rg,.bool (a[k]).out] 74)) (a[k]).rg true;rw [mp_idx g.inc] at hlk;have HB2:=zq (HB.o.alloc HB.o.size (.cells #[.string (a[k]).rg,.bool (a[k]).out] 74))
    cases hq:idx l (a[k]).rg with
    | none =>
     rw [hq] at hlk;simp only [if_true,Option.map_none,Option.getD_none,Option.isSome_none] at hlk
     have hres:res=5:=by
      rw [←HR.o];unfold chkA;rw [if_neg hlen,zBo hlt HP.o (x:=5) (by unfold zCc;rw [hr0,if_pos hq])]
     have HS:=zq hres;clear hc hr0 hq hres HB;go_wp2;go_ret
     exact zAe.mk (zAW HS.o.symm) (zAb HWb.o HB2.o)
    | some x =>
     rw [hq] at hlk;simp only [if_true,Option.map_some,Option.getD_some,Option.isSome_some] at hlk;have HQ:Hid (¬ idx l (a[k]).rg=none):=by show ¬ _;rw [hq];simp
     clear hq
     by_cases hk0:0<k
     ·have hd:decide ((0:Int)<(k:Int))=true:=by simp;omega
      have hcp:wr.cell? ⟨b,o+(k - 1)*2,none⟩=some (.string (a[k - 1]).rg):=(HB.o.cell hb).trans (hc (k - 1) za).1;have hr1':=rgAt_of (a:=a) (i:=k - 1) za
      by_cases hle:sle (a[k]).rg (a[k - 1]).rg=true
      ·have hleb:=hle
       unfold sle at hleb
       have hres:res=8:=by
        rw [←HR.o];unfold chkA;rw [if_neg hlen,zBo hlt HP.o (x:=8) (by unfold zCc;rw [hr0,hr1',if_neg HQ.o,if_pos ⟨hk0,hle⟩])]
       have HS:=zq hres;clear hc hr0 hr1' hres hle HB;go_wp2
       go_quiet (fail)
       go_wp2;go_ret
       exact zAe.mk (zAW HS.o.symm) (zAd (zAb HWb.o HB2.o) _)
      ·have hle':sle (a[k]).rg (a[k - 1]).rg=false:=by simpa using hle
       have hleb:=hle';unfold sle at hleb
       have HF:Hid (zCc l a k=none):=by
        show zCc l a k=none
        unfold zCc;rw [hr0,hr1',if_neg HQ.o,if_neg (fun hh=>hle hh.2)]
       clear hc hr0 hr1' hle hle' HB;go_wp2
       go_quiet (fail)
       go_wp2
       go_roundg (gk - 1)
       case measure=>have:=HK.o;omega
       case rel =>
        refine ⟨k+1,zh,zi,fun j hj=>?_,zAd HB2.o _⟩
        rcases Nat.lt_or_ge j k with h1 | h1
        ·exact HP.o j h1
        ·obtain rfl:j=k:=by omega
         exact HF.o
     ·have hd:decide ((0:Int)<(k:Int))=false:=by simp;omega
      have HF:Hid (zCc l a k=none):=by
       show zCc l a k=none
       unfold zCc;rw [hr0,if_neg HQ.o,if_neg za]
      clear hc hr0 HB;go_wp2
      go_quiet (fail)
      go_wp2
      go_roundg (gk - 1)
      case measure=>have:=HK.o;omega
      case rel =>
       refine ⟨k+1,zh,zi,fun j hj=>?_,zAd HB2.o _⟩
       rcases Nat.lt_or_ge j k with h1 | h1
       ·exact HP.o j h1
       ·obtain rfl:j=k:=by omega
        exact HF.o
   ·have hres:res=0:=by
     rw [←HR.o];unfold chkA;rw [if_neg hlen,zBx (fun j hj=>HP.o j za)]
    have HS:=zq hres;clear hres;go_wp2;go_ret
    exact zAe.mk (zAW HS.o.symm) (zAb HWb.o HB.o)
end Go.Proofs.YtieoifkdobcpiaaGreatDoor
namespace Dw
open Go Go.RowKit
def bArr (M:List Bool) (k:Nat):Array Value:=((List.range M.length).map fun i=>Value.bool (decide (i<k)&&M.getD i false)).toArray
theorem bArr_size (M:List Bool) (k:Nat):(bArr M k).size=M.length:=by simp [bArr]
theorem zCZ (M:List Bool) (k:Nat) {i:Nat} (hi:i<M.length):(bArr M k)[i]?=some (.bool (decide (i<k)&&M[i])):=by simp [bArr,hi]
theorem bArr_0 (M:List Bool):Array.replicate M.length (Value.bool false)=bArr M 0:=by
 apply Array.toList_inj.1
 rw [Array.toList_replicate]
 apply List.ext_getElem<;>simp [bArr]
theorem bArr_set (M:List Bool) {k:Nat} (hk:k<M.length):(bArr M k).setIfInBounds k (.bool M[k])=bArr M (k+1):=by
 apply Array.ext_getElem?
 intro i;rw [Array.getElem?_setIfInBounds]
 by_cases h:k=i
 ·subst h
  rw [if_pos rfl,if_pos (by rw [bArr_size];exact hk),zCZ _ _ hk]
  simp
 ·rw [if_neg h]
  by_cases hi:i<M.length
  ·rw [zCZ _ _ hi,zCZ _ _ hi]
   have:decide (i<k)=decide (i<k+1):=by
    by_cases h2:i<k
    ·rw [decide_eq_true h2,decide_eq_true za]
    ·rw [decide_eq_false h2,decide_eq_false za]
   rw [this]
  ·rw [Array.getElem?_eq_none (by rw [bArr_size];omega),Array.getElem?_eq_none (by rw [bArr_size];omega)]
theorem bArr_skip (M:List Bool) {k:Nat} (hk:k<M.length) (hf:M[k]=false):bArr M (k+1)=bArr M k:=by
 rw [←bArr_set M hk,hf]
 apply Array.ext_getElem?
 intro i;rw [Array.getElem?_setIfInBounds]
 by_cases h:k=i
 ·subst h
  rw [if_pos rfl,if_pos (by rw [bArr_size];exact hk),zCZ _ _ hk]
  simp
 ·rw [if_neg h]
theorem bArr_rd {w:World} {g:Nat} {M:List Bool} {T:TypeId} (h:w.heap[g]?=some (.cells (bArr M M.length) T (0,0))):Rd1 Value.bool w (some ⟨g,0,none⟩) M:=fun _ =>
 ⟨g,0,rfl,fun i hi=>by
  rw [Nat.zero_add,cell_of_row w g i _ _ _ h,zCZ _ _ hi];simp [hi]⟩
def nmK (l:List Rg) (a:List Ar):Nat→Int→Option Value
 | 0,_=>none
 | k+1,i=>if i=(match idx l (rgAt a k) with | some x=>(x:Int) | none=>0) then some (.bool (!(a.getD k default).out)) else nmK l a k i
structure GoodA (l:List Rg) (a:List Ar):Prop where
 len:a.length≤100
 at_:∀ k (h:k<a.length),∃ x,idx l (a[k]).rg=some x
 inj:∀ i j (hi:i<a.length) (hj:j<a.length),(a[i]).rg=(a[j]).rg→i=j
theorem goodA_of {l:List Rg} {a:List Ar} (h:chkA l a=0):GoodA l a:=by
 unfold chkA at h
 by_cases hl:100<a.length
 ·rw [if_pos hl] at h;exact absurd h zc
 ·rw [if_neg hl] at h
  have hf:∀ j,j<a.length→zCc l a j=none:=by
   cases hs:(List.range a.length).findSome? (zCc l a) with
   | none=>exact fun j hj=>List.findSome?_eq_none_iff.1 hs j (List.mem_range.2 hj)
   | some f =>
    rw [hs] at h;obtain ⟨j,_,hj⟩:=List.exists_of_findSome?_eq_some hs;have h:f=0:=h;subst h;unfold zCc at hj
    split at hj
    ·injection hj with hj;exact absurd hj zc
    ·split at hj
     ·injection hj with hj;exact absurd hj zc
     ·cases hj
  refine ⟨za,fun k hk=>?_,?_⟩
  ·have:=hf k hk
   unfold zCc at this;rw [rgAt_of hk] at this
   cases hx:idx l (a[k]).rg with
   | none=>rw [if_pos hx] at this;cases this
   | some x=>exact ⟨x,rfl⟩
  ·have hinc:Inc (a.map fun x=>(⟨x.rg,emp⟩:Rg)):=by
    intro i hi;rw [List.length_map] at hi;rw [List.getElem_map,List.getElem_map];have:=hf (i+1) hi;unfold zCc at this;rw [rgAt_of hi,show i+1 - 1=i from rfl,rgAt_of za] at this
    refine zBZ ?_
    cases hb:sle (a[i+1]).rg (a[i]).rg with
    | false=>rfl
    | true =>
     split at this
     ·cases this
     ·rw [if_pos ⟨za,hb⟩] at this;cases this
   intro i j hi hj e;exact hinc.inj yh qm (by simpa using e)
theorem nmK_find {l:List Rg} {a:List Ar} (g:GoodR l) (ga:GoodA l a) {j:Nat} (hj:j<l.length):nmK l a a.length (j:Int)=(findA a (nmAt l j)).map fun x=>.bool (!x.out):=by
 have key:∀ k,k≤a.length→nmK l a k (j:Int)=(findA (a.take k) (nmAt l j)).map fun x=>.bool (!x.out):=by
  intro k
  induction k with
  | zero=>intro _;simp [nmK,findA]
  | succ k ih =>
   intro hk;have hk':k<a.length:=za;obtain ⟨x,hx⟩:=ga.at_ k hk';obtain ⟨hxl,hxn⟩:=idx_some hx;rw [nmK,ih za,rgAt_of hk',hx];unfold findA;rw [List.take_succ_eq_append_getElem hk',List.find?_append]
   by_cases e:(j:Int)=(x:Int)
   ·have e':j=x:=by omega
    subst e';rw [if_pos rfl]
    have hno:(a.take k).find? (fun y=>decide (y.rg=nmAt l j))=none:=by
     rw [List.find?_eq_none];intro y hy;obtain ⟨t,ht,rfl⟩:=List.getElem_of_mem hy
     have ht':t<k:=by
      have:=ht;rw [List.length_take] at this;omega
     rw [List.getElem_take]
     have hne:(a[t]).rg≠nmAt l j:=fun e2=>by
      have:=ga.inj t k za hk' (by rw [e2,zBh hj,hxn])
      omega
     simpa using hne
    rw [hno];have:decide ((a[k]).rg=nmAt l j)=true:=by rw [zBh hj,hxn];simp
    simp [this,List.getD,hk']
   ·rw [if_neg e]
    have:decide ((a[k]).rg=nmAt l j)=false:=by
     rw [zBh hj];refine decide_eq_false fun e2=>e ?_
     have:x=j:=g.nm_inj hxl hj (by rw [←hxn] at e2;exact e2)
     omega
    simp [this]
 have:=key a.length (Nat.le_refl _)
 rwa [List.take_length] at this
def inL (l:List Rg) (a:List Ar):List Bool:=(zAz l).map (lies l a)
end Dw
namespace Go.Proofs.YtieoifkdobcpiaaGreatDoor
open Go.RowKit Dw
abbrev mkI:Int→Value:=fun n=>Value.int .i64 n
theorem kInt:KeyT Tryz.prog 3 mkI:=keyT_int Tryz.underlying3
theorem tMapB:Tryz.prog.underlying 214=some (.map 3 4):=Tryz.underlying214
theorem zBool (w:World):(zeroValue 4).run Tryz.prog w = .ok (.bool false) w:=zb
def InRel1 (W:World) (l:List Rg) (a:List Ar) (m:Nat) (i:Value) (wr:World):Prop :=
 ∃ k:Nat,k+m=a.length∧i = .int .i64 k∧zAx mkI wr W.heap.size (nmK l a k)∧Below W.heap.size W wr
def InRel2 (W:World) (l:List Rg) (a:List Ar) (go:Nat) (m:Nat) (i:Value) (wr:World):Prop :=
 ∃ k:Nat,k+m=(inL l a).length∧i = .int .i64 k∧zAx mkI wr W.heap.size (nmK l a a.length)∧wr.heap[go]?=some (.cells (bArr (inL l a) k) 4 (0,0))∧Below W.heap.size W wr
def InRel3 (w5:World) (l:List Rg) (a:List Ar) (res:Bool) (m:Nat) (kk:Value) (wr:World):Prop :=
 wr=w5∧((∃ y,y<l.length∧kk = .int .i64 (y:Int)∧upN l m y=none∧liesF l a m y=res)∨(kk = .int .i64 (-1)∧res=false))
def GivesL (M:List Bool) (w:World) (e:Ending) (w':World):Prop :=
 ∃ go c,e = .returned (.slice (some ⟨go,0,none⟩) M.length c)∧w'.heap[go]?=some (.cells (bArr M M.length) 4 (0,0))∧Below w.heap.size w w'
theorem gath_get (l:List Rg) {n:Nat} (hn:n<(zCi l (fun i=>!zAF l i) l.length).length) (hm:n<(zAz l).length):(zCi l (fun i=>!zAF l i) l.length)[n]=nmAt l (zAz l)[n]:=by
 have e:zCi l (fun i=>!zAF l i) l.length=(zAz l).map (nmAt l):=rfl
 simp only [e,List.getElem_map]
theorem gath_len (l:List Rg) (a:List Ar):(zCi l (fun i=>!zAF l i) l.length).length=(inL l a).length:=by
 have e:zCi l (fun i=>!zAF l i) l.length=(zAz l).map (nmAt l):=rfl
 rw [e,inL,List.length_map,List.length_map]
theorem map_ne_cells' {κ:Type} [DecidableEq κ] {mk:κ→Value} {w:World} {r g:Nat} {f:κ→Option Value} {c:Array Value} {t:TypeId} {fr:Nat×Nat} (hm:zAx mk w r f) (hg:w.heap[g]?=some (.cells c t fr)):g≠r:=fun e=>by
 obtain ⟨es,clk,L,hr,_⟩:=hm;rw [←e,hg] at hr;cases hr
theorem in_c (A A2:Option Addr) (c r1 r2 g1 g2:Nat) (AL:Option Addr) (cL c2:Nat) (l:List Rg) (a:List Ar) (w:World) (g:GoodR l) (ga:GoodA l a) (h:WR w A r1 r2 g1 g2 AL l) (h2:Ars w A2 a) :
  Calls Tryz.prog 92 #[wv A c r1 r2 g1 g2 AL cL l,.slice A2 a.length c2] w (GivesL (inL l a) w):=by
 unfold wv;have hn2:=ga.len;have hn:=g.len;have hmm:=@run_makeMap Tryz.prog
 go_enter Tryz.func92,Tryz.ntmps92
 go_wp2;clear hmm;generalize hW:w.alloc (.cells #[.slice A l.length c,.map (some r1),.slice AL (zCi l (fun i=>!zAF l i) l.length).length cL,.map (some r2),.slice (some ⟨g1,0,none⟩) l.length l.length,.slice (some ⟨g2,0,none⟩) l.length l.length] 108)=W
 have hWs:W.heap.size=w.heap.size+1:=by rw [←hW];simp
 have hWb:Below w.heap.size w W:=yi;have hWr:=heap_alloc_new w (.cells #[.slice A l.length c,.map (some r1),.slice AL (zCi l (fun i=>!zAF l i) l.length).length cL,.map (some r2),.slice (some ⟨g1,0,none⟩) l.length l.length,.slice (some ⟨g2,0,none⟩) l.length l.length] 108)
 rw [hW] at hWr;have hW1:W.cell? ⟨w.heap.size,1,none⟩=some (.map (some r1)):=by rw [cell_of_row _ w.heap.size 1 _ _ _ hWr];rfl
 have hW2:W.cell? ⟨w.heap.size,2,none⟩=some (.slice AL (zCi l (fun i=>!zAF l i) l.length).length cL):=by rw [cell_of_row _ w.heap.size 2 _ _ _ hWr];rfl
 have hW4:W.cell? ⟨w.heap.size,4,none⟩=some (.slice (some ⟨g1,0,none⟩) l.length l.length):=by rw [cell_of_row _ w.heap.size 4 _ _ _ hWr];rfl
 have hwr:=h.below hWb;have hr1:r1<W.heap.size:=hwr.m1.lt;have h2':=h2.below hWb;have HWR:=zq hwr;have HWb:=zq hWb;have hwW:w.heap.size<W.heap.size:=za;have hg1W:=hwr.h1;clear hW hWb hWr hwr h h2;rw [←hWs];clear hWs
 go_loopg [17] a.length (InRel1 W l a)
 case atStart=>exact ⟨0,za,rfl,zAx.new _ _,(Below.refl _ _).alloc (Nat.le_refl _) _⟩
 case round =>
  obtain ⟨k,hk,rfl,hmap,hbel⟩:=hrel;have HK:=zq hk;have HM:=zq hmap;have HB:=zq hbel;have hk1:k≤a.length:=za;have hws:w.heap.size<wr.heap.size:=Nat.lt_of_lt_of_le hwW hbel.size;have hs1:wr.cell? ⟨w.heap.size,1,none⟩=some (.map (some r1)):=(hbel.cell hwW).trans hW1;have hs2:=(hbel.cell hwW).trans hW2;have hs4:=(hbel.cell hwW).trans hW4;clear hk hmap hbel
  by_cases hlt:k<a.length
  ·obtain ⟨b,o,rfl,hb,hc⟩:=h2'.at_ za
   have hbr:b<wr.heap.size:=Nat.lt_of_lt_of_le hb HB.o.size;have hc0:wr.cell? ⟨b,o+k*2,none⟩=some (.string (a[k]).rg):=(HB.o.cell hb).trans (hc k hlt).1;have hc1:wr.cell? ⟨b,o+k*2+1,none⟩=some (.bool (a[k]).out):=(HB.o.cell hb).trans (hc k hlt).2;have hlk:=zAv tMap kStr zInt ((HWR.o.m1.keep (HB.o.block _ hr1)).alloc (.cells #[.string (a[k]).rg,.bool (a[k]).out] 74)) (a[k]).rg false;obtain ⟨x,hx⟩:=ga.at_ k hlt;rw [mp_idx g.inc,hx] at hlk;simp only [Bool.false_eq_true,if_false,Option.map_some,Option.getD_some] at hlk;obtain ⟨w3,hrun,hm3,hg3,hs3⟩:=zAX tMapB kInt (HM.o.alloc (.cells #[.string (a[k]).rg,.bool (a[k]).out] 74)) (x:Int) (.bool (!(a[k]).out));have HM3:=zq hm3;have HB3:=zq (below_map (HB.o.alloc HB.o.size (.cells #[.string (a[k]).rg,.bool (a[k]).out] 74)) hg3 (Nat.le_refl _) (by have:=HB.o.size;simp;omega))
   have HX:=zq hx;clear hc hm3 hg3 hs3 hx HM HB;go_wp2
   go_roundg (gk - 1)
   case measure=>have:=HK.o;omega
   case rel =>
    refine ⟨k+1,zh,zi,?_,HB3.o⟩
    have e:nmK l a (k+1)=fun k'=>if k'=(x:Int) then some (.bool (!(a[k]).out)) else nmK l a k k':=by
     funext i
     rw [nmK,rgAt_of hlt,HX.o];simp [List.getD,hlt]
    rw [e];exact HM3.o
  ·obtain rfl:k=a.length:=by omega
   clear HK hk1 hlt hs1 hs4;have hgl:=gath_len l a
   have hil:(inL l a).length≤200:=by
    have:=leafTo_le l l.length;unfold inL;rw [List.length_map];exact Nat.le_trans this hn
   rw [hgl] at hs2;have HGL:=zq hgl;clear hgl;have hmk:=run_make_n _ _ elSet (inL l a).length za za rfl;go_wp2;clear hmk
   have hp0:(wr.alloc (.cells (Array.replicate (inL l a).length (.bool false)) 4)).heap[wr.heap.size]?=some (.cells (bArr (inL l a) 0) 4 (0,0)):=by
    rw [←bArr_0];exact heap_alloc_new _ _
   have HP0:=zq hp0;have HM2:=zq (HM.o.alloc (.cells (Array.replicate (inL l a).length (.bool false)) 4));have HB2:=zq (HB.o.alloc HB.o.size (.cells (Array.replicate (inL l a).length (.bool false)) 4));have hgo:W.heap.size≤wr.heap.size:=HB.o.size;clear HM HB hp0 hws;generalize hw2:wr.alloc (.cells (Array.replicate (inL l a).length (.bool false)) 4)=w2 at HM2 HP0 HB2;obtain ⟨go,hgoe⟩:∃ go,go=wr.heap.size:=⟨_,rfl⟩;rw [←hgoe] at HP0 hgo ⊢;clear hw2 hgoe hs2
   go_loopg [38] (inL l a).length (InRel2 W l a go)
   case atStart=>exact ⟨0,za,rfl,HM2.o,HP0.o,HB2.o⟩
   clear HM2 HP0 HB2
   case round =>
    obtain ⟨n,hk,rfl,hmap,hrow,hbel⟩:=hrel;have HK:=zq hk;have HM:=zq hmap;have HP:=zq hrow;have HB:=zq hbel;have hk1:n≤(inL l a).length:=za;have hws:w.heap.size<wr.heap.size:=Nat.lt_of_lt_of_le hwW hbel.size;have hgol:go<wr.heap.size:=zAg hrow;have hs1:wr.cell? ⟨w.heap.size,1,none⟩=some (.map (some r1)):=(hbel.cell hwW).trans hW1;have hs4:=(hbel.cell hwW).trans hW4;obtain ⟨gk1,hgk1⟩:∃ gk1,gk1=gk:=⟨_,rfl⟩;subst hgk1;obtain ⟨w5,hw5⟩:∃ w5:World,w5=wr:=⟨_,rfl⟩;subst hw5;clear hk hmap hrow hbel
    by_cases hlt:n<(inL l a).length
    ·have hltL:n<(zAz l).length:=by simpa [inL] using hlt
     have hltG:n<(zCi l (fun i=>!zAF l i) l.length).length:=by rw [HGL.o];exact hlt
     have hyl:=leafIdx_lt hltL;have hrl:=HWR.o.lv;obtain ⟨b,o,rfl,hb,hc⟩:=hrl.at_ za;have hbr:b<w5.heap.size:=Nat.lt_of_lt_of_le hb HB.o.size
     have hc0:w5.cell? ⟨b,o+n,none⟩=some (.string (l[(zAz l)[n]]).nm):=by
      rw [HB.o.cell hb,hc n hltG,gath_get l hltG hltL,zBh hyl]
     have hlk:=zAv tMap kStr zInt (HWR.o.m1.keep (HB.o.block _ hr1)) (l[(zAz l)[n]]).nm false;rw [mp_idx g.inc,g.inc.idx hyl] at hlk;simp only [Bool.false_eq_true,if_false,Option.map_some,Option.getD_some] at hlk;have hres:lies l a (zAz l)[n]=(inL l a)[n]:=by simp [inL]
     generalize hrs:(inL l a)[n]=res at hres;have HRS:=zq hrs;have hue:=g.ends _ hyl;unfold lies at hres;generalize (zAz l)[n]=y0 at *;have HR:=zq hres;have HU:=zq hue;clear hc hrl hres hue hrs;go_wp2;clear hlk hc0
     go_loopg [11] (l.length+2) (InRel3 w5 l a res)
     case atStart=>exact ⟨rfl,.inl ⟨y0,hyl,rfl,HU.o,HR.o⟩⟩
     clear HU HR
     case round =>
      obtain ⟨hw,hrel⟩:=hrel;subst hw
      rcases hrel with ⟨y,hy,rfl,hup,hlr⟩ | ⟨rfl,hres⟩
      ·obtain ⟨m,rfl⟩:∃ m,gk=m+1:=by
        cases gk with
        | zero=>exact absurd hup (by simp [upN])
        | succ m=>exact ⟨m,rfl⟩
       rw [liesF] at hlr;rw [upN] at hup;have hlk:=zAv tMapB kInt zBool HM.o (y:Int) true;rw [nmK_find g ga hy] at hlk;have hy0:(0:Int)≤(y:Int):=za;have hy1:(y:Int)<(l.length:Int):=za;have hcu:wr.cell? ⟨g1,y,none⟩=some (.int .i64 (upI l y)):=(HB.o.cell hg1W).trans (HWR.o.up y hy)
       cases hf:findA a (nmAt l y) with
       | some xa =>
        rw [hf] at hlk hlr;simp only [if_true,Option.map_some,Option.getD_some,Option.isSome_some] at hlk;have hlr':(!xa.out)=res:=hlr;rw [hlr'] at hlk
        have hco:wr.cell? ⟨go,n,none⟩=some (.bool false):=by
         rw [cell_of_row _ go n _ _ _ HP.o,zCZ _ _ hlt];simp
        have hfo:=frozen_of_row wr go n _ _ HP.o;have HBS:=zq (bArr_set (inL l a) hlt);clear hf hlr hlr' hup;go_wp2
        go_roundg (gk1 - 1)
        case measure=>have:=HK.o;omega
        case rel =>
         refine ⟨n+1,zh,zi,?_,?_,?_⟩
         ·exact HM.o.setCell (a:=⟨go,n,none⟩) (fun e=>by have:=map_ne_cells' HM.o HP.o;exact this e.symm) _
         ·have e:=HBS.o
          rw [HRS.o] at e;rw [←e];exact heap_setCell_same _ go n _ _ _ HP.o
         ·exact HB.o.setCell (p:=⟨go,n,none⟩) hgo _
       | none =>
        rw [hf] at hlk hlr;simp only [if_true,Option.map_none,Option.getD_none,Option.isSome_none] at hlk;have HLR:=zq hlr;have HUP:=zq hup;clear hf hlr hup;go_wp2;have hlr:=HLR.o;have hup:=HUP.o
        cases hu:up l y with
        | none =>
         rw [hu] at hlr
         go_roundg m
         case measure=>omega
         case rel=>exact ⟨rfl,.inr ⟨by rw [upI,hu],hlr.symm⟩⟩
        | some y' =>
         rw [hu] at hlr hup;have hyl':=(up_lt hu).2
         go_roundg m
         case measure=>omega
         case rel=>exact ⟨rfl,.inl ⟨y',hyl',by rw [upI,hu],hup,hlr⟩⟩
      ·have HS:=zq hres
       clear hres;go_wp2
       go_roundg (gk1 - 1)
       case measure=>have:=HK.o;omega
       case rel =>
        refine ⟨n+1,zh,zi,HM.o,?_,HB.o⟩
        rw [bArr_skip _ hlt (by rw [HRS.o,HS.o])]
        exact HP.o
    ·obtain rfl:n=(inL l a).length:=by omega
     clear HK hk1 hlt;go_wp2;go_ret
     exact ⟨_,_,rfl,HP.o,zAb HWb.o HB.o⟩
abbrev ckC (A:Option Addr) (c r1 r2 g1 g2:Nat) (AL:Option Addr) (cL:Nat) (l:List Rg) (uA:Option Addr) (uc:Nat) (us:List ByteArray) (m2 m3 m4 m5:Nat) (p:De):Array Value :=
 #[.slice A l.length c,.map (some r1),.slice AL (zCi l (fun i=>!zAF l i) l.length).length cL,.map (some r2),.slice (some ⟨g1,0,none⟩) l.length l.length,.slice (some ⟨g2,0,none⟩) l.length l.length,.slice uA us.length uc,.map (some m2),.map (some m3),.map (some m4),.map (some m5),
  .string p.id,.int .i64 p.day,.int .i64 p.kd,.string p.th,.string p.fr,.string p.to_,.string p.nu,.string p.de,.bool p.ex,.bool p.sb,.slice p.arA p.ar.length p.arc,.slice p.usA p.us.length p.usc,.int .i64 p.bg,.int .i64 p.en,.slice p.shA p.sh.length p.shc,.string p.ot]
def zBy (l:List Rg) (us:List ByteArray) (d:De):Int :=
 if chkA l d.ar≠0 then chkA l d.ar else if zCv l d.ar=[]∨d.us=[] then 9 else useF us d.us
theorem WR.drew {w:World} {A:Option Addr} {r1 r2 g1 g2:Nat} {AL:Option Addr} {l:List Rg} (h:WR w A r1 r2 g1 g2 AL l):WR w.drew A r1 r2 g1 g2 AL l:=h.below (zAd (Below.refl _ _) 1)
theorem any_leaves (l:List Rg) (a:List Ar):(inL l a).any id=decide (zCv l a≠[]):=by
 unfold inL zCv
 have:∀ (L:List Nat),(L.map (lies l a)).any id=decide ((L.filter (lies l a)).map (nmAt l)≠[]):=by
  intro L
  induction L with
  | nil=>rfl
  | cons x t ih =>
   by_cases h:lies l a x=true
   ·simp [h]
   ·have h':lies l a x=false:=by simpa using h
    simp only [List.map_cons,List.any_cons,h',id,Bool.false_or,List.filter_cons_of_neg h];exact ih
 exact this _
theorem place_c (ci:Nat) (A:Option Addr) (c r1 r2 g1 g2:Nat) (AL:Option Addr) (cL:Nat) (l:List Rg) (uA:Option Addr) (uc:Nat) (us:List ByteArray) (m2 m3 m4 m5:Nat) (p d:De) (w:World)
  (hc:Bx w ci (ckC A c r1 r2 g1 g2 AL cL l uA uc us m2 m3 m4 m5 p) 184) (g:GoodR l) (hw:WR w A r1 r2 g1 g2 AL l) (hu:Strs w uA us) (hul:us.length≤1000000) (hd:DeOk w d) :
  Calls Tryz.prog 209 #[.pointer (some ⟨ci,0,none⟩),deV d] w (zAe (.int .i64 (zBy l us d)) w):=by
 generalize hres:zBy l us d=res;have HR:=zq hres;clear hres;have HB:Hid (Below w.heap.size w (w.alloc (.cells (deC d) 52))):=(Below.refl w.heap.size w).alloc (Nat.le_refl _) _;have HX:Hid (Bx (w.alloc (.cells (deC d) 52)) w.heap.size (deC d) 52):=Bx.new _ _ _;obtain ⟨W,hW⟩:∃ W,W=w.alloc (.cells (deC d) 52):=⟨_,rfl⟩;rw [←hW] at HX HB;have HC:=zq (hc.below HB.o);have HW:=zq (hw.below HB.o);have HU:=zq (hu.below HB.o);have HD:=zq (hd.below HB.o);have hcl:=hc.lt;clear hc hw hu hd
 go_enter Tryz.func209,Tryz.ntmps209
 go_wp2_with fail
 rw [←hW];clear hW;have c0:=HC.o.cell (i:=0) rfl;have c1:=HC.o.cell (i:=1) rfl;have c2:=HC.o.cell (i:=2) rfl;have c3:=HC.o.cell (i:=3) rfl;have c4:=HC.o.cell (i:=4) rfl;have c5:=HC.o.cell (i:=5) rfl;have y10:=HX.o.cell (i:=10) rfl;have hAr:=zq (fun W' (x:WR W' A r1 r2 g1 g2 AL l) (y:Ars W' d.arA d.ar)=>checkArea_c A d.arA c r1 r2 g1 g2 AL cL d.arc l d.ar W' g x y)
 unfold wv at hAr
 go_region_held3 (fun w'=>w'.cell? ⟨ci,0,none⟩=some (.slice A l.length c)∧w'.cell? ⟨ci,1,none⟩=some (.map (some r1))∧w'.cell? ⟨ci,2,none⟩=some (.slice AL (zCi l (fun i=>!zAF l i) l.length).length cL)∧w'.cell? ⟨ci,3,none⟩=some (.map (some r2))∧w'.cell? ⟨ci,4,none⟩=some (.slice (some ⟨g1,0,none⟩) l.length l.length)∧w'.cell? ⟨ci,5,none⟩=some (.slice (some ⟨g2,0,none⟩) l.length l.length)∧w'.cell? ⟨w.heap.size,10,none⟩=some (.slice d.arA d.ar.length d.arc)) ((refine ⟨?_,?_,?_,?_,?_,?_,?_⟩<;>first | with_reducible assumption | go_simp))
  ((go_at_call 91;(with_reducible refine (hAr.out W.drew (WR.drew HW.o) (Rd2.drew HD.o.ars)).mono ?_);rintro e w1 ⟨rfl,hb1⟩;have HC1:=zq (HC.o.drew.below hb1);have HX1:=zq (HX.o.drew.below hb1);have e0:=HC1.o.cell (i:=0) rfl;have e1:=HC1.o.cell (i:=1) rfl;have e2:=HC1.o.cell (i:=2) rfl;have e3:=HC1.o.cell (i:=3) rfl;have e4:=HC1.o.cell (i:=4) rfl;have e5:=HC1.o.cell (i:=5) rfl;have y1:=HX1.o.cell (i:=10) rfl))
 have HB1:=zq ((zAd HB.o 1).trans (hb1.mono HB.o.size));have HW1:=zq ((WR.drew HW.o).below hb1);have HU1:=zq ((Rd1.drew HU.o).below hb1);have HD1:=zq (HD.o.below (Below.trans (zAd (Below.refl _ _) 1) hb1));clear c0 c1 c2 c3 c4 c5 y10 hb1 HW HU HD HC HX HB hAr
 by_cases hch:chkA l d.ar=0
 ·have ga:=goodA_of hch
  have HGA:=zq ga
  have HR1:Hid ((if zCv l d.ar=[]∨d.us=[] then (9:Int) else useF us d.us)=res):=by
   show _=_
   have hr:=HR.o;unfold zBy at hr
   rwa [if_neg (fun h=>h hch)] at hr
  rw [hch];clear hch HR;have HIN:=zq (fun W' (x:WR W' A r1 r2 g1 g2 AL l) (y:Ars W' d.arA d.ar)=>in_c A d.arA c r1 r2 g1 g2 AL cL d.arc l d.ar W' g ga x y)
  unfold wv at HIN;have y11:=HX1.o.cell (i:=11) rfl
  have hin:(inL l d.ar).length≤1000000:=by
   have h1:(inL l d.ar).length=(zAz l).length:=by unfold inL;simp
   have h2:=g.len;have h3:(zAz l).length≤(List.range l.length).length:=List.length_filter_le _ _;rw [List.length_range] at h3;omega
  by_cases hlv:zCv l d.ar=[]
  ·have HR2:Hid (res=9):=by
    show _=_
    rw [←HR1.o,if_pos (.inl hlv)]
   have hsm:(inL l d.ar).any id=false:=by rw [any_leaves,hlv];rfl
   have HSO:=zq (fun go c' W' (x:Rd1 Value.bool W' (some ⟨go,0,none⟩) (inL l d.ar))=>some_c (some ⟨go,0,none⟩) c' (inL l d.ar) W' hin x)
   rw [hsm] at HSO;clear hlv hsm HR1 ga
   go_wp2_with fail
   refine wp_region_held_drew (S:=(fun w'=>w'.cell? ⟨ci,0,none⟩=some (.slice A l.length c)∧w'.cell? ⟨ci,1,none⟩=some (.map (some r1))∧w'.cell? ⟨ci,2,none⟩=some (.slice AL (zCi l (fun i=>!zAF l i) l.length).length cL)∧w'.cell? ⟨ci,3,none⟩=some (.map (some r2))∧w'.cell? ⟨ci,4,none⟩=some (.slice (some ⟨g1,0,none⟩) l.length l.length)∧w'.cell? ⟨ci,5,none⟩=some (.slice (some ⟨g2,0,none⟩) l.length l.length)∧w'.cell? ⟨w.heap.size,10,none⟩=some (.slice d.arA d.ar.length d.arc)∧w'.cell? ⟨w.heap.size,11,none⟩=some (.slice d.usA d.us.length d.usc))) zb ?_ (fun hHeld=>?_)
   ·(refine ⟨?_,?_,?_,?_,?_,?_,?_,?_⟩<;>first | with_reducible assumption | go_simp)
   refine wpAnyH_take (i:=0) (v:=?_) rfl zb zb zb (fun _ _ _ h=>h) (Or.inl ⟨zn,?_⟩) zg ?_
   rotate_left 1
   ·(intro w hSw;(try dsimp only at hSw);go_simp;try with_reducible rfl)
   simp only [Act.put,List.setIfInBounds_toArray];refine wpAnyH_take (i:=1) (v:=?_) rfl zb zb zb (fun _ _ _ h=>h) (Or.inl ⟨zn,?_⟩) zg ?_
   rotate_left 1
   ·(intro w hSw;(try dsimp only at hSw);go_simp;try with_reducible rfl)
   simp only [Act.put];refine wpAnyH_take (i:=2) (v:=?_) rfl zb zb zb (fun _ _ _ h=>h) (Or.inl ⟨zn,?_⟩) zg ?_
   rotate_left 1
   ·(intro w hSw;(try dsimp only at hSw);go_simp;try with_reducible rfl)
   simp only [Act.put];refine wpAnyH_take (i:=3) (v:=?_) rfl zb zb zb (fun _ _ _ h=>h) (Or.inl ⟨zn,?_⟩) zg ?_
   rotate_left 1
   ·(intro w hSw;(try dsimp only at hSw);go_simp;try with_reducible rfl)
   simp only [Act.put];refine wpAnyH_take (i:=4) (v:=?_) rfl zb zb zb (fun _ _ _ h=>h) (Or.inl ⟨zn,?_⟩) zg ?_
   rotate_left 1
   ·(intro w hSw;(try dsimp only at hSw);go_simp;try with_reducible rfl)
   simp only [Act.put];refine wpAnyH_take (i:=5) (v:=?_) rfl zb zb zb (fun _ _ _ h=>h) (Or.inl ⟨zn,?_⟩) zg ?_
   rotate_left 1
   ·(intro w hSw;(try dsimp only at hSw);go_simp;try with_reducible rfl)
   simp only [Act.put];refine Dw.rd1 6 rfl (fun K hK=>?_)
   go_simp
   go_at_call 92
   (with_reducible refine (HIN.o w1.drew (WR.drew HW1.o) (Rd2.drew HD1.o.ars)).mono ?_)
   rintro e w2 ⟨go,cc,rfl,hg2,hb2⟩;have HB2:=zq (zAb (zAd HB1.o 1) hb2);have HC2:=zq (HC1.o.drew.below hb2);have HX2:=zq (HX1.o.drew.below hb2);have e0:=HC2.o.cell (i:=0) rfl;have e1:=HC2.o.cell (i:=1) rfl;have e2:=HC2.o.cell (i:=2) rfl;have e3:=HC2.o.cell (i:=3) rfl;have e4:=HC2.o.cell (i:=4) rfl;have e5:=HC2.o.cell (i:=5) rfl;have y1:=HX2.o.cell (i:=10) rfl;have y2:=HX2.o.cell (i:=11) rfl;refine hK.out _ _ ?_ (fun hHeld=>?_)
   ·(refine ⟨?_,?_,?_,?_,?_,?_,?_,?_⟩<;>first | with_reducible assumption | go_simp)
   clear hK K
   try simp only [Act.put,List.setIfInBounds_toArray,List.set_cons_zero,List.set_cons_succ]
   refine Dw.rd1 7 rfl (fun K hK=>?_)
   go_simp
   go_at_call 254
   (with_reducible refine (HSO.o go cc w2 (bArr_rd hg2)).mono ?_)
   rintro e w3 ⟨rfl,rfl⟩;refine hK.out _ _ ?_ (fun hHeld=>?_)
   ·(refine ⟨?_,?_,?_,?_,?_,?_,?_,?_⟩<;>first | with_reducible assumption | go_simp)
   clear hK K
   try simp only [Act.put,List.setIfInBounds_toArray,List.set_cons_zero,List.set_cons_succ]
   refine wpAnyH_take (i:=8) (v:=?_) rfl zb zb zb (fun _ _ _ h=>h) (Or.inl ⟨zn,?_⟩) zg ?_
   rotate_left 1
   ·(intro w hSw;(try dsimp only at hSw);go_simp;try with_reducible rfl)
   simp only [Act.put,List.setIfInBounds_toArray];refine wpAnyH_take (i:=9) (v:=?_) rfl zb zb zb (fun _ _ _ h=>h) (Or.inl ⟨zn,?_⟩) zg ?_
   rotate_left 1
   ·(intro w hSw;(try dsimp only at hSw);go_simp;try with_reducible rfl)
   simp only [Act.put];refine wpAnyH_take (i:=10) (v:=undef) rfl zb zb zb (fun _ _ _ h=>h) (Or.inr ⟨zn,rfl⟩) zg ?_
   simp only [Act.put];refine wpAnyH_take (i:=11) (v:=undef) rfl zb zb zb (fun _ _ _ h=>h) (Or.inr ⟨zn,rfl⟩) zg ?_
   simp only [Act.put];refine wpAnyH_take (i:=12) (v:=undef) rfl zb zb zb (fun _ _ _ h=>h) (Or.inr ⟨zn,rfl⟩) zg ?_
   simp only [Act.put];refine wpAnyH_take (i:=13) (v:=undef) rfl zb zb zb (fun _ _ _ h=>h) (Or.inr ⟨zn,rfl⟩) zg ?_
   simp only [Act.put];refine wpAnyH_take (i:=14) (v:=?_) rfl zb zb zb (fun _ _ _ h=>h) (Or.inl ⟨zn,?_⟩) zg ?_
   rotate_left 1
   ·(intro w hSw;(try dsimp only at hSw);go_simp;try with_reducible rfl)
   simp only [Act.put];refine wpAnyH_done zb ?_ _
   go_wp2;go_ret
   exact zAe.mk (zAW HR2.o.symm) HB2.o
  ·have hsm:(inL l d.ar).any id=true:=by rw [any_leaves];exact decide_eq_true hlv
   have HR2:Hid ((if d.us=[] then (9:Int) else useF us d.us)=res):=by
    show _=_
    rw [←HR1.o]
    by_cases h9:d.us=[]
    ·rw [if_pos h9,if_pos (.inr h9)]
    ·rw [if_neg h9,if_neg (fun h=>h.elim hlv h9)]
   have HSO:=zq (fun go c' W' (x:Rd1 Value.bool W' (some ⟨go,0,none⟩) (inL l d.ar))=>some_c (some ⟨go,0,none⟩) c' (inL l d.ar) W' hin x)
   rw [hsm] at HSO;clear hlv hsm HR1 ga
   go_wp2_with fail
   go_region_held3 (fun w'=>w'.cell? ⟨ci,0,none⟩=some (.slice A l.length c)∧w'.cell? ⟨ci,1,none⟩=some (.map (some r1))∧w'.cell? ⟨ci,2,none⟩=some (.slice AL (zCi l (fun i=>!zAF l i) l.length).length cL)∧w'.cell? ⟨ci,3,none⟩=some (.map (some r2))∧w'.cell? ⟨ci,4,none⟩=some (.slice (some ⟨g1,0,none⟩) l.length l.length)∧w'.cell? ⟨ci,5,none⟩=some (.slice (some ⟨g2,0,none⟩) l.length l.length)∧w'.cell? ⟨w.heap.size,10,none⟩=some (.slice d.arA d.ar.length d.arc)∧w'.cell? ⟨w.heap.size,11,none⟩=some (.slice d.usA d.us.length d.usc)) ((refine ⟨?_,?_,?_,?_,?_,?_,?_,?_⟩<;>first | with_reducible assumption | go_simp))
    (first
     | ((go_at_call 92;(with_reducible refine (HIN.o w1.drew (WR.drew HW1.o) (Rd2.drew HD1.o.ars)).mono ?_);rintro e w2 ⟨go,cc,rfl,hg2,hb2⟩;have HB2:=zq (zAb (zAd HB1.o 1) hb2);have HC2:=zq (HC1.o.drew.below hb2);have HX2:=zq (HX1.o.drew.below hb2);have e0:=HC2.o.cell (i:=0) rfl;have e1:=HC2.o.cell (i:=1) rfl;have e2:=HC2.o.cell (i:=2) rfl;have e3:=HC2.o.cell (i:=3) rfl;have e4:=HC2.o.cell (i:=4) rfl;have e5:=HC2.o.cell (i:=5) rfl;have y1:=HX2.o.cell (i:=10) rfl;have y2:=HX2.o.cell (i:=11) rfl))
     | ((go_at_call 254;(with_reducible refine (HSO.o go cc w2 (bArr_rd hg2)).mono ?_);rintro e w3 ⟨rfl,rfl⟩)))
   have HW2:=zq ((WR.drew HW1.o).below hb2);have HU2:=zq ((Rd1.drew HU1.o).below hb2);have HD2:=zq ((HD1.o.below (zAd (Below.refl _ _) 1)).below hb2);clear hb2 HIN HSO HW1 HU1 HD1 HC1 HX1 HB1 HGA y11 hg2
   by_cases h9:d.us=[]
   ·have HS:Hid (res=9):=by
     show _=_
     rw [←HR2.o,if_pos h9]
    have h9b:((d.us.length:Int) == 0)=true:=by rw [h9];rfl
    clear h9 HR2;go_wp2;go_ret
    exact zAe.mk (zAW HS.o.symm) HB2.o
   ·have HS:Hid (res=useF us d.us):=by
     show _=_
     rw [←HR2.o,if_neg h9]
    have h9b:((d.us.length:Int) == 0)=false:=by
     have:=List.length_pos_iff.2 h9;simp;omega
    have z6:=HC2.o.cell (i:=6) rfl;have HUC:=zq (fun W' (x:Strs W' uA us) (y:Strs W' d.usA d.us)=>checkUses_c uA d.usA uc d.usc us d.us W' hul HD2.o.lens.2.1 x y)
    clear h9 HR2 e0 e1 e2 e3 e4 e5 y1
    go_wp2_with fail
    go_region_held3 (fun w'=>w'.cell? ⟨ci,6,none⟩=some (.slice uA us.length uc)∧w'.cell? ⟨w.heap.size,11,none⟩=some (.slice d.usA d.us.length d.usc)) ((refine ⟨?_,?_⟩<;>first | with_reducible assumption | go_simp))
     ((go_at_call 255;(with_reducible refine (HUC.o w2.drew (Rd1.drew HU2.o) (Rd1.drew HD2.o.uses)).mono ?_);rintro e w4 ⟨rfl,hgd⟩;have HB4:=zq (zAb HB2.o (zAd (Below.refl _ _) 1));have hb4:Below w2.drew.heap.size w2.drew w4:=(by obtain ⟨nn,hn⟩:=hgd;rw [hn];exact zAd (Below.refl _ _) nn);have HC4:=zq (HC2.o.drew.below hb4);have HX4:=zq (HX2.o.drew.below hb4);have z7:=HC4.o.cell (i:=6) rfl;have z8:=HX4.o.cell (i:=11) rfl))
    go_wp2;go_ret
    exact zAe.mk (zAW HS.o.symm) (zAb HB4.o hb4)
 ·have HS:Hid (res=chkA l d.ar):=by
   show _=_
   rw [←HR.o];unfold zBy;rw [if_pos hch]
  have hcb:(chkA l d.ar != 0)=true:=by simpa using hch
  clear hch HR;go_wp2;go_ret
  exact zAe.mk (zAW HS.o.symm) HB1.o
theorem tKinds:Tryz.prog.underlying 106=some (.map 9 3):=zb
theorem tFlags:Tryz.prog.underlying 157=some (.map 9 4):=zb
structure VS (w0 wr:World) (ci bi fi:Nat) (fc:Array Value) (A:Option Addr) (c r1 r2 g1 g2:Nat) (AL:Option Addr) (cL:Nat) (l:List Rg) (uA:Option Addr) (uc:Nat) (us:List ByteArray) (m2 m3 m4 m5:Nat) (p d:De) (f2 f3:ByteArray→Option Value):Prop where
 bel:Below w0.heap.size w0 wr
 ck:Bx wr ci (ckC A c r1 r2 g1 g2 AL cL l uA uc us m2 m3 m4 m5 p) 184
 dx:Bx wr bi (deC d) 52
 fx:Bx wr fi fc 135
 wrl:WR wr A r1 r2 g1 g2 AL l
 st:Strs wr uA us
 dok:DeOk wr d
 k2:zAx Value.string wr m2 f2
 k3:zAx Value.string wr m3 f3
section
variable {w0 wr w':World} {ci bi fi:Nat} {fc:Array Value} {A:Option Addr} {c r1 r2 g1 g2:Nat} {AL:Option Addr} {cL:Nat} {l:List Rg} {uA:Option Addr} {uc:Nat} {us:List ByteArray} {m2 m3 m4 m5:Nat} {p d:De} {f2 f3:ByteArray→Option Value}
theorem VS.below (h:VS w0 wr ci bi fi fc A c r1 r2 g1 g2 AL cL l uA uc us m2 m3 m4 m5 p d f2 f3) (hb:Below wr.heap.size wr w'):VS w0 w' ci bi fi fc A c r1 r2 g1 g2 AL cL l uA uc us m2 m3 m4 m5 p d f2 f3 :=
 ⟨zAb h.bel hb,h.ck.below hb,h.dx.below hb,h.fx.below hb,h.wrl.below hb,h.st.below hb,h.dok.below hb,h.k2.below hb,h.k3.below hb⟩
theorem VS.drewN (h:VS w0 wr ci bi fi fc A c r1 r2 g1 g2 AL cL l uA uc us m2 m3 m4 m5 p d f2 f3) (n:Nat):VS w0 (wr.drewN n) ci bi fi fc A c r1 r2 g1 g2 AL cL l uA uc us m2 m3 m4 m5 p d f2 f3:=h.below (zAd (Below.refl _ _) n)
theorem VS.drew (h:VS w0 wr ci bi fi fc A c r1 r2 g1 g2 AL cL l uA uc us m2 m3 m4 m5 p d f2 f3):VS w0 wr.drew ci bi fi fc A c r1 r2 g1 g2 AL cL l uA uc us m2 m3 m4 m5 p d f2 f3:=h.drewN 1
theorem VS.alloc (h:VS w0 wr ci bi fi fc A c r1 r2 g1 g2 AL cL l uA uc us m2 m3 m4 m5 p d f2 f3) (o:Obj):VS w0 (wr.alloc o) ci bi fi fc A c r1 r2 g1 g2 AL cL l uA uc us m2 m3 m4 m5 p d f2 f3:=h.below ((Below.refl _ _).alloc (Nat.le_refl _) o)
end
theorem VS.start (w:World) (ci:Nat) (fc:Array Value) (A:Option Addr) (c r1 r2 g1 g2:Nat) (AL:Option Addr) (cL:Nat) (l:List Rg) (uA:Option Addr) (uc:Nat) (us:List ByteArray) (m2 m3 m4 m5:Nat) (p d:De) (f2 f3:ByteArray→Option Value)
  (hc:Bx w ci (ckC A c r1 r2 g1 g2 AL cL l uA uc us m2 m3 m4 m5 p) 184) (hw:WR w A r1 r2 g1 g2 AL l) (hu:Strs w uA us) (hd:DeOk w d) (h2:zAx Value.string w m2 f2) (h3:zAx Value.string w m3 f3) :
  VS w ((w.alloc (.cells (deC d) 52)).alloc (.cells fc 135)) ci w.heap.size (w.heap.size+1) fc A c r1 r2 g1 g2 AL cL l uA uc us m2 m3 m4 m5 p d f2 f3:=by
 have hb:Below w.heap.size w ((w.alloc (.cells (deC d) 52)).alloc (.cells fc 135)):=((Below.refl w.heap.size w).alloc (Nat.le_refl _) _).alloc zd _;exact ⟨hb,hc.below hb,(Bx.new _ _ _).alloc _,Bx.new1 _ _ _ _,hw.below hb,hu.below hb,hd.below hb,h2.below hb,h3.below hb⟩
def endV (d:De) (k:Int) (e:Bool):Int :=
 if zDr d.bg=false then 1 else if k≠2∧k≠3 then 9 else if e=true then 7 else 0
theorem values_4 (ci:Nat) (A:Option Addr) (c r1 r2 g1 g2:Nat) (AL:Option Addr) (cL:Nat) (l:List Rg) (uA:Option Addr) (uc:Nat) (us:List ByteArray) (m2 m3 m4 m5:Nat) (p d:De) (f2 f3:ByteArray→Option Value) (k:Int) (e:Bool) (w:World)
  (hk:(f2 d.ot).getD (.int .i64 0) = .int .i64 k) (he:(f3 d.ot).getD (.bool false) = .bool e)
  (hc:Bx w ci (ckC A c r1 r2 g1 g2 AL cL l uA uc us m2 m3 m4 m5 p) 184) (hw:WR w A r1 r2 g1 g2 AL l) (hu:Strs w uA us) (hd:DeOk w d) (h2:zAx Value.string w m2 f2) (h3:zAx Value.string w m3 f3) :
  Calls Tryz.prog 149 #[.pointer (some ⟨ci,0,none⟩),deV d,.agg #[.bool false,.bool false,.bool false,.bool false,.bool false,.bool false,.bool false,.bool false,.bool true]] w (zAe (.int .i64 (endV d k e)) w):=by
 generalize hres:endV d k e=res;have HR:=zq hres;clear hres;have HV:=zq (VS.start w ci #[.bool false,.bool false,.bool false,.bool false,.bool false,.bool false,.bool false,.bool false,.bool true] A c r1 r2 g1 g2 AL cL l uA uc us m2 m3 m4 m5 p d f2 f3 hc hw hu hd h2 h3);clear hc hw hu hd h2 h3;obtain ⟨W,hW⟩:∃ W,W=(w.alloc (.cells (deC d) 52)).alloc (.cells #[.bool false,.bool false,.bool false,.bool false,.bool false,.bool false,.bool false,.bool false,.bool true] 135):=⟨_,rfl⟩;rw [←hW] at HV;have hsz:w.heap.size+1<W.heap.size:=HV.o.fx.lt
 go_enter Tryz.func149,Tryz.ntmps149
 go_wp2_with fail
 rw [←hW];clear hW;have x3:=HV.o.dx.cell (i:=3) rfl;have x4:=HV.o.dx.cell (i:=4) rfl;have x5:=HV.o.dx.cell (i:=5) rfl;have x11:=HV.o.dx.cell (i:=12) rfl;have x14:=HV.o.dx.cell (i:=15) rfl;have y0:=HV.o.fx.cell (i:=0) rfl;have y1:=HV.o.fx.cell (i:=1) rfl;have y2:=HV.o.fx.cell (i:=2) rfl;have y3:=HV.o.fx.cell (i:=3) rfl;have y5:=HV.o.fx.cell (i:=5) rfl;have y6:=HV.o.fx.cell (i:=6) rfl;have y7:=HV.o.fx.cell (i:=7) rfl;have y8:=HV.o.fx.cell (i:=8) rfl;have HDY:=zq (fun W'=>isDay_c d.bg W')
 go_wp2_with fail
 with_reducible refine (HDY.o _).mono ?_
 rintro e' w2 ⟨rfl,rfl⟩
 cases hb:zDr d.bg with
 | false =>
  have HS:Hid (res=1):=by
   show _=_
   rw [←HR.o];unfold endV;rw [if_pos hb]
  clear hb HR;go_wp2;go_ret
  exact zAe.mk (zAW HS.o.symm) HV.o.bel
 | true =>
  have HR2:Hid ((if k≠2∧k≠3 then (9:Int) else if e=true then 7 else 0)=res):=by
   show _=_
   have hbn:¬ zDr d.bg=false:=by rw [hb];simp
   rw [←HR.o];unfold endV;rw [if_neg hbn]
  clear hb HR HDY;have q2:=HV.o.ck.cell (i:=7) rfl;have q3:=HV.o.ck.cell (i:=8) rfl;have hl2:=fun n=>zAv tKinds (zBg (P:=Tryz.prog) zb) zInt ((HV.o.drewN n).k2) d.ot false
  have hl3:=fun n=>zAv tFlags (zBg (P:=Tryz.prog) zb) zBool ((HV.o.drewN n).k3) d.ot false
  simp only [Bool.false_eq_true,if_false,hk,he] at hl2 hl3
  by_cases hk2:k=2∨k=3
  ·have HR3:Hid ((if e=true then (7:Int) else 0)=res):=by
    show _=_
    have hkn:¬ (k≠2∧k≠3):=za;rw [←HR2.o,if_neg hkn]
   clear HR2;go_wp2
   rcases hk2 with rfl | rfl
   all_goals
    go_quiet (fail)
    go_wp2
    go_quiet (fail)
    cases e with
    | true =>
     have HS:Hid (res=7):=by
      show _=_
      rw [←HR3.o,if_pos rfl]
     clear HR3;go_wp2;go_ret
     exact zAe.mk (zAW HS.o.symm) (zAd (zAd HV.o.bel _) _)
    | false =>
     have HS:Hid (res=0):=by
      show _=_
      rw [←HR3.o,if_neg zd]
     clear HR3;go_wp2;go_ret
     exact zAe.mk (zAW HS.o.symm) (zAd (zAd HV.o.bel _) _)
  ·have HS:Hid (res=9):=by
    show _=_
    have hkn:k≠2∧k≠3:=za;rw [←HR2.o,if_pos hkn]
   have k1:(k != 2)=true:=ze;have k3:(k != 3)=true:=ze;clear hk2 HR2;go_wp2
   go_quiet (fail)
   go_wp2;go_ret
   exact zAe.mk (zAW HS.o.symm) (zAd HV.o.bel _)
end Go.Proofs.YtieoifkdobcpiaaGreatDoor
