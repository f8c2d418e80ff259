/- Parts of the proof, joined: Package right: what the program's Check answers is what Check answers . -/
import Derived.Test.YtieoifkdobcpiaaGreatDoorSa18
set_option maxRecDepth 100000
set_option maxHeartbeats 8000000
namespace Go.Proofs.YtieoifkdobcpiaaGreatDoor
open Go.RowKit Dw
theorem need_fr {d:De} (hk:d.kd=1) (h:zAw d=false):d.fr=emp:=by
 unfold zAw at h;rw [hk] at h;simp [zAk] at h
 exact h.1.1.1.1.1.1
theorem need_th {d:De} (hk:d.kd=5) (h:zAw d=false):d.th=emp:=by
 unfold zAw at h;rw [hk] at h;simp [zAk] at h
 exact h.1.1.1.1.1.1
def Gd (pre:List De):Prop:=(∀ q∈pre,(1≤q.kd∧q.kd≤5)∧zAw q=false)∧pre.Pairwise (fun a b=>a.id≠b.id)
theorem kN_cons (a:De) (t:List De) (x:ByteArray):kN (a::t) x=if a.id=x then a.kd else kN t x:=by
 unfold kN
 by_cases h:a.id=x
 ·rw [List.find?_cons_of_pos (by simp [zBH,h]),if_pos h]
 ·rw [List.find?_cons_of_neg (by simp [zBH,h]),if_neg h]
theorem kN_any:∀ (pre:List De) (x:ByteArray),pre.Pairwise (fun a b=>a.id≠b.id)→zAk (kN pre x)=pre.any fun p=>decide (p.id=x)&&zAk p.kd
 | [],_,_=>rfl
 | a::t,x,h=>by
  rw [List.pairwise_cons] at h;rw [kN_cons,List.any_cons]
  by_cases e:a.id=x
  ·rw [if_pos e]
   have:(t.any fun p=>decide (p.id=x)&&zAk p.kd)=false:=by
    rw [List.any_eq_false];intro q hq;have:=h.1 q hq;simp
    intro e2;exact absurd (e.trans e2.symm) this
   rw [this];simp [e]
  ·rw [if_neg e,kN_any t x h.2]
   simp [e]
theorem any_born {pre:List De} {d:De} (hg:∀ q∈pre,(1≤q.kd∧q.kd≤5)∧zAw q=false) (hk:d.kd=1) (hd:zAw d=false) :
  (pre.any fun p=>decide (p.kd=d.kd)&&decide (p.th=d.th)&&decide (p.fr=d.fr))=bornB pre d.th:=by
 unfold bornB;rw [hk,need_fr hk hd]
 induction pre with
 | nil=>rfl
 | cons a t ih =>
  rw [List.any_cons,List.any_cons,ih fun q hq=>hg q (by simp [hq])]
  congr 1
  by_cases h:a.kd=1
  ·rw [need_fr h (hg a zd).2];simp
  ·simp [h]
theorem any_gone {pre:List De} {d:De} (hg:∀ q∈pre,(1≤q.kd∧q.kd≤5)∧zAw q=false) (hk:d.kd=5) (hd:zAw d=false) :
  (pre.any fun p=>decide (p.kd=d.kd)&&decide (p.th=d.th)&&decide (p.fr=d.fr))=goneB pre d.fr:=by
 unfold goneB;rw [hk,need_th hk hd]
 induction pre with
 | nil=>rfl
 | cons a t ih =>
  rw [List.any_cons,List.any_cons,ih fun q hq=>hg q (by simp [hq])]
  congr 1
  by_cases h:a.kd=5
  ·rw [need_th h (hg a zd).2];simp
  ·simp [h]
theorem progF_chkD {l:List Rg} {us:List ByteArray} {pre:List De} {d:De} (hg:Gd pre):progF l us pre d=chkD l us pre d:=by
 unfold progF chkD
 by_cases h1:zBp d.id=false
 ·rw [if_pos h1,if_pos h1]
 rw [if_neg h1,if_neg h1];unfold prog1
 by_cases h2:zDr d.day=false
 ·rw [if_pos h2,if_pos h2]
 rw [if_neg h2,if_neg h2];unfold prog2
 by_cases h3:ordB pre d=false
 ·rw [if_pos h3,if_pos h3]
 rw [if_neg h3,if_neg h3];unfold prog3;have e4:(pre.any fun p=>decide (p.id=d.id))=pre.any (zBH d.id):=rfl
 rw [e4]
 by_cases h4:pre.any (zBH d.id)=true
 ·rw [if_pos h4,if_pos h4]
 rw [if_neg h4,if_neg h4];unfold prog4
 by_cases h5:d.kd<1∨5<d.kd
 ·rw [if_pos h5,if_pos h5]
 rw [if_neg h5,if_neg h5];unfold prog5
 by_cases h6:zAw d=true
 ·rw [if_pos h6,if_pos h6]
 rw [if_neg h6,if_neg h6];have hn:zAw d=false:=by simpa using h6
 have hk:d.kd=1∨d.kd=2∨d.kd=3∨d.kd=4∨d.kd=5:=za;unfold prog6 valF;have tw0:d.kd≠1→d.kd≠5→twB pre d=false:=fun a b=>by unfold twB;simp [a,b]
 rcases hk with hk | hk | hk | hk | hk
 ·have hgv:¬ zAk d.kd=true:=by rw [hk];decide
  rw [if_neg hgv,if_neg (show ¬ d.kd=4 by omega),if_neg hgv,if_neg (show ¬ d.kd=4 by omega)]
  have ht:twB pre d=bornB pre d.th:=by unfold twB;rw [hk];simp
  unfold divV divF;rw [ht,any_born hg.1 hk hn];unfold zCn;have hk5:¬ d.kd=5:=za
  by_cases q1:(d.kd=1∧zBp d.th=false)∨(d.kd=5∧zBp d.fr=false)
  ·simp [q1]
  ·rw [if_neg q1,if_neg q1]
   by_cases q2:zDr d.bg=false
   ·simp [q2]
   ·by_cases q3:shF d.kd d.sh=0
    ·simp [q2,q3,hk5]
    ·simp [q2,q3]
 ·have hgv:zAk d.kd=true:=by rw [hk];decide
  rw [if_pos hgv,if_pos hgv,tw0 za za,giftF_two];simp
  exact fun h=>h.symm
 ·have hgv:zAk d.kd=true:=by rw [hk];decide
  rw [if_pos hgv,if_pos hgv,tw0 za za,giftF_two];simp
  exact fun h=>h.symm
 ·have hgv:¬ zAk d.kd=true:=by rw [hk];decide
  rw [if_neg hgv,if_pos hk,if_neg hgv,if_pos hk,tw0 za za];have ha:=kN_any pre d.ot hg.2;unfold endV endF;rw [←ha];have hb:endB pre d.ot=pre.any fun p=>decide (p.kd=4)&&decide (p.ot=d.ot):=rfl
  rw [←hb];have hgk:(kN pre d.ot≠2∧kN pre d.ot≠3)↔zAk (kN pre d.ot)=false:=by unfold zAk;simp
  by_cases q2:zDr d.bg=false
  ·simp [q2]
  ·by_cases q3:zAk (kN pre d.ot)=false
   ·have:=hgk.2 q3
    simp [q2,q3,this]
   ·have:¬ (kN pre d.ot≠2∧kN pre d.ot≠3):=fun h=>q3 (hgk.1 h)
    rw [if_neg q2,if_neg q2,if_neg this,if_neg q3]
    cases endB pre d.ot<;>simp
 ·have hgv:¬ zAk d.kd=true:=by rw [hk];decide
  rw [if_neg hgv,if_neg (show ¬ d.kd=4 by omega),if_neg hgv,if_neg (show ¬ d.kd=4 by omega)]
  have ht:twB pre d=goneB pre d.fr:=by unfold twB;rw [hk];simp
  unfold divV divF;rw [ht,any_gone hg.1 hk hn];unfold zCn
  by_cases q1:(d.kd=1∧zBp d.th=false)∨(d.kd=5∧zBp d.fr=false)
  ·simp [q1]
  ·rw [if_neg q1,if_neg q1]
   by_cases q2:zDr d.bg=false
   ·simp [q2]
   ·by_cases q3:shF d.kd d.sh=0
    ·by_cases q4:(d.sh.any fun s=>decide (s.pt=d.fr))=true
     ·have q3':shF 5 d.sh=0:=by rw [←hk];exact q3
      rw [if_neg q2,if_neg q2];simp only [q3',hk,q4];simp
     ·have q3':shF 5 d.sh=0:=by rw [←hk];exact q3
      rw [if_neg q2,if_neg q2];simp only [q3',hk,q4];simp
    ·simp [q2,q3]
theorem gd_take {rs:List Rg} {us:List ByteArray} {ds:List De}:∀ (k:Nat),k≤ds.length→(∀ j,j<k→zBV rs us ds j=none)→Gd (ds.take k)
 | 0,_,_=>⟨zd,zd⟩
 | k+1,hk,hp=>by
  have ih:=gd_take k za fun j hj=>hp j za
  have h1:=hp k za;have hlt:k<ds.length:=za;have hgd:ds.getD k default=ds[k]:=by simp [List.getD,hlt]
  unfold zBV at h1;rw [hgd] at h1
  split at h1
  ·cases h1
  ·next h2 =>
   obtain ⟨a,b,c⟩:=progF_zero (Decidable.not_not.1 h2);rw [List.take_succ_eq_append_getElem hlt];refine ⟨fun q hq=>?_,?_⟩
   ·rcases List.mem_append.1 hq with hq | hq
    ·exact ih.1 q hq
    ·rw [List.mem_singleton] at hq
     subst hq;exact ⟨a,b⟩
   ·rw [List.pairwise_append]
    refine ⟨ih.2,zd,fun x hx y hy=>?_⟩
    rw [List.mem_singleton] at hy;subst hy;rw [List.any_eq_false] at c;have:=c x hx
    simpa [zBH] using this
theorem pe_de {rs:List Rg} {us:List ByteArray} {ds:List De}:∀ (n:Nat),n≤ds.length→(List.range n).findSome? (zBV rs us ds)=(List.range n).findSome? (deFault rs us ds)
 | 0,_=>rfl
 | n+1,hn=>by
  rw [List.range_succ,List.findSome?_append,List.findSome?_append,pe_de n za]
  cases h:(List.range n).findSome? (deFault rs us ds) with
  | some f=>rfl
  | none =>
   have hp:∀ j,j<n→zBV rs us ds j=none:=fun j hj=>by
    have h2:=pe_de (rs:=rs) (us:=us) (ds:=ds) n za;rw [h,List.findSome?_eq_none_iff] at h2;exact h2 j (List.mem_range.2 hj)
   have hg:=gd_take n za hp
   have e:zBV rs us ds n=deFault rs us ds n:=by
    unfold zBV deFault;rw [progF_chkD hg]
   simp [e]
theorem chkP_chkT (rs:List Rg) (us:List ByteArray) (ds:List De):chkP rs us ds=zCH rs us ds:=by
 unfold chkP zCH;rw [pe_de ds.length (Nat.le_refl _)]
 rfl
theorem CheckT_c (RA:Option Addr) (rc:Nat) (rs:List Rg) (UA:Option Addr) (uc:Nat) (us:List ByteArray) (DA:Option Addr) (dc:Nat) (ds:List De) (w:World)
  (hr:Rgs w RA rs) (hu:Strs w UA us) (hd:Des w DA ds) (hz:∀ i (h:i<rs.length),(rs[i]).nm.size≤9223372036854775807) (hz2:∀ i (h:i<us.length),(us[i]).size≤9223372036854775807) :
  Calls Tryz.prog 59 #[.agg (tiC RA rc rs UA uc us DA dc ds)] w (zAe (.int .i64 (zCH rs us ds)) w):=by
 rw [←chkP_chkT];exact Check_c RA rc rs UA uc us DA dc ds w hr hu hd hz hz2
end Go.Proofs.YtieoifkdobcpiaaGreatDoor
namespace Go.Proofs.YtieoifkdobcpiaaGreatDoor
open Dw
theorem inc_pair {l:List ByteArray} (h:∀ i (h:i+1<l.length),slt l[i] l[i+1]=true):l.Pairwise fun a b=>slt a b=true:=by
 rw [List.pairwise_iff_getElem];intro i j hi hj hij;obtain ⟨d,rfl⟩:∃ d,j=i+d+1:=⟨j - i - 1,za⟩
 induction d with
 | zero=>exact h i hj
 | succ d ih=>exact slt_trans (ih za za) (h (i+d+1) hj)
theorem uses_len {us l:List ByteArray} (h:useF us l=0):l.length≤us.length:=by
 unfold useF at h
 split at h
 ·next f hf =>
  exfalso
  obtain ⟨k,_,hk⟩:=List.exists_of_findSome?_eq_some hf;unfold zBR at hk
  split at hk
  ·cases hk;cases h
  ·split at hk
   ·cases hk;cases h
   ·cases hk
 ·next hn =>
  rw [List.findSome?_eq_none_iff] at hn
  have hall:∀ i (h:i<l.length),l[i]∈us∧(0<i→sle l[i] (l[i - 1]'(by omega))=false):=fun i hi=>by
   have:=hn i yh;have e1:usAt l i=l[i]:=by unfold usAt;rw [List.getD_eq_getElem?_getD,List.getElem?_eq_getElem hi];rfl
   have e2:usAt l (i - 1)=l[i - 1]:=by unfold usAt;rw [List.getD_eq_getElem?_getD,List.getElem?_eq_getElem za];rfl
   unfold zBR at this;rw [e1,e2] at this
   split at this
   ·cases this
   ·next h1 =>
    split at this
    ·cases this
    ·next h2 =>
     refine ⟨memS_true.1 (by simpa using h1),fun hp=>?_⟩
     cases hs:sle l[i] l[i - 1] with
     | false=>rfl
     | true=>exact absurd ⟨hp,hs⟩ h2
  have hp:l.Pairwise fun a b=>slt a b=true:=inc_pair fun i hi=>zBZ ((hall (i+1) hi).2 za)
  have hnd:l.Nodup:=hp.imp fun h=>zCz h
  exact hnd.length_le_of_subset fun x hx=>by
   obtain ⟨i,hi,rfl⟩:=List.getElem_of_mem hx;exact (hall i hi).1
theorem chkA_len {rs:List Rg} {a:List Ar} (h:chkA rs a=0):a.length≤100:=by
 unfold chkA at h
 split at h
 ·cases h
 ·omega
theorem shF_len {k:Int} {l:List Sh} (h:shF k l=0):l.length≤20:=by
 unfold shF at h
 split at h
 ·cases h
 split at h
 ·cases h
 omega
theorem chkD_lens {rs:List Rg} {us:List ByteArray} {pre:List De} {d:De} (h:chkD rs us pre d=0) (hu:us.length≤20):d.ar.length≤100∧d.us.length≤20∧d.sh.length≤20:=by
 unfold chkD at h
 split at h
 ·cases h
 split at h
 ·cases h
 split at h
 ·cases h
 split at h
 ·cases h
 split at h
 ·cases h
 split at h
 ·cases h
 next hnd =>
 simp only [zAw,Bool.not_eq_true,Bool.or_eq_false_iff,Bool.and_eq_false_iff] at hnd;obtain ⟨⟨⟨⟨⟨_,_⟩,hau⟩,_⟩,hsh⟩,_⟩:=hnd
 split at h
 ·next hg =>
  unfold giftF at h
  split at h
  ·cases h
  split at h
  ·cases h
  split at h
  ·next h1=>exact absurd h h1
  split at h
  ·next h1=>exact absurd h h1
  next ha =>
  split at h
  ·cases h
  split at h
  ·next h1=>exact absurd h h1
  next hus =>
  have e1:=chkA_len (by simpa using ha)
  have e2:=uses_len (us:=us) (l:=d.us) (by simpa using hus)
  have e3:d.sh=[]:=by
   rcases hsh with hs | hs
   ·exfalso
    simp only [zAk,Bool.or_eq_true,decide_eq_true_eq] at hg;simp at hs
    omega
   ·simpa using hs
  rw [e3];exact ⟨e1,za,zd⟩
 ·next hg =>
  have e12:d.ar=[]∧d.us=[]:=by
   rcases hau with hs | hs
   ·simp at hs;exact absurd hs hg
   ·simpa using hs
  rw [e12.1,e12.2];refine ⟨zd,zd,?_⟩
  split at h
  ·next h4 =>
   have e3:d.sh=[]:=by
    rcases hsh with hs | hs
    ·exfalso
     simp at hs
     omega
    ·simpa using hs
   rw [e3];simp
  ·unfold divF at h
   split at h
   ·cases h
   split at h
   ·cases h
   split at h
   ·next h1=>exact absurd h h1
   next h1=>exact shF_len (by simpa using h1)
theorem zBl {rs:List Rg} {us:List ByteArray} {ds:List De} (h:zCH rs us ds=0):us.length≤20∧∀ k (hk:k<ds.length),chkD rs us (ds.take k) ds[k]=0:=by
 unfold zCH at h
 split at h
 ·next h1=>exact absurd h h1
 split at h
 ·cases h
 split at h
 ·cases h
 next h3 =>
 refine ⟨za,fun k hk=>?_⟩
 split at h
 ·next f hf =>
  exfalso
  obtain ⟨k,_,hk⟩:=List.exists_of_findSome?_eq_some hf;unfold zBJ at hk
  split at hk
  ·cases hk;cases h
  ·split at hk
   ·cases hk;cases h
   ·cases hk
 ·split at h
  ·cases h
  split at h
  ·next f hf =>
   exfalso
   obtain ⟨k,_,hk⟩:=List.exists_of_findSome?_eq_some hf;unfold deFault at hk
   split at hk
   ·next hne=>cases hk;exact hne h
   ·cases hk
  ·next hn =>
   rw [List.findSome?_eq_none_iff] at hn;have:=hn k (by simpa using hk)
   unfold deFault at this;rw [List.getD_eq_getElem?_getD,List.getElem?_eq_getElem hk] at this
   split at this
   ·cases this
   ·next h0=>simpa using h0
theorem zCx {rs:List Rg} {us:List ByteArray} {ds:List De} (h:zCH rs us ds=0):chkR rs=0∧us.length≤20∧ds.length≤200:=by
 unfold zCH at h
 split at h
 ·next h1=>exact absurd h h1
 next h1 =>
 split at h
 ·cases h
 split at h
 ·cases h
 next h3 =>
 split at h
 ·next f hf =>
  exfalso
  obtain ⟨k,_,hk⟩:=List.exists_of_findSome?_eq_some hf;unfold zBJ at hk
  split at hk
  ·cases hk;cases h
  ·split at hk
   ·cases hk;cases h
   ·cases hk
 ·split at h
  ·cases h
  ·next h4=>exact ⟨by simpa using h1,za,za⟩
open Go Go.RowKit Dw
end Go.Proofs.YtieoifkdobcpiaaGreatDoor
namespace Go.Proofs.YtieoifkdobcpiaaGreatDoor
open Go.RowKit Dw
def BT:Nat:=10000
theorem zAV:1<BT:=zc
theorem BT_pos:0<BT:=zc
theorem BT_eq:BT=10000:=rfl
abbrev i64N:Nat→Value:=fun n=>Value.int .i64 (n:Int)
abbrev Lms:=Rd1 i64N
structure Lt (w:World) (A:Option Addr) (c n:Nat):Prop where
 rd:Lms w A (zAc BT n)
 cap:(zAc BT n).length≤c
abbrev lmV (A:Option Addr) (c n:Nat):Value:=.slice A (zAc BT n).length c
theorem Lt.below {w w':World} {A:Option Addr} {c n:Nat} (h:Lt w A c n) (hb:Below w.heap.size w w'):Lt w' A c n:=⟨h.rd.below hb,h.cap⟩
theorem Lt.drew {w:World} {A:Option Addr} {c n:Nat} (h:Lt w A c n):Lt w.drew A c n:=⟨h.rd.drew,h.cap⟩
theorem Lt.drewN {w:World} {A:Option Addr} {c n:Nat} (h:Lt w A c n) (k:Nat):Lt (w.drewN k) A c n:=⟨h.rd.drewN k,h.cap⟩
def zCE (n:Nat) (w:World) (e:Ending) (w':World):Prop:=∃ A c,e = .returned (lmV A c n)∧Lt w' A c n∧Below w.heap.size w w'
abbrev encLm:Nat→List Value:=fun n=>[i64N n]
abbrev OwnI (w:World) (base:Nat) (v:Value) (l:List Nat):Prop:=zAQ encLm 1 w base 3 v l
theorem elI:ElemT Tryz.prog 27 3 (.int .i64 0) 1 8:=⟨Tryz.underlying27,zb,rfl,zc⟩
def ArrI (w:World) (g:Nat) (L:List Nat):Prop:=w.heap[g]?=some (.cells (L.map i64N).toArray 3 (0,0))
section
variable {w w':World} {g:Nat} {L:List Nat}
theorem ArrI.lt (h:ArrI w g L):g<w.heap.size:=(Array.getElem?_eq_some_iff.1 h).1
theorem ArrI.cell (h:ArrI w g L) (i:Nat) (hi:i<L.length):w.cell? ⟨g,i,none⟩=some (.int .i64 ((L[i]:Nat):Int)):=by
 rw [cell_of_row w g i _ _ _ h];simp [hi]
theorem ArrI.frozen (h:ArrI w g L) (i:Nat):w.frozen? ⟨g,i,none⟩=false:=frozen_of_row w g i _ _ h
theorem ArrI.set (h:ArrI w g L) (i x:Nat):ArrI (w.setCell ⟨g,i,none⟩ (.int .i64 (x:Int))) g (L.set i x):=by
 have h1:(w.setCell ⟨g,i,none⟩ (.int .i64 (x:Int))).heap[g]?=some (.cells ((L.map i64N).toArray.setIfInBounds i (.int .i64 (x:Int))) 3 (0,0)):=by
  unfold ArrI at h;simp [World.setCell,Array.getElem?_modify,h]
 unfold ArrI;rw [h1,List.setIfInBounds_toArray,List.map_set]
theorem ArrI.rd (h:ArrI w g L):Lms w (some ⟨g,0,none⟩) L:=fun _=>⟨g,0,rfl,fun i hi=>by
 rw [Nat.zero_add,h.cell i hi]⟩
theorem ArrI.below (h:ArrI w g L) (hb:Below w.heap.size w w'):ArrI w' g L:=(hb.block g h.lt).trans h
theorem ArrI.drewN (h:ArrI w g L) (n:Nat):ArrI (w.drewN n) g L:=h
theorem ArrI.new (w:World) (n:Nat):ArrI (w.alloc (.cells (Array.replicate n (.int .i64 0)) 3)) w.heap.size (List.replicate n 0):=by
 unfold ArrI;rw [heap_alloc_new]
 congr 2
 apply Array.toList_inj.1
 simp
end
theorem mk_ints (n:Nat) (h:n≤1000000000) (w:World):(Instr.makeSlice 27 (.int .i64 (n:Int)) (.int .i64 (n:Int))).run Tryz.prog w = .ok (.slice (some ⟨w.heap.size,0,none⟩) n n) (w.alloc (.cells (Array.replicate n (.int .i64 0)) 3)) :=
 run_makeN1 _ _ elI n za za rfl w
def TrimLRel (w:World) (L:List Nat) (m:Nat) (i:Value) (wr:World):Prop :=
 wr=w∧∃ k:Nat,k=m∧k≤L.length∧i = .int .i64 k∧zBf (L.take k)=zBf L
theorem trimL_c (A:Option Addr) (c:Nat) (L:List Nat) (w:World) (hn:L.length≤1000000000) (hc:L.length≤c) (h:Lms w A L) :
  Calls Tryz.prog 85 #[.slice A L.length c] w (zAP (.slice A (zBf L).length c) w):=by
 go_enter Tryz.func85,Tryz.ntmps85
 go_wp2
 go_loopg [3] L.length (TrimLRel w L)
 case atStart=>exact ⟨rfl,L.length,rfl,Nat.le_refl _,rfl,by rw [List.take_length]⟩
 case round =>
  obtain ⟨hw,k,hm,hk,rfl,ht⟩:=hrel;subst hw;have HM:=zq hm;have HT:=zq ht;clear hm ht
  rcases Nat.eq_zero_or_pos k with h0 | h0
  ·subst h0
   go_wp2;go_ret
   refine zAP.mk ?_ rfl
   rw [←HT.o];rfl
  ·obtain ⟨j,rfl⟩:∃ j,k=j+1:=⟨k - 1,za⟩
   obtain ⟨b,o,rfl,hb,hcl⟩:=h.at_ za;have hj:j<L.length:=za;have hc0:=hcl j hj;clear hcl
   by_cases hz:L[j]=0
   ·have HZ:=zq hz
    rw [hz] at hc0;clear hz;go_wp2
    go_roundg (gk - 1)
    case measure=>have:=HM.o;omega
    case rel=>exact ⟨rfl,j,zx,za,zi,by rw [←HT.o,wtrim_take_zero hj HZ.o]⟩
   ·have hzb:(((L[j]:Nat):Int) == 0)=false:=by simpa using hz
    have HZ:=zq hz;clear hz;go_wp2;go_ret
    refine zAP.mk ?_ rfl
    have e:=HT.o;rw [zDD hj HZ.o] at e;have e2:=congrArg List.length e;rw [List.length_take,Nat.min_eq_left hk] at e2;rw [←e2]
    rfl
theorem Lms.trim {w:World} {A:Option Addr} {L:List Nat} (h:Lms w A L):Lms w A (zBf L):=by
 intro hp;obtain ⟨b,o,rfl,hlt,hcl⟩:=h.at_ ql;refine ⟨b,o,rfl,fun i hi=>?_⟩
 have hi':i<L.length:=ql;rw [hcl i hi']
 have:(zBf L)[i]=L[i]:=by
  have h1:=zCD L;rw [List.getElem_of_eq h1 hi,List.getElem_take]
 rw [this]
theorem trimL_n (A:Option Addr) (c:Nat) (L:List Nat) (w w0:World) (hn:L.length≤1000000000) (hc:L.length≤c) (h:Lms w A L) (hl:WLt BT L) (hb:Below w0.heap.size w0 w) {n:Nat} (hv:zAf BT L=n) :
  Calls Tryz.prog 85 #[.slice A L.length c] w (zCE n w0):=by
 have e:zBf L=zAc BT n:=by rw [zBK zAV hl,hv]
 refine (trimL_c A c L w hn hc h).mono ?_
 rintro _ _ ⟨rfl,rfl⟩;refine ⟨A,c,by rw [e],⟨?_,?_⟩,hb⟩
 ·rw [←e];exact h.trim
 ·rw [←e];have:=wtrim_len L;omega
theorem trimL_x (A:Option Addr) (c:Nat) (L:List Nat) (w:World) (hn:L.length≤1000000000) (hc:L.length≤c) (h:Lms w A L) (hl:WLt BT L) {n:Nat} (hv:zAf BT L=n) :
  Calls Tryz.prog 85 #[.slice A L.length c] w (zAP (lmV A c n) w)∧Lt w A c n:=by
 have e:zBf L=zAc BT n:=by rw [zBK zAV hl,hv]
 refine ⟨?_,?_,?_⟩
 ·have:=trimL_c A c L w hn hc h
  rw [e] at this;exact this
 ·rw [←e];exact h.trim
 ·rw [←e];have:=wtrim_len L;omega
theorem lms_set {w:World} {A:Option Addr} {l:List Nat} (h:Lms w A l) {g i:Nat} (hg:∀ b o,A=some ⟨b,o,none⟩→b≠g) (u:Value):Lms (w.setCell ⟨g,i,none⟩ u) A l:=fun hl=>by
 obtain ⟨b,o,rfl,hc⟩:=h hl;refine ⟨b,o,rfl,fun j hj=>?_⟩
 rw [World.cell?_of_block (w:=w) (Below.heap_setCell w ⟨g,i,none⟩ u b (hg b o rfl))];exact hc j hj
theorem own_capI {w:World} {base:Nat} {A:Option Addr} {n c:Nat} {l:List Nat} (h:OwnI w base (.slice A n c) l):l.length≤c∧n=l.length:=by
 rcases h.2 with ⟨e,hn⟩ | ⟨g,cap,cur,e,hb,hgg,hnc,_,hsz,htake⟩
 ·injection e with _ e2 e3
  omega
 ·injection e with _ e2 e3
  subst e3;exact ⟨za,e2⟩
def CmpLRel (w:World) (l r:List Nat) (m:Nat) (i:Value) (wr:World):Prop :=
 (∃ n,wr=w.drewN n)∧m≤l.length∧(∃ z:Int,z=(m:Int) - 1∧i = .int .i64 z)∧l.drop m=r.drop m
theorem cmpL_l (A A2:Option Addr) (c c2:Nat) (l r:List Nat) (w:World) (h:Lms w A l) (h2:Lms w A2 r) (hl:WLt BT l) (hr:WLt BT r) (hn:l.length≤1000000000) (he:l.length=r.length) :
  Calls Tryz.prog 41 #[.slice A l.length c,.slice A2 l.length c2] w (zBc (.int .i64 (zCM (zAf BT l) (zAf BT r))) w):=by
 have HE:=zq he;clear he
 go_enter Tryz.func41,Tryz.ntmps41
 go_wp2
 go_loopg [5] l.length (CmpLRel w l r)
 case atStart=>exact ⟨⟨0,rfl⟩,Nat.le_refl _,⟨_,rfl,zi⟩,by rw [List.drop_of_length_le (Nat.le_refl _),List.drop_of_length_le (by rw [HE.o];omega)]⟩
 case round =>
  obtain ⟨⟨nd,hw⟩,hk,⟨z,hz,rfl⟩,hd⟩:=hrel;subst hw;have HD:=zq hd;clear hd
  rcases Nat.eq_zero_or_pos gk with h0 | h0
  ·subst h0
   obtain rfl:z = -1:=hz;go_wp2;go_ret
   refine zBc.mk ?_ ⟨_,rfl⟩
   have e:l=r:=by simpa using HD.o
   rw [e,zCq rfl]
   rfl
  ·obtain ⟨j,rfl⟩:∃ j,gk=j+1:=⟨gk - 1,za⟩
   obtain rfl:z=(j:Int):=za;clear hz;have hjr:j<r.length:=by have:=HE.o;omega
   obtain ⟨b,o,rfl,hb,hcl⟩:=h.at_ za;obtain ⟨b2,o2,rfl,hb2,hcl2⟩:=h2.at_ za;have hc0:=hcl j za;have hc1:=hcl2 j hjr;clear hcl hcl2
   by_cases hlt:l[j]<r[j]
   ·have hltb:decide (l[j]<r[j])=true:=decide_eq_true hlt
    have HQ:=zq hlt;clear hlt;go_wp2
    go_quiet (fail)
    go_wp2;go_ret
    refine zBc.mk ?_ (by rw [World.drewN_drewN];exact ⟨_,rfl⟩)
    rw [zBw (wval_lt_of hl HE.o za hjr HD.o HQ.o)]
    rfl
   have hltb:decide (l[j]<r[j])=false:=decide_eq_false hlt
   by_cases hgt:r[j]<l[j]
   ·have hgtb:decide (r[j]<l[j])=true:=decide_eq_true hgt
    have HQ:=zq hgt;clear hlt hgt;go_wp2
    go_quiet (fail)
    go_wp2
    go_quiet (fail)
    go_wp2;go_ret
    refine zBc.mk ?_ qh
    rw [zBu (wval_lt_of hr HE.o.symm hjr za HD.o.symm HQ.o)]
    rfl
   have hgtb:decide (r[j]<l[j])=false:=decide_eq_false hgt;have HQ:Hid (l[j]=r[j]):=by show _=_;omega
   clear hlt hgt;go_wp2
   go_quiet (fail)
   go_wp2
   go_quiet (fail)
   go_wp2
   go_roundg j
   case measure=>omega
   case rel =>
    refine ⟨⟨_,rfl⟩,za,⟨_,rfl,zi⟩,?_⟩
    rw [List.drop_eq_getElem_cons za,List.drop_eq_getElem_cons hjr,HQ.o,HD.o]
theorem cmpL_len (A A2:Option Addr) (c c2 n m:Nat) (w:World) (hne:n≠m) :
  Calls Tryz.prog 41 #[.slice A n c,.slice A2 m c2] w (zBc (.int .i64 (zCM n m)) w):=by
 have hnb:((n:Int) != (m:Int))=true:=ze
 rcases Nat.lt_or_ge n m with hlt | hge
 ·have hltb:decide (n<m)=true:=decide_eq_true hlt
  have hv:zCM n m = -1:=zBw hlt;rw [hv];have HV:=zq hv;clear hv
  go_enter Tryz.func41,Tryz.ntmps41
  go_wp2;go_ret
  exact zBc.mk rfl ⟨0,rfl⟩
 ·have hltb:decide (n<m)=false:=decide_eq_false za
  have hv:zCM n m=1:=zBu za;rw [hv];have HV:=zq hv;clear hv
  go_enter Tryz.func41,Tryz.ntmps41
  go_wp2;go_ret
  exact zBc.mk rfl ⟨0,rfl⟩
theorem cmpL_c (A A2:Option Addr) (c c2 a b:Nat) (w:World) (h:Lms w A (zAc BT a)) (h2:Lms w A2 (zAc BT b)) (hn:(zAc BT a).length≤1000000000) :
  Calls Tryz.prog 41 #[lmV A c a,lmV A2 c2 b] w (zBc (.int .i64 (zCM a b)) w):=by
 by_cases he:(zAc BT a).length=(zAc BT b).length
 ·have:=cmpL_l A A2 c c2 (zAc BT a) (zAc BT b) w h h2 (zAE zAV a) (zAE zAV b) hn he
  rw [zAj zAV,zAj zAV] at this;unfold lmV;rw [←he];exact this
 ·have:=cmpL_len A A2 c c2 _ _ w he
  have e:zCM (zAc BT a).length (zAc BT b).length=zCM a b:=by
   rcases Nat.lt_or_ge (zAc BT a).length (zAc BT b).length with h1 | h1
   ·rw [zBw h1,zBw (lt_of_len zAV h1)]
   ·rw [zBu za,zBu (lt_of_len zAV za)]
  rw [e] at this;exact this
theorem words_full {L:List Nat} (hl:WLt BT L) (h:L=[]∨BT ^ (L.length - 1)≤zAf BT L):zAc BT (zAf BT L)=L:=by
 rw [←zBK zAV hl]
 rcases h with rfl | h
 ·rfl
 ·rcases Nat.eq_zero_or_pos L.length with h0 | h0
  ·rw [List.length_eq_zero_iff.1 h0];rfl
  have h1:=zBe zAV (zAf BT L);rw [←zBK zAV hl] at h1;have h2:L.length - 1<(zBf L).length:=(Nat.pow_lt_pow_iff_right zAV).1 (Nat.lt_of_le_of_lt h h1);rw [zCD L,List.take_of_length_le za]
theorem own_slice' {w:World} {base:Nat} {v:Value} {l:List Nat} (h:OwnI w base v l):∃ A c,v = .slice A l.length c:=by
 obtain ⟨A,c,he,_⟩:=zAQ.rd1 h;exact ⟨A,c,he⟩
theorem own_lms {w:World} {base n c:Nat} {A:Option Addr} {l:List Nat} (h:OwnI w base (.slice A n c) l):Lms w A l:=by
 obtain ⟨A',c',he,hr⟩:=zAQ.rd1 h
 injection he with h1 _ _
 subst h1;exact hr
def AddLRel (w:World) (l r:List Nat) (m:Nat) (v cy i:Value) (wr:World):Prop :=
 ∃ (k c:Nat) (out:List Nat),k+m=max l.length r.length∧i = .int .i64 k∧cy = .int .i64 (c:Int)∧c≤1∧out.length=k∧WLt BT out∧zAf BT out+BT ^ k*c=zAf BT (l.take k)+zAf BT (r.take k)∧OwnI wr w.heap.size v out∧Below w.heap.size w wr
theorem addL_c (A A2:Option Addr) (c c2 a b:Nat) (w:World) (h:Lms w A (zAc BT a)) (h2:Lms w A2 (zAc BT b)) (hn:(zAc BT a).length≤400000000) (hn2:(zAc BT b).length≤400000000) :
  Calls Tryz.prog 44 #[lmV A c a,lmV A2 c2 b] w (zCE (a+b) w):=by
 obtain ⟨l,hl⟩:∃ l,l=zAc BT a:=⟨_,rfl⟩;obtain ⟨r,hr⟩:∃ r,r=zAc BT b:=⟨_,rfl⟩;unfold lmV;rw [←hl] at h hn ⊢;rw [←hr] at h2 hn2 ⊢;have hlw:WLt BT l:=by rw [hl];exact zAE zAV a
 have hrw:WLt BT r:=by rw [hr];exact zAE zAV b
 have HL:=zq hl;have HR:=zq hr;clear hl hr
 go_enter Tryz.func44,Tryz.ntmps44
 go_wp2
 go_loopg [5,6,7] (max l.length r.length) (AddLRel w l r)
 case atStart=>exact ⟨0,0,[],za,rfl,rfl,za,rfl,WLt.nil,qe,zAQ.nil _ _ _ _ _,Below.refl _ _⟩
 case round =>
  obtain ⟨k,cy,out,hm,rfl,rfl,hcy,hol,how,hv,hown,hbw⟩:=hrel;have HM:=zq hm;have HO:=zq hol;have HV:=zq hv;have HB:=zq hbw;have HW:=zq how;clear hm hv hbw how;have hok:out.length≤400000000:=zx
  by_cases h1:k<l.length
  ·obtain ⟨q,o,rfl,hb,hcl⟩:=h.at_ za
   have hc0:=(HB.o.cell hb).trans (hcl k h1);clear hcl;have hx:l[k]<10000:=hlw.get k h1
   by_cases h3:k<r.length
   ·obtain ⟨q2,o2,rfl,hb2,hcl2⟩:=h2.at_ za
    have hc1:=(HB.o.cell hb2).trans (hcl2 k h3);clear hcl2;have hy:r[k]<10000:=hrw.get k h3;obtain ⟨T,hT⟩:∃ T,T=cy+l[k]+r[k]:=⟨_,rfl⟩;have hTe:(cy:Int)+(l[k]:Int)+(r[k]:Int)=(T:Int):=by rw [hT];omega
    have hTB:T<20000:=za;have HT:Hid (T=cy+l[k]+r[k]):=by show _=_;omega
    have HA:Hid (zAf BT (l.take (k+1))=zAf BT (l.take k)+BT ^ k*l[k]):=zAr h1;have HC:Hid (zAf BT (r.take (k+1))=zAf BT (r.take k)+BT ^ k*r[k]):=zAr h3;clear hT
    go_wp2_with (at_builtin;refine zAT _ _ _ elI rfl rfl w.heap.size _ out rfl (zAQ.alloc hown _) wr.heap.size 1 (T % 10000) rfl (heap_alloc_new _ _) rfl zt zk za zy ?_;intro A7 c7 w7 hown7 hg7 hb7 hat7)
    have HB7:=zq ((HB.o.alloc HB.o.size _).trans hb7);have HN7:=zq hown7;clear hown7 hg7 hb7 hat7 hown HB;go_wp2
    go_roundg (gk - 1)
    case measure=>have:=HM.o;omega
    case rel =>
     refine ⟨k+1,T / 10000,out++[T % 10000],zx,zi,zi,za,zu,HW.o.append (WLt.cons (Nat.mod_lt _ zc) WLt.nil),?_,yo,HB7.o⟩
     rw [zAH,HO.o,zBt,HA.o,HC.o];exact add_col HV.o HT.o
   ·have h3i:¬ ((k:Int)<(r.length:Int)):=by omega
    obtain ⟨T,hT⟩:∃ T,T=cy+l[k]:=⟨_,rfl⟩;have hTe:(cy:Int)+(l[k]:Int)=(T:Int):=by rw [hT];omega
    have hTB:T<20000:=za;have HT:Hid (T=cy+l[k]+0):=by show _=_;omega
    have HA:Hid (zAf BT (l.take (k+1))=zAf BT (l.take k)+BT ^ k*l[k]):=zAr h1;have HC:Hid (zAf BT (r.take (k+1))=zAf BT (r.take k)+BT ^ k*0):=zr;clear hT
    go_wp2_with (at_builtin;refine zAT _ _ _ elI rfl rfl w.heap.size _ out rfl (zAQ.alloc hown _) wr.heap.size 1 (T % 10000) rfl (heap_alloc_new _ _) rfl zt zk za zy ?_;intro A7 c7 w7 hown7 hg7 hb7 hat7)
    have HB7:=zq ((HB.o.alloc HB.o.size _).trans hb7);have HN7:=zq hown7;clear hown7 hg7 hb7 hat7 hown HB;go_wp2
    go_roundg (gk - 1)
    case measure=>have:=HM.o;omega
    case rel =>
     refine ⟨k+1,T / 10000,out++[T % 10000],zx,zi,zi,za,zu,HW.o.append (WLt.cons (Nat.mod_lt _ zc) WLt.nil),?_,yo,HB7.o⟩
     rw [zAH,HO.o,zBt,HA.o,HC.o];exact add_col HV.o HT.o
  ·have h1i:¬ ((k:Int)<(l.length:Int)):=by omega
   by_cases h3:k<r.length
   ·obtain ⟨q2,o2,rfl,hb2,hcl2⟩:=h2.at_ za
    have hc1:=(HB.o.cell hb2).trans (hcl2 k h3);clear hcl2;have hy:r[k]<10000:=hrw.get k h3;obtain ⟨T,hT⟩:∃ T,T=cy+r[k]:=⟨_,rfl⟩;have hTe:(cy:Int)+(r[k]:Int)=(T:Int):=by rw [hT];omega
    have hTB:T<20000:=za;have HT:Hid (T=cy+0+r[k]):=by show _=_;omega
    have HA:Hid (zAf BT (l.take (k+1))=zAf BT (l.take k)+BT ^ k*0):=zr;have HC:Hid (zAf BT (r.take (k+1))=zAf BT (r.take k)+BT ^ k*r[k]):=zAr h3;clear hT
    go_wp2_with (at_builtin;refine zAT _ _ _ elI rfl rfl w.heap.size _ out rfl (zAQ.alloc hown _) wr.heap.size 1 (T % 10000) rfl (heap_alloc_new _ _) rfl zt zk za zy ?_;intro A7 c7 w7 hown7 hg7 hb7 hat7)
    have HB7:=zq ((HB.o.alloc HB.o.size _).trans hb7);have HN7:=zq hown7;clear hown7 hg7 hb7 hat7 hown HB;go_wp2
    go_roundg (gk - 1)
    case measure=>have:=HM.o;omega
    case rel =>
     refine ⟨k+1,T / 10000,out++[T % 10000],zx,zi,zi,za,zu,HW.o.append (WLt.cons (Nat.mod_lt _ zc) WLt.nil),?_,yo,HB7.o⟩
     rw [zAH,HO.o,zBt,HA.o,HC.o];exact add_col HV.o HT.o
   ·have h3i:¬ ((k:Int)<(r.length:Int)):=by omega
    have HV2:Hid (zAf BT out+BT ^ out.length*cy=a+b):=by
     show _=_
     have e:=HV.o;rw [List.take_of_length_le za,List.take_of_length_le za,HL.o,HR.o,zAj zAV,zAj zAV] at e;rw [hol];exact e
    have HMX:Hid (out=[]∨BT ^ (out.length - 1)≤a+b):=by
     rcases Nat.eq_zero_or_pos k with h0 | h0
     ·exact .inl (List.length_eq_zero_iff.1 za)
     ·refine .inr ?_
      have hk:k=max l.length r.length:=zx;rw [hol]
      rcases Nat.le_total l.length r.length with h4 | h4
      ·have e:=wval_ge (B:=BT) (l:=r) za (by rw [List.getElem_of_eq HR.o];simpa [HR.o] using zCh zAV (n:=b) (by rw [←HR.o];omega))
       rw [HR.o,zAj zAV,←HR.o,show r.length=k by omega] at e
       omega
      ·have e:=wval_ge (B:=BT) (l:=l) za (by rw [List.getElem_of_eq HL.o];simpa [HL.o] using zCh zAV (n:=a) (by rw [←HL.o];omega))
       rw [HL.o,zAj zAV,←HL.o,show l.length=k by omega] at e
       omega
    rcases Nat.eq_zero_or_pos cy with h0 | h0
    ·subst h0
     have HE:Hid (zAc BT (a+b)=out):=by
      show _=_
      have e:=HV2.o;rw [Nat.mul_zero,Nat.add_zero] at e;rw [←e] ;refine words_full HW.o ?_
      rw [e];exact HMX.o
     obtain ⟨A9,c9,rfl⟩:=own_slice' hown;go_wp2;go_ret
     exact ⟨A9,c9,by unfold lmV;rw [HE.o,hol];rfl,⟨by rw [HE.o];exact own_lms hown,by rw [HE.o];exact (own_capI hown).1⟩,HB.o⟩
    ·obtain rfl:cy=1:=by omega
     go_wp2_with (at_builtin;refine zAT _ _ _ elI rfl rfl w.heap.size _ out rfl (zAQ.alloc hown _) wr.heap.size 1 1 rfl (heap_alloc_new _ _) rfl zt zk za zy ?_;intro A7 c7 w7 hown7 hg7 hb7 hat7)
     have hb8:=(HB.o.alloc HB.o.size _).trans hb7
     have HE:Hid (zAc BT (a+b)=out++[1]):=by
      show _=_
      have e:=HV2.o;have hw2:WLt BT (out++[1]):=HW.o.append (WLt.cons zc WLt.nil);have e2:zAf BT (out++[1])=a+b:=by rw [zAH,zBt];exact e
      rw [←e2,←zBK zAV hw2];exact wtrim_ne zc out
     go_wp2;go_ret
     have hcap:=own_capI hown7;exact ⟨A7,c7,by unfold lmV;rw [HE.o,List.length_append,hol];rfl,⟨by rw [HE.o];exact own_lms hown7,by rw [HE.o];exact hcap.1⟩,hb8⟩
theorem sub_colN {k o R L c t y x d:Nat} (h:o+R=L+BT ^ k*c) (hs:t+c+y=x+BT*d):(o+BT ^ k*t)+(R+BT ^ k*y)=(L+BT ^ k*x)+BT ^ (k+1)*d:=by
 have e:=congrArg (BT ^ k * ·) hs;simp only [Nat.mul_add] at e;rw [Nat.pow_succ,Nat.mul_assoc];omega
def LessLRel (w:World) (l r:List Nat) (m:Nat) (v cy i:Value) (wr:World):Prop :=
 ∃ (k c:Nat) (out:List Nat),k+m=l.length∧i = .int .i64 k∧cy = .int .i64 (c:Int)∧c≤1∧out.length=k∧WLt BT out∧zAf BT out+zAf BT (r.take k)=zAf BT (l.take k)+BT ^ k*c∧OwnI wr w.heap.size v out∧Below w.heap.size w wr
theorem lessL_c (A A2:Option Addr) (c c2 a b:Nat) (w:World) (h:Lms w A (zAc BT a)) (h2:Lms w A2 (zAc BT b)) (hn:(zAc BT a).length≤400000000) (hle:b≤a) :
  Calls Tryz.prog 45 #[lmV A c a,lmV A2 c2 b] w (zCE (a - b) w):=by
 obtain ⟨l,hl⟩:∃ l,l=zAc BT a:=⟨_,rfl⟩;obtain ⟨r,hr⟩:∃ r,r=zAc BT b:=⟨_,rfl⟩;have hrl:r.length≤l.length:=by rw [hl,hr];exact zAq zAV hle
 unfold lmV;rw [←hl] at h hn ⊢;rw [←hr] at h2 ⊢;have hlw:WLt BT l:=by rw [hl];exact zAE zAV a
 have hrw:WLt BT r:=by rw [hr];exact zAE zAV b
 have HL:=zq hl;have HR:=zq hr;have HLE:=zq hle;clear hl hr hle
 go_enter Tryz.func45,Tryz.ntmps45
 go_wp2
 go_loopg [5,6,7] l.length (LessLRel w l r)
 case atStart=>exact ⟨0,0,[],za,rfl,rfl,za,rfl,WLt.nil,qe,zAQ.nil _ _ _ _ _,Below.refl _ _⟩
 case round =>
  obtain ⟨k,cy,out,hm,rfl,rfl,hcy,hol,how,hv,hown,hbw⟩:=hrel;have HM:=zq hm;have HO:=zq hol;have HV:=zq hv;have HB:=zq hbw;have HW:=zq how;clear hm hv hbw how;have hok:out.length≤400000000:=zx
  by_cases h1:k<l.length
  ·obtain ⟨q,o,rfl,hb,hcl⟩:=h.at_ za
   have hc0:=(HB.o.cell hb).trans (hcl k h1);clear hcl;have hx:l[k]<10000:=hlw.get k h1
   by_cases h3:k<r.length
   ·obtain ⟨q2,o2,rfl,hb2,hcl2⟩:=h2.at_ za
    have hc1:=(HB.o.cell hb2).trans (hcl2 k h3);clear hcl2;have hy:r[k]<10000:=hrw.get k h3;obtain ⟨z,hz⟩:∃ z:Int,z=(l[k]:Int) - (cy:Int) - (r[k]:Int):=⟨_,rfl⟩;have hTe:(l[k]:Int) - (cy:Int) - (r[k]:Int)=z:=hz.symm;have hz1 : -10002≤z∧z≤10000:=za
    by_cases hneg:z<0
    ·obtain ⟨T,hT⟩:∃ T:Nat,z+10000=(T:Int):=⟨(z+10000).toNat,za⟩
     have HT:Hid (T+cy+r[k]=l[k]+BT*1):=by show _=_;rw [BT_eq];omega
     have hTB:T<10000:=za;have HA:Hid (zAf BT (l.take (k+1))=zAf BT (l.take k)+BT ^ k*l[k]):=zAr h1;have HC:Hid (zAf BT (r.take (k+1))=zAf BT (r.take k)+BT ^ k*r[k]):=zAr h3;clear hz
     go_wp2_with (at_builtin;refine zAT _ _ _ elI rfl rfl w.heap.size _ out rfl (zAQ.alloc hown _) wr.heap.size 1 T rfl (heap_alloc_new _ _) rfl zt zk za zy ?_;intro A7 c7 w7 hown7 hg7 hb7 hat7)
     have HB7:=zq ((HB.o.alloc HB.o.size _).trans hb7);have HN7:=zq hown7;clear hown7 hg7 hb7 hat7 hown HB;go_wp2
     go_roundg (gk - 1)
     case measure=>have:=HM.o;omega
     case rel =>
      refine ⟨k+1,1,out++[T],zx,zi,rfl,za,zu,HW.o.append (WLt.cons yt WLt.nil),?_,yo,HB7.o⟩
      rw [zAH,HO.o,zBt,HA.o,HC.o];exact sub_colN HV.o HT.o
    ·obtain ⟨T,hT⟩:∃ T:Nat,z=(T:Int):=⟨z.toNat,za⟩
     have HT:Hid (T+cy+r[k]=l[k]+BT*0):=by show _=_;rw [BT_eq];omega
     have hTB:T<10000:=za;have HA:Hid (zAf BT (l.take (k+1))=zAf BT (l.take k)+BT ^ k*l[k]):=zAr h1;have HC:Hid (zAf BT (r.take (k+1))=zAf BT (r.take k)+BT ^ k*r[k]):=zAr h3;subst hT;clear hz
     go_wp2_with (at_builtin;refine zAT _ _ _ elI rfl rfl w.heap.size _ out rfl (zAQ.alloc hown _) wr.heap.size 1 T rfl (heap_alloc_new _ _) rfl zt zk za zy ?_;intro A7 c7 w7 hown7 hg7 hb7 hat7)
     have HB7:=zq ((HB.o.alloc HB.o.size _).trans hb7);have HN7:=zq hown7;clear hown7 hg7 hb7 hat7 hown HB;go_wp2
     go_roundg (gk - 1)
     case measure=>have:=HM.o;omega
     case rel =>
      refine ⟨k+1,0,out++[T],zx,zi,rfl,za,zu,HW.o.append (WLt.cons yt WLt.nil),?_,yo,HB7.o⟩
      rw [zAH,HO.o,zBt,HA.o,HC.o];exact sub_colN HV.o HT.o
   ·have h3i:¬ ((k:Int)<(r.length:Int)):=by omega
    obtain ⟨z,hz⟩:∃ z:Int,z=(l[k]:Int) - (cy:Int):=⟨_,rfl⟩;have hTe:(l[k]:Int) - (cy:Int)=z:=hz.symm;have hz1 : -10002≤z∧z≤10000:=za
    by_cases hneg:z<0
    ·obtain ⟨T,hT⟩:∃ T:Nat,z+10000=(T:Int):=⟨(z+10000).toNat,za⟩
     have HT:Hid (T+cy+0=l[k]+BT*1):=by show _=_;rw [BT_eq];omega
     have hTB:T<10000:=za;have HA:Hid (zAf BT (l.take (k+1))=zAf BT (l.take k)+BT ^ k*l[k]):=zAr h1;have HC:Hid (zAf BT (r.take (k+1))=zAf BT (r.take k)+BT ^ k*0):=zr;clear hz
     go_wp2_with (at_builtin;refine zAT _ _ _ elI rfl rfl w.heap.size _ out rfl (zAQ.alloc hown _) wr.heap.size 1 T rfl (heap_alloc_new _ _) rfl zt zk za zy ?_;intro A7 c7 w7 hown7 hg7 hb7 hat7)
     have HB7:=zq ((HB.o.alloc HB.o.size _).trans hb7);have HN7:=zq hown7;clear hown7 hg7 hb7 hat7 hown HB;go_wp2
     go_roundg (gk - 1)
     case measure=>have:=HM.o;omega
     case rel =>
      refine ⟨k+1,1,out++[T],zx,zi,rfl,za,zu,HW.o.append (WLt.cons yt WLt.nil),?_,yo,HB7.o⟩
      rw [zAH,HO.o,zBt,HA.o,HC.o];exact sub_colN HV.o HT.o
    ·obtain ⟨T,hT⟩:∃ T:Nat,z=(T:Int):=⟨z.toNat,za⟩
     have HT:Hid (T+cy+0=l[k]+BT*0):=by show _=_;rw [BT_eq];omega
     have hTB:T<10000:=za;have HA:Hid (zAf BT (l.take (k+1))=zAf BT (l.take k)+BT ^ k*l[k]):=zAr h1;have HC:Hid (zAf BT (r.take (k+1))=zAf BT (r.take k)+BT ^ k*0):=zr;subst hT;clear hz
     go_wp2_with (at_builtin;refine zAT _ _ _ elI rfl rfl w.heap.size _ out rfl (zAQ.alloc hown _) wr.heap.size 1 T rfl (heap_alloc_new _ _) rfl zt zk za zy ?_;intro A7 c7 w7 hown7 hg7 hb7 hat7)
     have HB7:=zq ((HB.o.alloc HB.o.size _).trans hb7);have HN7:=zq hown7;clear hown7 hg7 hb7 hat7 hown HB;go_wp2
     go_roundg (gk - 1)
     case measure=>have:=HM.o;omega
     case rel =>
      refine ⟨k+1,0,out++[T],zx,zi,rfl,za,zu,HW.o.append (WLt.cons yt WLt.nil),?_,yo,HB7.o⟩
      rw [zAH,HO.o,zBt,HA.o,HC.o];exact sub_colN HV.o HT.o
  ·have h1i:¬ ((k:Int)<(l.length:Int)):=by omega
   have HV2:Hid (zAf BT out=a - b):=by
    show _=_
    have e:=HV.o;rw [List.take_of_length_le za,List.take_of_length_le za,HL.o,HR.o,zAj zAV,zAj zAV] at e;have h4:=zCV HW.o;rw [hol] at h4;have h5:=HLE.o
    rcases Nat.eq_zero_or_pos cy with h0 | h0
    ·subst h0
     rw [Nat.mul_zero] at e;omega
    ·obtain rfl:cy=1:=by omega
     rw [Nat.mul_one] at e;omega
   obtain ⟨A9,c9,rfl⟩:=own_slice' hown;have HT:=zq (trimL_n A9 c9 out wr w za (own_capI hown).1 (own_lms hown) HW.o HB.o HV2.o);rw [hol] at HT
   go_wp2_with fail
   with_reducible refine HT.o.mono ?_
   rintro e w7 ⟨A7,c7,rfl,hl7,hb7⟩;have HL7:=zq hl7;have HB7:=zq hb7;clear hl7 hb7 HT;go_wp2;go_ret
   exact ⟨A7,c7,rfl,HL7.o,HB7.o⟩
end Go.Proofs.YtieoifkdobcpiaaGreatDoor
