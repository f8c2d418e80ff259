/- Parts of the proof, joined: Plain facts about regions, areas and chains of parents: no program in . -/
import Derived.Test.YtieoifkdobcpiaaGreatDoorSa00
import GoSem.Op.String
import Derived.WalkKit
import Derived.Lib.Hide
import Derived.Deep.LoopGhost
import Derived.WalkLawsBesides
import Derived.WalkSpells
import Derived.Deep.AppendLies
import Derived.Maps.AppendAt
import Derived.Deep.QuietTactic
import Derived.BigQuiet
import Derived.Test.YtieoifkdobcpiaaGreatDoorProg
set_option maxRecDepth 100000
set_option maxHeartbeats 8000000
namespace Dw
def sle (a b:ByteArray):Bool:=Go.Op.bytesLess a.toList b.toList || a.toList == b.toList
def slt (a b:ByteArray):Bool:=Go.Op.bytesLess a.toList b.toList
theorem zCw:∀ (x y:List UInt8),Go.Op.bytesLess x y=decide (x<y)
 | [],[]=>by simp [Go.Op.bytesLess]
 | _::_,[]=>by simp [Go.Op.bytesLess]
 | [],_::_=>by simp [Go.Op.bytesLess]
 | a::x,b::y=>by
  rw [Go.Op.bytesLess,zCw x y,Bool.eq_iff_iff];simp [List.cons_lt_cons_iff]
theorem loop_eq (bs:ByteArray):∀ (n i:Nat) (r:List UInt8),bs.size - i=n→i≤bs.size →
  ByteArray.toList.loop bs i r=r.reverse++bs.data.toList.drop i:=by
 have hlen:bs.data.toList.length=bs.size:=by cases bs;rfl
 intro n
 induction n with
 | zero =>
  intro i r h hi;have e:i=bs.size:=za;subst e;have hd:bs.data.toList.drop bs.size=[]:=List.drop_of_length_le (by rw [hlen];exact Nat.le_refl _)
  rw [ByteArray.toList.loop,if_neg (Nat.lt_irrefl _),hd,List.append_nil]
 | succ n ih =>
  intro i r h hi;have hlt:i<bs.size:=za;rw [ByteArray.toList.loop,if_pos hlt,ih (i+1) _ za za];have hl:i<bs.data.toList.length:=by rw [hlen];exact hlt
  rw [List.drop_eq_getElem_cons hl]
  have hg:bs.get! i=bs.data.toList[i]:=by
   cases bs with
   | mk d =>
    have hd:i<d.size:=hlt;simp [ByteArray.get!,hd]
  simp [hg]
theorem toList_eq (bs:ByteArray):bs.toList=bs.data.toList:=by
 unfold ByteArray.toList;rw [loop_eq bs bs.size 0 [] za za];simp
theorem toList_inj {a b:ByteArray} (h:a.toList=b.toList):a=b:=by
 rw [toList_eq,toList_eq] at h;exact ByteArray.ext (Array.toList_inj.1 h)
theorem str_eq {a b:ByteArray} (h:(a.toList == b.toList)=true):a=b:=toList_inj zv
theorem zBW {a b:ByteArray} (h:a=b):(a.toList == b.toList)=true:=by rw [h];simp
theorem zBG {a b:ByteArray} (h:a≠b):(a.toList == b.toList)=false:=by
 rw [beq_eq_false_iff_ne];exact fun e=>h (toList_inj e)
def emp:ByteArray:=⟨#[]⟩
theorem emp_toList:emp.toList=[]:=by rw [toList_eq];rfl
theorem emp_isEmpty:emp.toList.isEmpty=true:=by rw [emp_toList];rfl
theorem zAu {s:ByteArray} (h:s≠emp):s.toList.isEmpty=false:=by
 cases hs:s.toList with
 | nil=>exact absurd (toList_inj (hs.trans emp_toList.symm)) h
 | cons a l=>rfl
theorem zAt {s:ByteArray} (h:s=emp):s.toList.isEmpty=true:=by rw [h];exact emp_isEmpty
theorem slt_irrefl (a:ByteArray):slt a a=false:=by
 unfold slt;rw [zCw];simp [List.lt_irrefl]
theorem slt_trans {a b c:ByteArray} (h:slt a b=true) (k:slt b c=true):slt a c=true:=by
 unfold slt at *;rw [zCw] at *;simp only [decide_eq_true_eq] at *;exact List.lt_trans h k
theorem zBZ {a b:ByteArray} (h:sle a b=false):slt b a=true:=by
 unfold sle at h;unfold slt;rw [zCw] at *;simp only [Bool.or_eq_false_iff,decide_eq_false_iff_not,beq_eq_false_iff_ne] at h;simp only [decide_eq_true_eq];obtain ⟨h1,h2⟩:=h;rw [List.not_lt] at h1;refine Decidable.byContradiction fun h3=>h2 ?_
 rw [List.not_lt] at h3;exact List.le_antisymm h3 h1
theorem zCz {a b:ByteArray} (h:slt a b=true):a≠b:=by
 rintro rfl;rw [slt_irrefl] at h;cases h
def memS (l:List ByteArray) (s:ByteArray):Bool:=l.any fun x=>decide (x=s)
theorem memS_true {l:List ByteArray} {s:ByteArray}:memS l s=true↔s∈l:=by
 unfold memS;simp
structure Rg where
 nm:ByteArray
 par:ByteArray
structure Ar where
 rg:ByteArray
 out:Bool
instance:Inhabited Rg:=⟨⟨emp,emp⟩⟩
instance:Inhabited Ar:=⟨⟨emp,false⟩⟩
def idx (l:List Rg) (s:ByteArray):Option Nat:=l.findIdx? fun r=>decide (r.nm=s)
theorem idx_some {l:List Rg} {s:ByteArray} {i:Nat} (h:idx l s=some i):∃ hi:i<l.length,(l[i]).nm=s:=by
 obtain ⟨hi,hp,_⟩:=List.findIdx?_eq_some_iff_getElem.1 h;exact ⟨hi,by simpa using hp⟩
theorem idx_none {l:List Rg} {s:ByteArray} (h:idx l s=none) {i:Nat} (hi:i<l.length):(l[i]).nm≠s:=by
 have:=List.findIdx?_eq_none_iff.1 h l[i] (List.getElem_mem hi)
 simpa using this
theorem idx_mk {l:List Rg} {s:ByteArray} {i:Nat} (hi:i<l.length) (h:(l[i]).nm=s) (hmin:∀ j (hj:j<i),(l[j]).nm≠s):idx l s=some i :=
 List.findIdx?_eq_some_iff_getElem.2 ⟨hi,zv,fun j hj=>by simpa using hmin j hj⟩
def Inc (l:List Rg):Prop:=∀ i (h:i+1<l.length),slt (l[i]).nm (l[i+1]).nm=true
theorem Inc.lt {l:List Rg} (h:Inc l):∀ (d i:Nat) (hj:i+d+1<l.length),slt (l[i]).nm (l[i+d+1]).nm=true
 | 0,i,hj=>h i hj
 | d+1,i,hj=>slt_trans (h.lt d i za) (h (i+d+1) za)
theorem Inc.inj {l:List Rg} (h:Inc l) {i j:Nat} (hi:i<l.length) (hj:j<l.length) (e:(l[i]).nm=(l[j]).nm):i=j:=by
 rcases Nat.lt_trichotomy i j with h1 | h1 | h1
 ·obtain ⟨d,rfl⟩:∃ d,j=i+d+1:=⟨j - i - 1,za⟩
  exact absurd e (zCz (h.lt d i hj))
 ·exact h1
 ·obtain ⟨d,rfl⟩:∃ d,i=j+d+1:=⟨i - j - 1,za⟩
  exact absurd e.symm (zCz (h.lt d j hi))
theorem Inc.idx {l:List Rg} (h:Inc l) {i:Nat} (hi:i<l.length):idx l (l[i]).nm=some i :=
 idx_mk hi rfl fun j hj e=>absurd (h.inj za hi e) za
def up (l:List Rg) (i:Nat):Option Nat :=
 match l[i]? with
 | some r=>if r.par=emp then none else idx l r.par
 | none=>none
def upN (l:List Rg):Nat→Nat→Option Nat
 | 0,i=>some i
 | n+1,i=>match up l i with
  | some j=>upN l n j
  | none=>none
theorem up_lt {l:List Rg} {i j:Nat} (h:up l i=some j):i<l.length∧j<l.length:=by
 unfold up at h
 split at h
 ·rename_i r hr
  split at h
  ·cases h
  ·obtain ⟨hj,_⟩:=idx_some h
   exact ⟨(List.getElem?_eq_some_iff.1 hr).1,hj⟩
 ·cases h
theorem up_of {l:List Rg} {i:Nat} (hi:i<l.length):up l i=if (l[i]).par=emp then none else idx l (l[i]).par:=by
 unfold up;rw [List.getElem?_eq_getElem hi]
theorem upN_add (l:List Rg):∀ (a b i:Nat),upN l (a+b) i=(upN l a i).bind (upN l b)
 | 0,b,i=>by simp [upN]
 | a+1,b,i=>by
  rw [show a+1+b=(a+b)+1 from by omega,upN,upN]
  cases up l i with
  | none=>rfl
  | some j=>exact upN_add l a b j
theorem upN_none_mono {l:List Rg} {n m i:Nat} (h:upN l n i=none) (hm:n≤m):upN l m i=none:=by
 obtain ⟨d,rfl⟩:∃ d,m=n+d:=⟨m - n,za⟩;rw [upN_add,h];rfl
def EndsR (l:List Rg):Prop:=∀ i,i<l.length→upN l (l.length+2) i=none
theorem loop_forever {l:List Rg} {m i:Nat} (h:upN l m i=some i):∀ k,upN l (m*k) i=some i
 | 0=>by simp [upN]
 | k+1=>by rw [Nat.mul_succ,upN_add,loop_forever h k];exact h
theorem zBo {α:Type} {n k:Nat} {f:Nat→Option α} {x:α} (hk:k<n) (hpre:∀ j,j<k→f j=none) (h:f k=some x) :
  (List.range n).findSome? f=some x:=by
 obtain ⟨d,rfl⟩:∃ d,n=k+(d+1):=⟨n - k - 1,za⟩;rw [List.range_add,List.findSome?_append,List.findSome?_eq_none_iff.2 (fun j hj=>hpre j (List.mem_range.1 hj)),List.range_succ_eq_map]
 simp [h]
theorem zBx {α:Type} {n:Nat} {f:Nat→Option α} (h:∀ j,j<n→f j=none):(List.range n).findSome? f=none :=
 List.findSome?_eq_none_iff.2 fun j hj=>h j (List.mem_range.1 hj)
def okB (c:UInt8):Bool:=(decide (97≤c.toNat)&&decide (c.toNat≤122)) || (decide (48≤c.toNat)&&decide (c.toNat≤57)) || decide (c.toNat=45)
def zBp (s:ByteArray):Bool:=decide (1≤s.size)&&decide (s.size≤40)&&decide (97≤(s.data.toList.headD 0).toNat)&&decide ((s.data.toList.headD 0).toNat≤122)&&s.data.toList.all okB
theorem isNm_ne {s:ByteArray} (h:zBp s=true):s≠emp:=by
 rintro rfl
 revert h
 decide
def nmAt (l:List Rg) (i:Nat):ByteArray:=(l.getD i default).nm
theorem zBh {l:List Rg} {i:Nat} (h:i<l.length):nmAt l i=(l[i]).nm:=by simp [nmAt,List.getD,h]
def zBk (l:List Rg) (i:Nat):Option Int :=
 if zBp (nmAt l i)=false then some 5 else if 0<i∧sle (nmAt l i) (nmAt l (i - 1))=true then some 8 else none
def zCJ (l:List Rg) (r:Rg):Bool:=decide (r.par≠emp)&&(idx l r.par).isNone
instance (l:List Rg):Decidable (EndsR l):=inferInstanceAs (Decidable (∀ i,i<l.length→upN l (l.length+2) i=none))
def chkR (l:List Rg):Int :=
 if l=[] then 9 else if 200<l.length then 2 else
 match (List.range l.length).findSome? (zBk l) with
 | some f=>f
 | none=>if l.any (zCJ l)=true then 5 else if EndsR l then 0 else 14
structure GoodR (l:List Rg):Prop where
 ne:l≠[]
 len:l.length≤200
 nm:∀ i (h:i<l.length),zBp (l[i]).nm=true
 inc:Inc l
 par:∀ i (h:i<l.length),(l[i]).par≠emp→∃ j,idx l (l[i]).par=some j
 ends:EndsR l
theorem inc_of_fault {l:List Rg} (h:∀ i,i<l.length→zBk l i=none):(∀ i (h:i<l.length),zBp (l[i]).nm=true)∧Inc l:=by
 have hn:∀ i (h:i<l.length),zBp (l[i]).nm=true:=fun i hi=>by
  have:=h i hi;unfold zBk at this;rw [zBh hi] at this
  cases hb:zBp (l[i]).nm with
  | true=>rfl
  | false=>rw [if_pos hb] at this;cases this
 refine ⟨hn,fun i hi=>?_⟩
 have:=h (i+1) hi;unfold zBk at this;rw [zBh hi,if_neg (by rw [hn (i+1) hi];simp),show i+1 - 1=i from rfl,zBh za] at this
 refine zBZ ?_
 cases hb:sle (l[i+1]).nm (l[i]).nm with
 | false=>rfl
 | true=>rw [if_pos ⟨za,hb⟩] at this;cases this
theorem rgFault_ne {l:List Rg} {i:Nat} {f:Int} (h:zBk l i=some f):f≠0:=by
 unfold zBk at h
 split at h
 ·injection h with h;omega
 ·split at h
  ·injection h with h;omega
  ·cases h
theorem good_of {l:List Rg} (h:chkR l=0):GoodR l:=by
 unfold chkR at h
 split at h
 ·omega
 ·rename_i h1
  split at h
  ·omega
  ·rename_i h2
   split at h
   ·rename_i f hf
    obtain ⟨i,_,hi⟩:=List.exists_of_findSome?_eq_some hf;exact absurd h (rgFault_ne hi)
   ·rename_i hn
    have hn':∀ i,i<l.length→zBk l i=none:=fun i hi=>List.findSome?_eq_none_iff.1 hn i (List.mem_range.2 hi)
    obtain ⟨ha,hb⟩:=inc_of_fault hn'
    split at h
    ·omega
    ·rename_i h3
     split at h
     ·rename_i h4
      refine ⟨h1,za,ha,hb,fun i hi hne=>?_,h4⟩
      cases hx:idx l (l[i]).par with
      | some j=>exact ⟨j,rfl⟩
      | none=>exact absurd (List.any_eq_true.2 ⟨l[i],List.getElem_mem hi,by simp [zCJ,hne,hx]⟩) h3
     ·omega
def rgAt (a:List Ar) (i:Nat):ByteArray:=(a.getD i default).rg
theorem rgAt_of {a:List Ar} {i:Nat} (h:i<a.length):rgAt a i=(a[i]).rg:=by simp [rgAt,List.getD,h]
def zCc (l:List Rg) (a:List Ar) (i:Nat):Option Int :=
 if idx l (rgAt a i)=none then some 5 else if 0<i∧sle (rgAt a i) (rgAt a (i - 1))=true then some 8 else none
def chkA (l:List Rg) (a:List Ar):Int :=
 if 100<a.length then 2 else
 match (List.range a.length).findSome? (zCc l a) with
 | some f=>f
 | none=>0
def findA (a:List Ar) (s:ByteArray):Option Ar:=a.find? fun x=>decide (x.rg=s)
def liesF (l:List Rg) (a:List Ar):Nat→Nat→Bool
 | 0,_=>false
 | f+1,i=>match findA a (nmAt l i) with
  | some x=>!x.out
  | none=>match up l i with
   | some j=>liesF l a f j
   | none=>false
def lies (l:List Rg) (a:List Ar) (i:Nat):Bool:=liesF l a (l.length+2) i
def zAF (l:List Rg) (i:Nat):Bool:=l.any fun q=>decide (q.par=nmAt l i)
def zAz (l:List Rg):List Nat:=(List.range l.length).filter fun i=>!zAF l i
def zCv (l:List Rg) (a:List Ar):List ByteArray:=((zAz l).filter (lies l a)).map (nmAt l)
def zCo (l:List Rg):Nat→Nat→Nat→Bool
 | 0,_,_=>false
 | f+1,i,k=>decide (i=k) || match up l i with
  | some j=>zCo l f j k
  | none=>false
def under (l:List Rg) (i k:Nat):Bool:=zCo l (l.length+2) i k
def leavesS (l:List Rg) (a:List Ar):List ByteArray×Int :=
 if chkR l≠0 then ([],chkR l) else if chkA l a≠0 then ([],chkA l a) else (zCv l a,0)
theorem up_none {l:List Rg} {i:Nat} (hi:i<l.length) (h:(l[i]).par=emp):up l i=none:=by rw [up_of hi,if_pos h]
theorem GoodR.up_some {l:List Rg} (g:GoodR l) {i:Nat} (hi:i<l.length) (h:(l[i]).par≠emp):∃ j,∃ hj:j<l.length,up l i=some j∧(l[i]).par=(l[j]).nm:=by
 obtain ⟨j,hj⟩:=g.par i hi h;obtain ⟨hjl,e⟩:=idx_some hj;exact ⟨j,hjl,by rw [up_of hi,if_neg h];exact hj,e.symm⟩
theorem GoodR.nm_ne {l:List Rg} (g:GoodR l) {i:Nat} (hi:i<l.length):(l[i]).nm≠emp:=isNm_ne (g.nm i hi)
theorem GoodR.nm_inj {l:List Rg} (g:GoodR l) {i j:Nat} (hi:i<l.length) (hj:j<l.length) (e:(l[i]).nm=(l[j]).nm):i=j:=g.inc.inj hi hj e
open Go Go.RowKit
def Rd1 {α:Type} (f:α→Value) (w:World) (A:Option Addr) (l:List α):Prop :=
 0<l.length→∃ b o:Nat,A=some ⟨b,o,none⟩∧∀ i (h:i<l.length),w.cell? ⟨b,o+i,none⟩=some (f l[i])
def Rd2 {α:Type} (f g:α→Value) (w:World) (A:Option Addr) (l:List α):Prop :=
 0<l.length→∃ b o:Nat,A=some ⟨b,o,none⟩∧∀ i (h:i<l.length),w.cell? ⟨b,o+i*2,none⟩=some (f l[i])∧w.cell? ⟨b,o+i*2+1,none⟩=some (g l[i])
section
variable {α:Type} {f g:α→Value} {w w':World} {A:Option Addr} {l:List α}
theorem Rd1.nil:Rd1 f w A []:=fun h=>absurd h zd
theorem Rd2.nil:Rd2 f g w A []:=fun h=>absurd h zd
theorem Rd1.keep (h:Rd1 f w A l) (hk:∀ b o,b<w.heap.size→w'.cell? ⟨b,o,none⟩=w.cell? ⟨b,o,none⟩):Rd1 f w' A l:=fun hl=>by
 obtain ⟨b,o,rfl,hc⟩:=h hl;exact ⟨b,o,rfl,fun i hi=>(hk _ _ (World.block_lt_of_cell? w _ (hc i hi))).trans (hc i hi)⟩
theorem Rd2.keep (h:Rd2 f g w A l) (hk:∀ b o,b<w.heap.size→w'.cell? ⟨b,o,none⟩=w.cell? ⟨b,o,none⟩):Rd2 f g w' A l:=fun hl=>by
 obtain ⟨b,o,rfl,hc⟩:=h hl;exact ⟨b,o,rfl,fun i hi=>⟨(hk _ _ (World.block_lt_of_cell? w _ (hc i hi).1)).trans (hc i hi).1,(hk _ _ (World.block_lt_of_cell? w _ (hc i hi).2)).trans (hc i hi).2⟩⟩
theorem Rd1.below (h:Rd1 f w A l) (hb:Below w.heap.size w w'):Rd1 f w' A l:=h.keep fun _ _ hlt=>hb.cell hlt
theorem Rd2.below (h:Rd2 f g w A l) (hb:Below w.heap.size w w'):Rd2 f g w' A l:=h.keep fun _ _ hlt=>hb.cell hlt
theorem Rd1.alloc (h:Rd1 f w A l) (o:Obj):Rd1 f (w.alloc o) A l:=h.keep fun _ _ hlt=>World.cell?_alloc_lt _ _ _ hlt
theorem Rd1.drew (h:Rd1 f w A l):Rd1 f w.drew A l:=h
theorem Rd2.drew (h:Rd2 f g w A l):Rd2 f g w.drew A l:=h
theorem Rd1.drewN (h:Rd1 f w A l) (n:Nat):Rd1 f (w.drewN n) A l:=h
theorem Rd1.at_ (h:Rd1 f w A l) (hl:0<l.length):∃ b o:Nat,A=some ⟨b,o,none⟩∧b<w.heap.size∧∀ i (h:i<l.length),w.cell? ⟨b,o+i,none⟩=some (f l[i]):=by
 obtain ⟨b,o,rfl,hc⟩:=h hl;exact ⟨b,o,rfl,World.block_lt_of_cell? w _ (hc 0 hl),hc⟩
theorem Rd2.at_ (h:Rd2 f g w A l) (hl:0<l.length):∃ b o:Nat,A=some ⟨b,o,none⟩∧b<w.heap.size∧∀ i (h:i<l.length),w.cell? ⟨b,o+i*2,none⟩=some (f l[i])∧w.cell? ⟨b,o+i*2+1,none⟩=some (g l[i]):=by
 obtain ⟨b,o,rfl,hc⟩:=h hl;exact ⟨b,o,rfl,World.block_lt_of_cell? w _ (hc 0 hl).1,hc⟩
end
theorem zAb {a b c:World} (h:Below a.heap.size a b) (k:Below b.heap.size b c):Below a.heap.size a c:=h.trans (k.mono h.size)
theorem zAd {B:Nat} {a w:World} (h:Below B a w) (n:Nat):Below B a (w.drewN n):=⟨h.os,h.tape,h.output,h.size,h.block⟩
theorem Rd1.of_own {α:Type} {f:α→Value} {w:World} {base:Nat} {e:TypeId} {l:List α} {v:Value} (h:w.ownsRow base e 1 v l.length (l.map f)) :
  ∃ A c,v = .slice A l.length c∧Rd1 f w A l:=by
 rcases h.2 with ⟨rfl,hn⟩ | ⟨g,cap,cur,rfl,hb,hg,hnc,hm,hs,htake⟩
 ·exact ⟨none,0,by rw [hn],fun hl=>za⟩
 ·refine ⟨_,_,rfl,fun hl=>⟨g,0,rfl,fun i hi=>?_⟩⟩
  rw [Nat.zero_add,cell_of_row w g i cur e (0,0) hg];have:(cur.toList.take (l.length*1))[i]?=(l.map f)[i]?:=by rw [htake]
  rw [List.getElem?_take,if_pos za] at this
  simpa [hi] using this
structure ElemT (P:Program) (t e:TypeId) (z:Value) (size bytes:Nat):Prop where
 ty:P.underlying t=some (.slice e)
 info:(P.info? e).map (fun i=>(i.zero,i.size,i.bytes))=some (some z,size,bytes)
 zs:z.cells.size=size
 pos:0<size
def zAQ {α:Type} (enc:α→List Value) (k:Nat) (w:World) (base:Nat) (e:TypeId) (v:Value) (l:List α):Prop :=
 w.ownsRow base e k v l.length (l.flatMap enc)
section
variable {α:Type} {enc:α→List Value} {k:Nat} {w w':World} {base:Nat} {e:TypeId} {v:Value} {l:List α}
theorem zAQ.nil (enc:α→List Value) (k:Nat) (w:World) (base:Nat) (e:TypeId):zAQ enc k w base e (.slice none 0 0) ([]:List α):=World.ownsRow_nil w base e k
theorem zAQ.alloc (h:zAQ enc k w base e v l) (o:Obj):zAQ enc k (w.alloc o) base e v l:=World.ownsRow.alloc h o
theorem zAQ.grown {row:Option Nat} (h:zAQ enc k w base e v l) (hg:w.grownBy w' row) (hne:v.ownBlock=none∨v.ownBlock≠row):zAQ enc k w' base e v l:=World.ownsRow.kept h hg hne
theorem zAK (hb:Below w.heap.size w w') (row:Option Nat):w.grownBy w' row:=⟨hb.os,hb.tape,hb.output,hb.size,fun i hi _=>hb.block i hi⟩
theorem zAQ.below (h:zAQ enc k w base e v l) (hb:Below w.heap.size w w'):zAQ enc k w' base e v l :=
 h.grown (row:=none) (zAK hb none) (by cases hv:v.ownBlock<;>simp)
theorem zAQ.drewN (h:zAQ enc k w base e v l) (n:Nat):zAQ enc k (w.drewN n) base e v l:=h
theorem flat1 {f:α→Value} (l:List α):l.flatMap (fun x=>[f x])=l.map f:=by
 induction l with
 | nil=>rfl
 | cons a t ih=>simp [List.flatMap_cons,ih]
theorem zAQ.rd1 {f:α→Value} (h:zAQ (fun x=>[f x]) 1 w base e v l):∃ A c,v = .slice A l.length c∧Rd1 f w A l:=by
 refine Rd1.of_own (base:=base) (e:=e) ?_
 unfold zAQ at h;rw [flat1] at h;exact h
end
theorem zDB {P:Program} {α:Type} {enc:α→List Value} {k:Nat} {ops:Array Oper} {rest:List Oper} {o:Oper} {a:Act} {w:World} {Q:Exit→Act→World→Prop}
  {e:TypeId} {z:Value} {bytes:Nat} (s x:Operand) (t:TypeId) (hT:ElemT P t e z k bytes) (hgd:o.guard=none) (ho:o.op = .call { callee:=.builtin .append,args:=#[s,x],argTypes:=#[t,t] })
  (base:Nat) (v:Value) (l:List α) (hs:a.eval s=v) (hown:zAQ enc k w base e v l)
  (g cp:Nat) (y:α) (hx:a.eval x = .slice (some ⟨g,0,none⟩) 1 cp) (hnew:w.heap[g]?=some (.cells (enc y).toArray e (0,0)))
  (hk:(enc y).length=k) (hone:∀ u∈enc y,u.oneCell'=true) (hlen:l.length+1≤maxLen) (hbytes:(l.length+1)*bytes≤140737488355328) (hbase:base≤w.heap.size)
  (h:∀ v' w',zAQ enc k w' base e v' (l++[y])→w.grownBy w' v.ownBlock→Below base w w'→wpList P ops Q rest (a.put o.dst v') w'):wpList P ops Q (o::rest) a w:=by
 obtain ⟨i,hi,hz0,hz1,hz2⟩:=info_parts hT.info;refine wpList_append_own _ hgd s x t ho base e i z k bytes hT.ty hi hz0 hz1 hz2 hT.zs hT.pos v l.length (l.flatMap enc) hs hown ⟨g,0,none⟩ 1 cp (enc y) hx (by rw [hk];omega) ?_ hone hlen hbytes hbase ?_
 ·intro j u hj
  have:=World.news_of_block hnew j u qm;exact this
 ·intro v' w' h1 h2 _
  refine h v' w' ?_ h2 ((Below.refl _ _).grown h2 hbase fun j hj=>(World.ownsRow.lt hown j hj).1)
  unfold zAQ
  simpa using h1
end Dw
namespace Go.Proofs.YtieoifkdobcpiaaGreatDoor
open Go.RowKit Dw
abbrev Rgs:=Rd2 (fun r:Rg=>Value.string r.nm) (fun r:Rg=>Value.string r.par)
abbrev Ars:=Rd2 (fun x:Ar=>Value.string x.rg) (fun x:Ar=>Value.bool x.out)
abbrev Strs:=Rd1 Value.string
def zAP (v:Value) (w:World) (e:Ending) (w':World):Prop:=e = .returned v∧w=w'
theorem zAP.mk {v v':Value} {w w':World} (h:v=v') (hw:w=w'):zAP v' w (.returned v) w':=⟨by rw [h],hw⟩
theorem zAW {a b:Int} (h:a=b):Value.int .i64 a = .int .i64 b:=by rw [h]
theorem zAU {a b:Bool} (h:a=b):Value.bool a = .bool b:=by rw [h]
def leafB (l:List Rg) (nm:ByteArray):Bool:=(idx l nm).isSome&&!l.any fun q=>decide (q.par=nm)
theorem leafB_at {l:List Rg} (g:GoodR l) {i:Nat} (hi:i<l.length):leafB l (l[i]).nm = !zAF l i:=by
 unfold leafB zAF;rw [g.inc.idx hi,zBh hi]
 rfl
end Go.Proofs.YtieoifkdobcpiaaGreatDoor
namespace Go.Proofs.YtieoifkdobcpiaaGreatDoor
def zAf (B:Nat):List Nat→Nat
 | []=>0
 | a::l=>a+B*zAf B l
def WLt (B:Nat) (l:List Nat):Prop:=∀ x∈l,x<B
def zBf:List Nat→List Nat
 | []=>[]
 | a::l=>if zBf l=[]∧a=0 then [] else a::zBf l
def wordsF (B:Nat):Nat→Nat→List Nat
 | 0,_=>[]
 | f+1,n=>if n=0 then [] else n % B::wordsF B f (n / B)
def zAc (B n:Nat):List Nat:=wordsF B n n
theorem WLt.tail {B a:Nat} {l:List Nat} (h:WLt B (a::l)):WLt B l:=fun x hx=>h x (List.mem_cons_of_mem _ hx)
theorem WLt.head {B a:Nat} {l:List Nat} (h:WLt B (a::l)):a<B:=h a List.mem_cons_self
theorem WLt.nil {B:Nat}:WLt B []:=fun _ hx=>by cases hx
theorem WLt.cons {B a:Nat} {l:List Nat} (h:a<B) (hl:WLt B l):WLt B (a::l):=fun x hx=>by
 rcases List.mem_cons.1 hx with rfl | hx
 ·exact h
 ·exact hl x hx
theorem zAH (B:Nat):∀ l r:List Nat,zAf B (l++r)=zAf B l+B ^ l.length*zAf B r
 | [],r=>qe
 | a::l,r=>by
  rw [List.cons_append,zAf,zAf,zAH B l r,List.length_cons,Nat.pow_succ,Nat.mul_add,Nat.mul_comm (B ^ l.length) B,Nat.mul_assoc];omega
theorem zCV {B:Nat}:∀ {l:List Nat},WLt B l→zAf B l<B ^ l.length
 | [],_=>qe
 | a::l,h=>by
  have h1:=zCV h.tail;have h2:=h.head;rw [zAf,List.length_cons,Nat.pow_succ,Nat.mul_comm]
  calc a+zAf B l*B<B+zAf B l*B:=by omega
   _=(zAf B l+1)*B:=by rw [Nat.add_mul,Nat.one_mul,Nat.add_comm]
   _≤B ^ l.length*B:=Nat.mul_le_mul_right _ h1
theorem wval_zero {B:Nat}:∀ {l:List Nat},WLt B l→zAf B l=0→zBf l=[]
 | [],_,_=>rfl
 | a::l,h,e=>by
  have hB:0<B:=Nat.lt_of_le_of_lt (Nat.zero_le _) h.head;rw [zAf] at e;have h1:a=0:=za;have h2:B*zAf B l=0:=za
  have h3:zAf B l=0:=by
   rcases Nat.mul_eq_zero.1 h2 with h | h
   ·omega
   ·exact h
  rw [zBf,if_pos ⟨wval_zero h.tail h3,h1⟩]
theorem wtrim_eq {B:Nat}:∀ {l r:List Nat},WLt B l→WLt B r→zAf B l=zAf B r→zBf l=zBf r
 | [],r,_,hr,e=>(wval_zero hr e.symm).symm
 | a::l,[],hl,_,e=>wval_zero hl e
 | a::l,b::r,hl,hr,e=>by
  have h1:=hl.head;have h2:=hr.head;rw [zAf,zAf] at e
  have e1:a=b:=by
   have:=congrArg (· % B) e;simp only [Nat.add_mul_mod_self_left] at this
   rwa [Nat.mod_eq_of_lt h1,Nat.mod_eq_of_lt h2] at this
  have e2:zAf B l=zAf B r:=by
   have h3:B*zAf B l=B*zAf B r:=za;exact Nat.eq_of_mul_eq_mul_left za h3
  rw [zBf,zBf,wtrim_eq hl.tail hr.tail e2,e1]
theorem wordsF_ok {B:Nat} (hB:1<B):∀ f n:Nat,n≤f→zAf B (wordsF B f n)=n∧WLt B (wordsF B f n)∧zBf (wordsF B f n)=wordsF B f n
 | 0,n,h=>by
  obtain rfl:n=0:=za;exact ⟨rfl,WLt.nil,rfl⟩
 | f+1,n,h=>by
  rw [wordsF]
  split
  ·next h0=>subst h0;exact ⟨rfl,WLt.nil,rfl⟩
  ·next h0 =>
   have hlt:n / B<n:=Nat.div_lt_self za hB;obtain ⟨h1,h2,h3⟩:=wordsF_ok hB f (n / B) za;refine ⟨?_,WLt.cons (Nat.mod_lt _ za) h2,?_⟩
   ·rw [zAf,h1];exact Nat.mod_add_div n B
   ·rw [zBf,if_neg,h3]
    rintro ⟨e1,e2⟩;rw [h3] at e1;have e3:n / B=0:=by rw [←h1,e1];rfl
    have:=Nat.mod_add_div n B;rw [e2,e3] at this;omega
theorem zAj {B:Nat} (hB:1<B) (n:Nat):zAf B (zAc B n)=n:=(wordsF_ok hB n n (Nat.le_refl _)).1
theorem zAE {B:Nat} (hB:1<B) (n:Nat):WLt B (zAc B n):=(wordsF_ok hB n n (Nat.le_refl _)).2.1
theorem words_trim {B:Nat} (hB:1<B) (n:Nat):zBf (zAc B n)=zAc B n:=(wordsF_ok hB n n (Nat.le_refl _)).2.2
theorem zBK {B:Nat} (hB:1<B) {l:List Nat} (h:WLt B l):zBf l=zAc B (zAf B l):=by
 rw [←words_trim hB (zAf B l)];exact wtrim_eq h (zAE hB _) (zAj hB _).symm
theorem zCa {B:Nat} (hB:1<B) {n:Nat}:zAc B n=[]↔n=0 :=
 ⟨fun h=>by rw [←zAj hB n,h];rfl,fun h=>by subst h;rfl⟩
theorem zBe {B:Nat} (hB:1<B) (n:Nat):n<B ^ (zAc B n).length:=by
 have:=zCV (zAE hB n)
 rwa [zAj hB] at this
theorem digit_le {B q u v top v1 n:Nat} (h:q*v≤u) (hv:v1*B ^ n≤v) (hu:u<(top+1)*B ^ n) (h1:0<v1):q≤top / v1:=by
 rw [Nat.le_div_iff_mul_le h1]
 have h2:q*v1*B ^ n<(top+1)*B ^ n:=by
  calc q*v1*B ^ n=q*(v1*B ^ n):=by rw [Nat.mul_assoc]
   _≤q*v:=Nat.mul_le_mul_left _ hv
   _≤u:=h
   _<_:=hu
 have:=Nat.lt_of_mul_lt_mul_right h2;omega
theorem zBt (B a:Nat):zAf B [a]=a:=qe
theorem zAr {B i:Nat} {l:List Nat} (hi:i<l.length):zAf B (l.take (i+1))=zAf B (l.take i)+B ^ i*l[i]:=by
 rw [List.take_succ_eq_append_getElem hi,zAH,zBt,List.length_take,Nat.min_eq_left (Nat.le_of_lt hi)]
theorem zCU {B i:Nat} {l:List Nat} (hi:i<l.length):zAf B (l.drop i)=l[i]+B*zAf B (l.drop (i+1)):=by
 rw [List.drop_eq_getElem_cons hi,zAf]
theorem zCu (B i:Nat) (l:List Nat) (hi:i≤l.length):zAf B l=zAf B (l.take i)+B ^ i*zAf B (l.drop i):=by
 have:=zAH B (l.take i) (l.drop i);rw [List.take_append_drop,List.length_take,Nat.min_eq_left hi] at this;exact this
theorem add_col {B i x y o c a b s:Nat} (h:o+B ^ i*c=x+y) (hs:s=c+a+b):(o+B ^ i*(s % B))+B ^ (i+1)*(s / B)=(x+B ^ i*a)+(y+B ^ i*b):=by
 have h1:B ^ i*(s % B)+B ^ (i+1)*(s / B)=B ^ i*s:=by
  rw [Nat.pow_succ,Nat.mul_assoc,←Nat.mul_add,Nat.mod_add_div]
 have h2:B ^ i*s=B ^ i*c+B ^ i*a+B ^ i*b:=by rw [hs,Nat.mul_add,Nat.mul_add]
 omega
theorem next_lt {B r v x:Nat} (hr:r<v) (hx:x<B):x+B*r<v*B:=by
 calc x+B*r<B+B*r:=by omega
  _=(r+1)*B:=by rw [Nat.add_mul,Nat.one_mul,Nat.mul_comm B r,Nat.add_comm]
  _≤v*B:=Nat.mul_le_mul_right _ hr
theorem quot_lt {B u v:Nat} (h:u<v*B):u / v<B:=by
 have hv:0<v:=by
  rcases Nat.eq_zero_or_pos v with e | e
  ·subst e;simp at h
  ·exact e
 exact (Nat.div_lt_iff_lt_mul hv).2 (by rw [Nat.mul_comm];exact h)
theorem div_next {B r v x:Nat} (hv:0<v) (q:Nat):(x+B*(q*v+r)) / v=B*q+(x+B*r) / v∧(x+B*(q*v+r)) % v=(x+B*r) % v:=by
 have e:x+B*(q*v+r)=x+B*r+v*(B*q):=by
  rw [Nat.mul_add,←Nat.mul_assoc,Nat.mul_comm v];omega
 rw [e,Nat.add_mul_div_left _ _ hv,Nat.add_mul_mod_self_left];exact ⟨za,rfl⟩
theorem sub_col {B i:Nat} {x y o c a b s:Int} (h:o+(B:Int) ^ i*c=x - y) (hs:s=c+a - b) :
  (o+(B:Int) ^ i*(s % (B:Int)))+(B:Int) ^ (i+1)*(s / (B:Int))=(x+(B:Int) ^ i*a) - (y+(B:Int) ^ i*b):=by
 have h1:(B:Int) ^ i*(s % (B:Int))+(B:Int) ^ (i+1)*(s / (B:Int))=(B:Int) ^ i*s:=by
  rw [Int.pow_succ,Int.mul_assoc,←Int.mul_add,Int.emod_add_mul_ediv]
 have h2:(B:Int) ^ i*s=(B:Int) ^ i*c+(B:Int) ^ i*a - (B:Int) ^ i*b:=by rw [hs,Int.mul_sub,Int.mul_add]
 omega
theorem gcd_step {a b:Nat}:Nat.gcd a b=Nat.gcd b (a % b):=by
 rw [Nat.gcd_comm,Nat.gcd_rec,Nat.gcd_comm]
def zBv (l:List UInt8):Nat:=l.foldl (fun n c=>10*n+(c.toNat - 48)) 0
theorem decV_from (l:List UInt8):∀ n:Nat,l.foldl (fun n c=>10*n+(c.toNat - 48)) n=n*10 ^ l.length+zBv l:=by
 induction l with
 | nil=>intro n;simp [zBv]
 | cons c l ih =>
  intro n;have e:zBv (c::l)=l.foldl (fun n c=>10*n+(c.toNat - 48)) (10*0+(c.toNat - 48)):=rfl
  rw [List.foldl_cons,ih,e,ih,List.length_cons,Nat.pow_succ,Nat.add_mul]
  have h1:10*n*10 ^ l.length=n*(10 ^ l.length*10):=by
   rw [Nat.mul_comm 10 n,Nat.mul_assoc,Nat.mul_comm 10]
  rw [h1,Nat.mul_zero,Nat.zero_add];omega
theorem zCP (l r:List UInt8):zBv (l++r)=zBv l*10 ^ r.length+zBv r:=by
 unfold zBv;rw [List.foldl_append];exact decV_from r _
theorem decV_cut (l:List UInt8) (k:Nat):zBv l=zBv (l.take k)*10 ^ (l.length - k)+zBv (l.drop k):=by
 have:=zCP (l.take k) (l.drop k);rw [List.take_append_drop,List.length_drop] at this;exact this
theorem decV_lt {l:List UInt8} (h:∀ c∈l,c.toNat - 48<10):zBv l<10 ^ l.length:=by
 induction l with
 | nil=>simp [zBv]
 | cons c l ih =>
  have e:zBv (c::l)=l.foldl (fun n c=>10*n+(c.toNat - 48)) (10*0+(c.toNat - 48)):=rfl
  have h1:=ih fun x hx=>h x (List.mem_cons_of_mem _ hx)
  have h2:=h c List.mem_cons_self;rw [e,decV_from,List.length_cons,Nat.pow_succ]
  calc (10*0+(c.toNat - 48))*10 ^ l.length+zBv l<(10*0+(c.toNat - 48))*10 ^ l.length+10 ^ l.length:=by omega
   _=(c.toNat - 48+1)*10 ^ l.length:=by rw [Nat.mul_zero,Nat.zero_add,Nat.add_mul,Nat.one_mul]
   _≤10*10 ^ l.length:=Nat.mul_le_mul_right _ h2
   _=10 ^ l.length*10:=Nat.mul_comm _ _
theorem scale_col {B i m o c a s:Nat} (hs:s=c+m*a):o+B ^ i*(s % B)+B ^ (i+1)*(s / B)=o+B ^ i*c+B ^ i*(m*a):=by
 have h1:B ^ i*(s % B)+B ^ (i+1)*(s / B)=B ^ i*s:=by
  rw [Nat.pow_succ,Nat.mul_assoc,←Nat.mul_add,Nat.mod_add_div]
 have h2:B ^ i*s=B ^ i*c+B ^ i*(m*a):=by rw [hs,Nat.mul_add]
 omega
theorem wtrim_zero:∀ l:List Nat,zBf (l++[0])=zBf l
 | []=>by simp [zBf]
 | a::l=>by rw [List.cons_append,zBf,zBf,wtrim_zero l]
theorem wtrim_ne {a:Nat} (h:a≠0):∀ l:List Nat,zBf (l++[a])=l++[a]
 | []=>by simp [zBf,h]
 | b::l=>by
  rw [List.cons_append,zBf,wtrim_ne h l,if_neg];rintro ⟨e,_⟩;simp at e
theorem wtrim_take_zero {L:List Nat} {k:Nat} (hk:k<L.length) (h:L[k]=0):zBf (L.take (k+1))=zBf (L.take k):=by
 rw [List.take_succ_eq_append_getElem hk,h,wtrim_zero]
theorem zDD {L:List Nat} {k:Nat} (hk:k<L.length) (h:L[k]≠0):zBf (L.take (k+1))=L.take (k+1):=by
 rw [List.take_succ_eq_append_getElem hk,wtrim_ne h]
theorem wtrim_len (L:List Nat):(zBf L).length≤L.length:=by
 induction L with
 | nil=>simp [zBf]
 | cons a l ih =>
  rw [zBf]
  split<;>simp<;>omega
theorem zCD:∀ L:List Nat,zBf L=L.take (zBf L).length
 | []=>by simp [zBf]
 | a::l=>by
  rw [zBf]
  split
  ·simp
  ·rw [List.length_cons,List.take_succ_cons,←zCD l]
theorem wtrim_last:∀ {L:List Nat},zBf L=L→∀ (h:L≠[]),L.getLast h≠0
 | [],_,h=>absurd rfl h
 | [a],e,_=>by
  intro h0;have h1:a=0:=by simpa using h0
  subst h1;simp [zBf] at e
 | a::b::l,e,_=>by
  rw [zBf] at e
  split at e
  ·cases e
  ·injection e with _ e
   rw [List.getLast_cons zd];exact wtrim_last e zd
section
variable {B:Nat}
theorem zCh (hB:1<B) {n:Nat} (h:0<(zAc B n).length):(zAc B n)[(zAc B n).length - 1]≠0:=by
 have h0:zAc B n≠[]:=fun e=>by rw [e] at h;simp at h
 have:=wtrim_last (words_trim hB n) h0
 rwa [List.getLast_eq_getElem] at this
theorem wval_ge {l:List Nat} (h:0<l.length) (h0:l[l.length - 1]≠0):B ^ (l.length - 1)≤zAf B l:=by
 have e:l.length - 1<l.length:=za;have h1:=zAr (B:=B) e;rw [show l.length - 1+1=l.length by omega,List.take_length] at h1
 rw [h1];have:1≤l[l.length - 1]:=za;have h2:=Nat.mul_le_mul_left (B ^ (l.length - 1)) this;omega
theorem lt_of_len (hB:1<B) {a b:Nat} (h:(zAc B a).length<(zAc B b).length):a<b:=by
 have h1:=zBe hB a;have h2:=wval_ge (B:=B) (l:=zAc B b) za (zCh hB za);rw [zAj hB] at h2;have h3:B ^ (zAc B a).length≤B ^ ((zAc B b).length - 1):=Nat.pow_le_pow_right za za;omega
theorem zAY (hB:1<B) {a k:Nat} (h:a<B ^ k):(zAc B a).length≤k:=by
 rcases Nat.lt_or_ge k (zAc B a).length with h1 | h1
 ·have h2:=wval_ge (B:=B) (l:=zAc B a) za (zCh hB za)
  rw [zAj hB] at h2;have h3:B ^ k≤B ^ ((zAc B a).length - 1):=Nat.pow_le_pow_right za za;omega
 ·exact h1
theorem zAq (hB:1<B) {a b:Nat} (h:a≤b):(zAc B a).length≤(zAc B b).length :=
 zAY hB (Nat.lt_of_le_of_lt h (zBe hB b))
theorem wval_lt_of {l r:List Nat} (hl:WLt B l) (e:l.length=r.length) {i:Nat} (hi:i<l.length) (hi':i<r.length)
  (hd:l.drop (i+1)=r.drop (i+1)) (h:l[i]<r[i]):zAf B l<zAf B r:=by
 have h1:=zCu B i l za;have h2:=zCu B i r za;rw [zCU hi] at h1;rw [zCU hi',←hd] at h2;have h3:zAf B (l.take i)<B ^ (l.take i).length:=zCV fun x hx=>hl x (List.mem_of_mem_take hx)
 rw [List.length_take,Nat.min_eq_left za] at h3;have h4:B ^ i*(l[i]+1)≤B ^ i*r[i]:=Nat.mul_le_mul_left _ h;rw [h1,h2,Nat.mul_add,Nat.mul_add];rw [Nat.mul_add,Nat.mul_one] at h4;omega
end
def zCM (a b:Nat):Int:=if a<b then -1 else if a=b then 0 else 1
theorem zBw {a b:Nat} (h:a<b):zCM a b = -1:=by rw [zCM,if_pos h]
theorem zBu {a b:Nat} (h:b<a):zCM a b=1:=by rw [zCM,if_neg za,if_neg za]
theorem zCq {a b:Nat} (h:a=b):zCM a b=0:=by rw [zCM,if_neg za,if_pos h]
theorem step_col {B i:Nat} {W U V q u v w c lo hi b b':Int} (h:W=U - q*V+(B:Int) ^ i*(c+b)) (hC:c+q*v=lo+B*hi) (hw:w=u - lo - b+B*b') :
  W+(B:Int) ^ i*w=(U+(B:Int) ^ i*u) - q*(V+(B:Int) ^ i*v)+(B:Int) ^ (i+1)*(hi+b'):=by
 have h1:(B:Int) ^ i*w=(B:Int) ^ i*u - (B:Int) ^ i*lo - (B:Int) ^ i*b+(B:Int) ^ i*(B*b'):=by
  rw [hw,Int.mul_add,Int.mul_sub,Int.mul_sub]
 have h2:(B:Int) ^ i*(c+b)=(B:Int) ^ i*c+(B:Int) ^ i*b:=Int.mul_add ..
 have h3:q*(V+(B:Int) ^ i*v)=q*V+(B:Int) ^ i*(q*v):=by
  rw [Int.mul_add,Int.mul_left_comm]
 have h4:(B:Int) ^ (i+1)*(hi+b')=(B:Int) ^ i*(B*hi)+(B:Int) ^ i*(B*b'):=by
  rw [Int.pow_succ,Int.mul_assoc,Int.mul_add,Int.mul_add]
 have h5:(B:Int) ^ i*c+(B:Int) ^ i*(q*v)=(B:Int) ^ i*lo+(B:Int) ^ i*(B*hi):=by
  rw [←Int.mul_add,←Int.mul_add,hC]
 omega
theorem zDF (B:Nat):∀ (l:List Nat) (i:Nat) (x:Nat) (h:i<l.length),zAf B (l.set i x)+B ^ i*l[i]=zAf B l+B ^ i*x
 | [],i,x,h=>absurd h zd
 | a::l,0,x,_=>by simp [zAf];omega
 | a::l,i+1,x,h=>by
  have ih:=zDF B l i x zv;have e1:B ^ (i+1)*l[i]'(by simpa using h)=B*(B ^ i*l[i]'(by simpa using h)):=by rw [Nat.pow_succ,Nat.mul_comm (B ^ i) B,Nat.mul_assoc]
  have e2:B ^ (i+1)*x=B*(B ^ i*x):=by rw [Nat.pow_succ,Nat.mul_comm (B ^ i) B,Nat.mul_assoc]
  rw [List.set_cons_succ,zAf,zAf,List.getElem_cons_succ,e1,e2];have h2:=congrArg (B * ·) ih;simp only [Nat.mul_add] at h2;omega
theorem take_set_succ {α:Type} (l:List α) (k:Nat) (x:α) (h:k<l.length):(l.set k x).take (k+1)=l.take k++[x]:=by
 rw [List.take_succ_eq_append_getElem zv,List.take_set_of_le (Nat.le_refl k)];simp
theorem zDx {α:Type} (l:List α) (k:Nat) (x:α) (h:k<l.length):(l.set k x).drop k=x::l.drop (k+1):=by
 rw [List.drop_eq_getElem_cons zv,List.drop_set_of_lt (Nat.lt_succ_self k)];simp
theorem WLt.set {B:Nat} {l:List Nat} (h:WLt B l) {x:Nat} (hx:x<B) (i:Nat):WLt B (l.set i x):=fun y hy=>by
 rcases List.mem_or_eq_of_mem_set hy with h1 | h1
 ·exact h y h1
 ·rw [h1];exact hx
theorem WLt.take {B:Nat} {l:List Nat} (h:WLt B l) (k:Nat):WLt B (l.take k):=fun y hy=>h y (List.mem_of_mem_take hy)
theorem WLt.drop {B:Nat} {l:List Nat} (h:WLt B l) (k:Nat):WLt B (l.drop k):=fun y hy=>h y (List.mem_of_mem_drop hy)
theorem WLt.append {B:Nat} {l r:List Nat} (h:WLt B l) (k:WLt B r):WLt B (l++r):=fun y hy=>by
 rcases List.mem_append.1 hy with h1 | h1
 ·exact h y h1
 ·exact k y h1
theorem WLt.get {B:Nat} {l:List Nat} (h:WLt B l) (i:Nat) (hi:i<l.length):l[i]<B:=h _ (List.getElem_mem hi)
theorem WLt.zeros {B:Nat} (hB:0<B) (n:Nat):WLt B (List.replicate n 0):=fun y hy=>by
 rw [List.eq_of_mem_replicate hy];exact hB
theorem wval_zeros (B n:Nat):zAf B (List.replicate n 0)=0:=by
 induction n with
 | zero=>rfl
 | succ n ih=>rw [List.replicate_succ,zAf,ih];simp
theorem zDf {B:Nat} {l:List Nat} {k n:Nat} (h:zAf B (l.drop k)<B ^ n) (hk:k+n≤l.length):zAf B (l.drop (k+n))=0:=by
 have e:=zCu B n (l.drop k) (by rw [List.length_drop];omega)
 rw [List.drop_drop] at e
 rcases Nat.eq_zero_or_pos (zAf B (l.drop (k+n))) with h0 | h0
 ·exact h0
 ·have:B ^ n*1≤B ^ n*zAf B (l.drop (k+n)):=Nat.mul_le_mul_left _ h0
  omega
theorem shr_col {B i s R T u0 x y r:Nat} (hB:0<B) (hs:0<s) (hd:s∣B) (hx:x<B) (h:s*R+u0=T+B ^ i*(x % s)) (hr:r=(x+B*y) / s % B) :
  s*(R+B ^ i*r)+u0=(T+B ^ i*x)+B ^ (i+1)*(y % s):=by
 obtain ⟨m,rfl⟩:=hd
 have hm:0<m:=by
  rcases Nat.eq_zero_or_pos m with e | e
  ·subst e;simp at hB
  ·exact e
 have e1:(x+s*m*y) / s=x / s+m*y:=by rw [Nat.mul_assoc,Nat.add_mul_div_left _ _ hs]
 have e2:x / s<m:=(Nat.div_lt_iff_lt_mul hs).2 (by rw [Nat.mul_comm];exact hx)
 have e3:m*y=m*(y % s)+s*m*(y / s):=by
  conv=>lhs;rw [←Nat.mod_add_div y s]
  rw [Nat.mul_add,←Nat.mul_assoc,Nat.mul_comm m s]
 have e4:x / s+m*(y % s)<s*m:=by
  have:m*(y % s)≤m*(s - 1):=Nat.mul_le_mul_left _ (by have:=Nat.mod_lt y hs;omega)
  have h2:m*(s - 1)+m=s*m:=by
   rw [←Nat.mul_succ,Nat.mul_comm];congr 1;omega
  omega
 have e5:r=x / s+m*(y % s):=by
  rw [hr,e1,e3,←Nat.add_assoc,Nat.add_mul_mod_self_left,Nat.mod_eq_of_lt e4]
 have e6:s*r+x % s=x+s*m*(y % s):=by
  rw [e5,Nat.mul_add];have:=Nat.mod_add_div x s;rw [←Nat.mul_assoc];omega
 have h7:s*(R+(s*m) ^ i*r)=s*R+(s*m) ^ i*(s*r):=by rw [Nat.mul_add,Nat.mul_left_comm]
 have h8:=congrArg ((s*m) ^ i * ·) e6;simp only [Nat.mul_add] at h8;have h9:(s*m) ^ (i+1)*(y % s)=(s*m) ^ i*(s*m*(y % s)):=by rw [Nat.pow_succ,Nat.mul_assoc]
 rw [h7,h9];omega
theorem wval_window {B:Nat} {l W:List Nat} {j n:Nat} (hl:j+n≤l.length) (hW:W.length=n) (h0:zAf B (l.drop (j+n))=0) :
  zAf B ((l.take j++W++l.drop (j+n)).drop j)=zAf B W:=by
 have h1:(l.take j).length=j:=by rw [List.length_take];omega
 rw [List.append_assoc,List.drop_append_of_le_length za,List.drop_of_length_le za,List.nil_append,zAH,h0];simp
open Go.RowKit Dw
def B32:Nat:=4294967296
theorem zAo:1<B32:=zc
theorem zBT:0<B32:=zc
theorem zCg:B32=4294967296:=rfl
def u32V:Nat→Value:=fun n=>Value.int .u32 (n:Int)
theorem zBr (n:Nat):u32V n=Value.int .u32 (n:Int):=rfl
abbrev Wds:=Rd1 u32V
structure Nt (w:World) (A:Option Addr) (c n:Nat):Prop where
 rd:Wds w A (zAc B32 n)
 cap:(zAc B32 n).length≤c
abbrev ntV (A:Option Addr) (c n:Nat):Value:=.slice A (zAc B32 n).length c
theorem Nt.below {w w':World} {A:Option Addr} {c n:Nat} (h:Nt w A c n) (hb:Below w.heap.size w w'):Nt w' A c n:=⟨h.rd.below hb,h.cap⟩
theorem Nt.drewN {w:World} {A:Option Addr} {c n:Nat} (h:Nt w A c n) (k:Nat):Nt (w.drewN k) A c n:=⟨h.rd.drewN k,h.cap⟩
def zDg (n:Nat) (w:World) (e:Ending) (w':World):Prop:=∃ A c,e = .returned (ntV A c n)∧Nt w' A c n∧Below w.heap.size w w'
def zBc (v:Value) (w:World) (e:Ending) (w':World):Prop:=e = .returned v∧∃ n,w'=w.drewN n
theorem zBc.mk {v v':Value} {w w':World} (h:v=v') (hw:∃ n,w'=w.drewN n):zBc v' w (.returned v) w':=⟨by rw [h],hw⟩
def zBN (w:World) (g:Nat) (L:List Nat):Prop:=w.heap[g]?=some (.cells (L.map u32V).toArray 197 (0,0))
section
variable {w w':World} {g:Nat} {L:List Nat}
theorem zBN.lt (h:zBN w g L):g<w.heap.size:=(Array.getElem?_eq_some_iff.1 h).1
theorem zBN.cell (h:zBN w g L) (i:Nat) (hi:i<L.length):w.cell? ⟨g,i,none⟩=some (.int .u32 ((L[i]:Nat):Int)):=by
 rw [cell_of_row w g i _ _ _ h];simp [hi,u32V]
theorem zBN.frozen (h:zBN w g L) (i:Nat):w.frozen? ⟨g,i,none⟩=false:=frozen_of_row w g i _ _ h
theorem zBN.set (h:zBN w g L) (i x:Nat):zBN (w.setCell ⟨g,i,none⟩ (.int .u32 (x:Int))) g (L.set i x):=by
 have h1:(w.setCell ⟨g,i,none⟩ (.int .u32 (x:Int))).heap[g]?=some (.cells ((L.map u32V).toArray.setIfInBounds i (.int .u32 (x:Int))) 197 (0,0)):=by
  unfold zBN at h;simp [World.setCell,Array.getElem?_modify,h]
 unfold zBN;rw [h1,List.setIfInBounds_toArray,List.map_set]
 rfl
theorem zBN.rd (h:zBN w g L) (k:Nat):Wds w (some ⟨g,0,none⟩) (L.take k):=fun _=>⟨g,0,rfl,fun i hi=>by
 have hi':i<L.length:=by rw [List.length_take] at hi;omega
 rw [Nat.zero_add,h.cell i hi',List.getElem_take];rfl⟩
theorem zBN.below (h:zBN w g L) (hb:Below w.heap.size w w'):zBN w' g L:=(hb.block g h.lt).trans h
theorem zBN.far (h:zBN w g L) {p:Addr} (hp:g≠p.block) (u:Value):zBN (w.setCell p u) g L:=(Below.heap_setCell w p u g hp).trans h
theorem zBN.new (w:World) (n:Nat):zBN (w.alloc (.cells (Array.replicate n (.int .u32 0)) 197)) w.heap.size (List.replicate n 0):=by
 unfold zBN;rw [heap_alloc_new]
 congr 2
 apply Array.toList_inj.1
 simp [u32V]
end
theorem run_makeN1 {P:Program} (t e:TypeId) {z:Value} {bytes:Nat} (hT:ElemT P t e z 1 bytes) (n:Nat) (hb:bytes*n≤281474976710656) (h63:n≤9223372036854775807) (hz:z.cells=#[z]) (w:World) :
  (Instr.makeSlice t (.int .i64 (n:Int)) (.int .i64 (n:Int))).run P w = .ok (.slice (some ⟨w.heap.size,0,none⟩) n n) (w.alloc (.cells (Array.replicate n z) e)):=by
 obtain ⟨i,hi,hz0,hz1,hz2⟩:=info_parts hT.info
 have hb':(i.bytes:Int)*(n:Int)≤281474976710656:=by
  rw [hz2];have h:((bytes*n:Nat):Int)≤281474976710656:=za
  rwa [Int.natCast_mul] at h
 have hr:=run_make (P:=P) w t e i z hT.ty hi hz0 .i64 .i64 n n za za hb' za;simp only [Int.toNat_natCast] at hr;rw [hz1,hz,Nat.mul_one] at hr
 have e1:madeCells #[z] n=Array.replicate n z:=by
  apply Array.toList_inj.1
  rw [toList_madeCells_one,Array.toList_replicate]
 rw [e1] at hr;exact hr
theorem elNat:ElemT Tryz.prog 85 197 (.int .u32 0) 1 4:=⟨Tryz.underlying85,zb,rfl,zc⟩
theorem mk_nat (n:Nat) (h:n≤1000000000) (w:World):(Instr.makeSlice 85 (.int .i64 (n:Int)) (.int .i64 (n:Int))).run Tryz.prog w = .ok (.slice (some ⟨w.heap.size,0,none⟩) n n) (w.alloc (.cells (Array.replicate n (.int .u32 0)) 197)) :=
 run_makeN1 _ _ elNat n za za rfl w
def TrimRel (w:World) (A:Option Addr) (c:Nat) (L:List Nat) (m:Nat) (a:Value) (wr:World):Prop :=
 wr=w∧∃ k:Nat,k=m∧k≤L.length∧a = .slice A k c∧zBf (L.take k)=zBf L
theorem trim_c (A:Option Addr) (c:Nat) (L:List Nat) (w:World) (hn:L.length≤1000000000) (hc:L.length≤c) (h:Wds w A L) :
  Calls Tryz.prog 172 #[.slice A L.length c] w (zAP (.slice A (zBf L).length c) w):=by
 go_enter Tryz.func172,Tryz.ntmps172
 go_wp2
 go_loopg [0] L.length (TrimRel w A c L)
 case atStart=>exact ⟨rfl,L.length,rfl,Nat.le_refl _,rfl,by rw [List.take_length]⟩
 case round =>
  obtain ⟨hw,k,hm,hk,rfl,ht⟩:=hrel;subst hw;have HM:=zq hm;have HT:=zq ht;clear hm ht
  rcases Nat.eq_zero_or_pos k with h0 | h0
  ·subst h0
   go_wp2;go_ret
   refine zAP.mk ?_ rfl
   rw [←HT.o];rfl
  ·obtain ⟨j,rfl⟩:∃ j,k=j+1:=⟨k - 1,za⟩
   obtain ⟨b,o,rfl,hb,hcl⟩:=h.at_ za;have hj:j<L.length:=za;have hc0:=hcl j hj;rw [zBr] at hc0;clear hcl
   by_cases hz:L[j]=0
   ·have HZ:=zq hz
    rw [hz] at hc0;clear hz;go_wp2
    go_roundg (gk - 1)
    case measure=>have:=HM.o;omega
    case rel=>exact ⟨rfl,j,zx,za,zd,by rw [←HT.o,wtrim_take_zero hj HZ.o]⟩
   ·have hzb:(((L[j]:Nat):Int) == 0)=false:=by simpa using hz
    have HZ:=zq hz;clear hz;go_wp2;go_ret
    refine zAP.mk ?_ rfl
    have e:=HT.o;rw [zDD hj HZ.o] at e;have e2:=congrArg List.length e;rw [List.length_take,Nat.min_eq_left hk] at e2;rw [←e2]
    rfl
theorem trim_n (A:Option Addr) (c:Nat) (L:List Nat) (w w0:World) (hn:L.length≤1000000000) (hc:L.length≤c) (h:Wds w A L) (hl:WLt B32 L) (hb:Below w0.heap.size w0 w) {n:Nat} (hv:zAf B32 L=n) :
  Calls Tryz.prog 172 #[.slice A L.length c] w (zDg n w0):=by
 have e:zBf L=zAc B32 n:=by rw [zBK zAo hl,hv]
 refine (trim_c A c L w hn hc h).mono ?_
 rintro _ _ ⟨rfl,rfl⟩;refine ⟨A,c,by rw [e],⟨?_,?_⟩,hb⟩
 ·rw [←e]
  intro hp;obtain ⟨b,o,rfl,hlt,hcl⟩:=h.at_ ql;refine ⟨b,o,rfl,fun i hi=>?_⟩
  have hi':i<L.length:=ql;rw [hcl i hi']
  have:(zBf L)[i]=L[i]:=by
   have h1:=zCD L;rw [List.getElem_of_eq h1 hi,List.getElem_take]
  rw [this]
 ·rw [←e];have:=wtrim_len L;omega
end Go.Proofs.YtieoifkdobcpiaaGreatDoor
