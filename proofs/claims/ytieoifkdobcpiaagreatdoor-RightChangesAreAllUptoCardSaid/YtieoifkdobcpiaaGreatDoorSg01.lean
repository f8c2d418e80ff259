/- Parts of the proof, joined: Plain facts about regions, areas and chains of parents: no program in . -/
import Derived.Test.YtieoifkdobcpiaaGreatDoorSg00
import GoSem.Op.String
import Derived.WalkKit
import Derived.Lib.Hide
import Derived.Deep.LoopGhost
import Derived.WalkLawsBesides
import Derived.WalkSpells
import Derived.Deep.AppendLies
import Derived.Maps.AppendAt
import Derived.Deep.QuietTactic
import Derived.BigQuiet
import Derived.Test.YtieoifkdobcpiaaGreatDoorProg
import Derived.Laws.BitsAllLaws
set_option maxRecDepth 100000
set_option maxHeartbeats 8000000
namespace Dw
def sle (a b:BA):Bool:=Go.Op.bytesLess a.toList b.toList || a.toList == b.toList
def slt (a b:BA):Bool:=Go.Op.bytesLess a.toList b.toList
theorem zCo:∀ (x y:List UInt8),Go.Op.bytesLess x y=decide (x<y)
 | [],[]=>by simp [Go.Op.bytesLess]
 | _::_,[]=>by simp [Go.Op.bytesLess]
 | [],_::_=>by simp [Go.Op.bytesLess]
 | a::x,b::y=>by
  rw [Go.Op.bytesLess,zCo x y,aA];simp [List.cons_lt_cons_iff]
theorem loop_eq (bs:BA):∀ (n i:Nat) (r:List UInt8),bs.size - i=n→i≤bs.size →
  ByteArray.toList.loop bs i r=r.reverse++bs.data.toList.drop i:=by
 have hlen:bs.data.toList.length=bs.size:=by cases bs;rfl
 intro n
 induction n with
 | zero =>
  intro i r h hi;have e:i=bs.size:=za;subst e;have hd:bs.data.toList.drop bs.size=[]:=aB (by rw [hlen];exact aC _)
  rw [ByteArray.toList.loop,aD (Nat.lt_irrefl _),hd,aE]
 | succ n ih =>
  intro i r h hi;have hlt:i<bs.size:=za;rw [ByteArray.toList.loop,aF hlt,ih (i+1) _ za za];have hl:i<bs.data.toList.length:=by rw [hlen];exact hlt
  rw [aG hl]
  have hg:bs.get! i=bs.data.toList[i]:=by
   cases bs with
   | mk d =>
    have hd:i<d.size:=hlt;simp [ByteArray.get!,hd]
  simp [hg]
theorem toList_eq (bs:BA):bs.toList=bs.data.toList:=by
 unfold ByteArray.toList;rw [loop_eq bs bs.size 0 [] za za];simp
theorem toList_inj {a b:BA} (h:a.toList=b.toList):a=b:=by
 rw [toList_eq,toList_eq] at h;exact ByteArray.ext (Array.toList_inj.1 h)
theorem str_eq {a b:BA} (h:(a.toList == b.toList)=true):a=b:=toList_inj zv
theorem zBb {a b:BA} (h:a=b):(a.toList == b.toList)=true:=by rw [h];simp
theorem zAM {a b:BA} (h:a≠b):(a.toList == b.toList)=false:=by
 rw [beq_eq_false_iff_ne];exact fun e=>h (toList_inj e)
def emp:BA:=⟨#[]⟩
theorem emp_toList:emp.toList=[]:=by rw [toList_eq];rfl
theorem emp_isEmpty:emp.toList.isEmpty=true:=by rw [emp_toList];rfl
theorem zAy {s:BA} (h:s≠emp):s.toList.isEmpty=false:=by
 cases hs:s.toList with
 | nil=>exact absurd (toList_inj (hs.trans emp_toList.symm)) h
 | cons a l=>rfl
theorem zAx {s:BA} (h:s=emp):s.toList.isEmpty=true:=by rw [h];exact emp_isEmpty
theorem slt_irrefl (a:BA):slt a a=false:=by
 unfold slt;rw [zCo];simp [List.lt_irrefl]
theorem slt_trans {a b c:BA} (h:slt a b=true) (k:slt b c=true):slt a c=true:=by
 unfold slt at *;rw [zCo] at *;simp only [aH] at *;exact List.lt_trans h k
theorem zBT {a b:BA} (h:sle a b=false):slt b a=true:=by
 unfold sle at h;unfold slt;rw [zCo] at *;simp only [aI,decide_eq_false_iff_not,beq_eq_false_iff_ne] at h;simp only [aH];obtain ⟨h1,h2⟩:=h;rw [List.not_lt] at h1;refine Decidable.byContradiction fun h3=>h2 ?_
 rw [List.not_lt] at h3;exact List.le_antisymm h3 h1
theorem zCr {a b:BA} (h:slt a b=true):a≠b:=by
 rintro rfl;rw [slt_irrefl] at h;cases h
def memS (l:List BA) (s:BA):Bool:=l.any fun x=>decide (x=s)
theorem zBR {l:List BA} {s:BA}:memS l s=true↔s∈l:=by
 unfold memS;simp
theorem memS_false {l:List BA} {s:BA}:memS l s=false↔s∉l:=by
 rw [←zBR];simp
structure Rg where
 nm:BA
 par:BA
structure Ar where
 rg:BA
 out:Bool
instance:Inhabited Rg:=⟨⟨emp,emp⟩⟩
instance:Inhabited Ar:=⟨⟨emp,false⟩⟩
def idx (l:List Rg) (s:BA):Option Nat:=l.findIdx? fun r=>decide (r.nm=s)
theorem idx_some {l:List Rg} {s:BA} {i:Nat} (h:idx l s=some i):∃ hi:i<l.length,(l[i]).nm=s:=by
 obtain ⟨hi,hp,_⟩:=List.findIdx?_eq_some_iff_getElem.1 h;exact ⟨hi,by simpa using hp⟩
theorem idx_none {l:List Rg} {s:BA} (h:idx l s=none) {i:Nat} (hi:i<l.length):(l[i]).nm≠s:=by
 have:=List.findIdx?_eq_none_iff.1 h l[i] (aJ hi)
 simpa using this
theorem idx_mk {l:List Rg} {s:BA} {i:Nat} (hi:i<l.length) (h:(l[i]).nm=s) (hmin:∀ j (hj:j<i),(l[j]).nm≠s):idx l s=some i :=
 List.findIdx?_eq_some_iff_getElem.2 ⟨hi,zv,fun j hj=>by simpa using hmin j hj⟩
def Inc (l:List Rg):Prop:=∀ i (h:i+1<l.length),slt (l[i]).nm (l[i+1]).nm=true
theorem Inc.lt {l:List Rg} (h:Inc l):∀ (d i:Nat) (hj:i+d+1<l.length),slt (l[i]).nm (l[i+d+1]).nm=true
 | 0,i,hj=>h i hj
 | d+1,i,hj=>slt_trans (h.lt d i za) (h (i+d+1) za)
theorem Inc.inj {l:List Rg} (h:Inc l) {i j:Nat} (hi:i<l.length) (hj:j<l.length) (e:(l[i]).nm=(l[j]).nm):i=j:=by
 rcases Nat.lt_trichotomy i j with h1 | h1 | h1
 ·obtain ⟨d,rfl⟩:∃ d,j=i+d+1:=⟨j - i - 1,za⟩
  exact absurd e (zCr (h.lt d i hj))
 ·exact h1
 ·obtain ⟨d,rfl⟩:∃ d,i=j+d+1:=⟨i - j - 1,za⟩
  exact absurd e.symm (zCr (h.lt d j hi))
theorem Inc.idx {l:List Rg} (h:Inc l) {i:Nat} (hi:i<l.length):idx l (l[i]).nm=some i :=
 idx_mk hi rfl fun j hj e=>absurd (h.inj za hi e) za
def up (l:List Rg) (i:Nat):Option Nat :=
 match l[i]? with
 | some r=>if r.par=emp then none else idx l r.par
 | none=>none
def upN (l:List Rg):Nat→Nat→Option Nat
 | 0,i=>some i
 | n+1,i=>match up l i with
  | some j=>upN l n j
  | none=>none
theorem up_lt {l:List Rg} {i j:Nat} (h:up l i=some j):i<l.length∧j<l.length:=by
 unfold up at h
 split at h
 ·rename_i r hr
  split at h
  ·cases h
  ·obtain ⟨hj,_⟩:=idx_some h
   exact ⟨(List.getElem?_eq_some_iff.1 hr).1,hj⟩
 ·cases h
theorem up_of {l:List Rg} {i:Nat} (hi:i<l.length):up l i=if (l[i]).par=emp then none else idx l (l[i]).par:=by
 unfold up;rw [List.getElem?_eq_getElem hi]
theorem upN_add (l:List Rg):∀ (a b i:Nat),upN l (a+b) i=(upN l a i).bind (upN l b)
 | 0,b,i=>by simp [upN]
 | a+1,b,i=>by
  rw [show a+1+b=(a+b)+1 from by omega,upN,upN]
  cases up l i with
  | none=>rfl
  | some j=>exact upN_add l a b j
theorem upN_none_mono {l:List Rg} {n m i:Nat} (h:upN l n i=none) (hm:n≤m):upN l m i=none:=by
 obtain ⟨d,rfl⟩:∃ d,m=n+d:=⟨m - n,za⟩;rw [upN_add,h];rfl
def EndsR (l:List Rg):Prop:=∀ i,i<l.length→upN l (l.length+2) i=none
theorem loop_forever {l:List Rg} {m i:Nat} (h:upN l m i=some i):∀ k,upN l (m*k) i=some i
 | 0=>by simp [upN]
 | k+1=>by rw [Nat.mul_succ,upN_add,loop_forever h k];exact h
theorem zBk {α:Type} {n k:Nat} {f:Nat→Option α} {x:α} (hk:k<n) (hpre:∀ j,j<k→f j=none) (h:f k=some x) :
  (List.range n).findSome? f=some x:=by
 obtain ⟨d,rfl⟩:∃ d,n=k+(d+1):=⟨n - k - 1,za⟩;rw [List.range_add,List.findSome?_append,List.findSome?_eq_none_iff.2 (fun j hj=>hpre j (List.mem_range.1 hj)),List.range_succ_eq_map]
 simp [h]
theorem zBq {α:Type} {n:Nat} {f:Nat→Option α} (h:∀ j,j<n→f j=none):(List.range n).findSome? f=none :=
 List.findSome?_eq_none_iff.2 fun j hj=>h j (List.mem_range.1 hj)
def okB (c:UInt8):Bool:=(decide (97≤c.toNat)&&decide (c.toNat≤122)) || (decide (48≤c.toNat)&&decide (c.toNat≤57)) || decide (c.toNat=45)
def zAT (s:BA):Bool:=decide (1≤s.size)&&decide (s.size≤40)&&decide (97≤(s.data.toList.headD 0).toNat)&&decide ((s.data.toList.headD 0).toNat≤122)&&s.data.toList.all okB
theorem isNm_ne {s:BA} (h:zAT s=true):s≠emp:=by
 rintro rfl
 revert h
 decide
def nmAt (l:List Rg) (i:Nat):BA:=(l.getD i default).nm
theorem zBd {l:List Rg} {i:Nat} (h:i<l.length):nmAt l i=(l[i]).nm:=by simp [nmAt,List.getD,h]
def zBh (l:List Rg) (i:Nat):Option Int :=
 if zAT (nmAt l i)=false then some 5 else if 0<i∧sle (nmAt l i) (nmAt l (i - 1))=true then some 8 else none
def zCB (l:List Rg) (r:Rg):Bool:=decide (r.par≠emp)&&(idx l r.par).isNone
instance (l:List Rg):Decidable (EndsR l):=inferInstanceAs (Decidable (∀ i,i<l.length→upN l (l.length+2) i=none))
def chkR (l:List Rg):Int :=
 if l=[] then 9 else if 200<l.length then 2 else
 match (List.range l.length).findSome? (zBh l) with
 | some f=>f
 | none=>if l.any (zCB l)=true then 5 else if EndsR l then 0 else 14
structure GoodR (l:List Rg):Prop where
 ne:l≠[]
 len:l.length≤200
 nm:∀ i (h:i<l.length),zAT (l[i]).nm=true
 inc:Inc l
 par:∀ i (h:i<l.length),(l[i]).par≠emp→∃ j,idx l (l[i]).par=some j
 ends:EndsR l
theorem inc_of_fault {l:List Rg} (h:∀ i,i<l.length→zBh l i=none):(∀ i (h:i<l.length),zAT (l[i]).nm=true)∧Inc l:=by
 have hn:∀ i (h:i<l.length),zAT (l[i]).nm=true:=fun i hi=>by
  have:=h i hi;unfold zBh at this;rw [zBd hi] at this
  cases hb:zAT (l[i]).nm with
  | true=>rfl
  | false=>rw [aF hb] at this;cases this
 refine ⟨hn,fun i hi=>?_⟩
 have:=h (i+1) hi;unfold zBh at this;rw [zBd hi,aD (by rw [hn (i+1) hi];simp),show i+1 - 1=i from rfl,zBd za] at this
 refine zBT ?_
 cases hb:sle (l[i+1]).nm (l[i]).nm with
 | false=>rfl
 | true=>rw [aF ⟨za,hb⟩] at this;cases this
theorem rgFault_ne {l:List Rg} {i:Nat} {f:Int} (h:zBh l i=some f):f≠0:=by
 unfold zBh at h
 split at h
 ·injection h with h;omega
 ·split at h
  ·injection h with h;omega
  ·cases h
theorem good_of {l:List Rg} (h:chkR l=0):GoodR l:=by
 unfold chkR at h
 split at h
 ·omega
 ·rename_i h1
  split at h
  ·omega
  ·rename_i h2
   split at h
   ·rename_i f hf
    obtain ⟨i,_,hi⟩:=List.exists_of_findSome?_eq_some hf;exact absurd h (rgFault_ne hi)
   ·rename_i hn
    have hn':∀ i,i<l.length→zBh l i=none:=fun i hi=>List.findSome?_eq_none_iff.1 hn i (List.mem_range.2 hi)
    obtain ⟨ha,hb⟩:=inc_of_fault hn'
    split at h
    ·omega
    ·rename_i h3
     split at h
     ·rename_i h4
      refine ⟨h1,za,ha,hb,fun i hi hne=>?_,h4⟩
      cases hx:idx l (l[i]).par with
      | some j=>exact ⟨j,rfl⟩
      | none=>exact absurd (List.any_eq_true.2 ⟨l[i],aJ hi,by simp [zCB,hne,hx]⟩) h3
     ·omega
def rgAt (a:List Ar) (i:Nat):BA:=(a.getD i default).rg
theorem rgAt_of {a:List Ar} {i:Nat} (h:i<a.length):rgAt a i=(a[i]).rg:=by simp [rgAt,List.getD,h]
def zBV (l:List Rg) (a:List Ar) (i:Nat):Option Int :=
 if idx l (rgAt a i)=none then some 5 else if 0<i∧sle (rgAt a i) (rgAt a (i - 1))=true then some 8 else none
def chkA (l:List Rg) (a:List Ar):Int :=
 if 100<a.length then 2 else
 match (List.range a.length).findSome? (zBV l a) with
 | some f=>f
 | none=>0
def findA (a:List Ar) (s:BA):Option Ar:=a.find? fun x=>decide (x.rg=s)
def liesF (l:List Rg) (a:List Ar):Nat→Nat→Bool
 | 0,_=>false
 | f+1,i=>match findA a (nmAt l i) with
  | some x=>!x.out
  | none=>match up l i with
   | some j=>liesF l a f j
   | none=>false
def lies (l:List Rg) (a:List Ar) (i:Nat):Bool:=liesF l a (l.length+2) i
def zAB (l:List Rg) (i:Nat):Bool:=l.any fun q=>decide (q.par=nmAt l i)
def zAm (l:List Rg):List Nat:=(List.range l.length).filter fun i=>!zAB l i
def zCn (l:List Rg) (a:List Ar):List BA:=((zAm l).filter (lies l a)).map (nmAt l)
def zCg (l:List Rg):Nat→Nat→Nat→Bool
 | 0,_,_=>false
 | f+1,i,k=>decide (i=k) || match up l i with
  | some j=>zCg l f j k
  | none=>false
def under (l:List Rg) (i k:Nat):Bool:=zCg l (l.length+2) i k
def leavesS (l:List Rg) (a:List Ar):List BA×Int :=
 if chkR l≠0 then ([],chkR l) else if chkA l a≠0 then ([],chkA l a) else (zCn l a,0)
theorem up_none {l:List Rg} {i:Nat} (hi:i<l.length) (h:(l[i]).par=emp):up l i=none:=by rw [up_of hi,aF h]
theorem GoodR.up_some {l:List Rg} (g:GoodR l) {i:Nat} (hi:i<l.length) (h:(l[i]).par≠emp):∃ j,∃ hj:j<l.length,up l i=some j∧(l[i]).par=(l[j]).nm:=by
 obtain ⟨j,hj⟩:=g.par i hi h;obtain ⟨hjl,e⟩:=idx_some hj;exact ⟨j,hjl,by rw [up_of hi,aD h];exact hj,e.symm⟩
theorem GoodR.nm_ne {l:List Rg} (g:GoodR l) {i:Nat} (hi:i<l.length):(l[i]).nm≠emp:=isNm_ne (g.nm i hi)
theorem GoodR.nm_inj {l:List Rg} (g:GoodR l) {i j:Nat} (hi:i<l.length) (hj:j<l.length) (e:(l[i]).nm=(l[j]).nm):i=j:=g.inc.inj hi hj e
open Go Go.RowKit
def Rd1 {α:Type} (f:α→Value) (w:World) (A:Option Addr) (l:List α):Prop :=
 0<l.length→∃ b o:Nat,A=some ⟨b,o,none⟩∧∀ i (h:i<l.length),w.cell? ⟨b,o+i,none⟩=some (f l[i])
def Rd2 {α:Type} (f g:α→Value) (w:World) (A:Option Addr) (l:List α):Prop :=
 0<l.length→∃ b o:Nat,A=some ⟨b,o,none⟩∧∀ i (h:i<l.length),w.cell? ⟨b,o+i*2,none⟩=some (f l[i])∧w.cell? ⟨b,o+i*2+1,none⟩=some (g l[i])
section
variable {α:Type} {f g:α→Value} {w w':World} {A:Option Addr} {l:List α}
theorem Rd1.nil:Rd1 f w A []:=fun h=>absurd h zd
theorem Rd2.nil:Rd2 f g w A []:=fun h=>absurd h zd
theorem Rd1.keep (h:Rd1 f w A l) (hk:∀ b o,b<w.heap.size→w'.cell? ⟨b,o,none⟩=w.cell? ⟨b,o,none⟩):Rd1 f w' A l:=fun hl=>by
 obtain ⟨b,o,rfl,hc⟩:=h hl;exact ⟨b,o,rfl,fun i hi=>(hk _ _ (World.block_lt_of_cell? w _ (hc i hi))).trans (hc i hi)⟩
theorem Rd2.keep (h:Rd2 f g w A l) (hk:∀ b o,b<w.heap.size→w'.cell? ⟨b,o,none⟩=w.cell? ⟨b,o,none⟩):Rd2 f g w' A l:=fun hl=>by
 obtain ⟨b,o,rfl,hc⟩:=h hl;exact ⟨b,o,rfl,fun i hi=>⟨(hk _ _ (World.block_lt_of_cell? w _ (hc i hi).1)).trans (hc i hi).1,(hk _ _ (World.block_lt_of_cell? w _ (hc i hi).2)).trans (hc i hi).2⟩⟩
theorem Rd1.below (h:Rd1 f w A l) (hb:Below w.heap.size w w'):Rd1 f w' A l:=h.keep fun _ _ hlt=>hb.cell hlt
theorem Rd2.below (h:Rd2 f g w A l) (hb:Below w.heap.size w w'):Rd2 f g w' A l:=h.keep fun _ _ hlt=>hb.cell hlt
theorem Rd1.alloc (h:Rd1 f w A l) (o:Obj):Rd1 f (w.alloc o) A l:=h.keep fun _ _ hlt=>World.cell?_alloc_lt _ _ _ hlt
theorem Rd1.drew (h:Rd1 f w A l):Rd1 f w.drew A l:=h
theorem Rd2.drew (h:Rd2 f g w A l):Rd2 f g w.drew A l:=h
theorem Rd1.drewN (h:Rd1 f w A l) (n:Nat):Rd1 f (w.drewN n) A l:=h
theorem Rd1.at_ (h:Rd1 f w A l) (hl:0<l.length):∃ b o:Nat,A=some ⟨b,o,none⟩∧b<w.heap.size∧∀ i (h:i<l.length),w.cell? ⟨b,o+i,none⟩=some (f l[i]):=by
 obtain ⟨b,o,rfl,hc⟩:=h hl;exact ⟨b,o,rfl,World.block_lt_of_cell? w _ (hc 0 hl),hc⟩
theorem Rd2.at_ (h:Rd2 f g w A l) (hl:0<l.length):∃ b o:Nat,A=some ⟨b,o,none⟩∧b<w.heap.size∧∀ i (h:i<l.length),w.cell? ⟨b,o+i*2,none⟩=some (f l[i])∧w.cell? ⟨b,o+i*2+1,none⟩=some (g l[i]):=by
 obtain ⟨b,o,rfl,hc⟩:=h hl;exact ⟨b,o,rfl,World.block_lt_of_cell? w _ (hc 0 hl).1,hc⟩
end
theorem zAa {a b c:World} (h:Below a.heap.size a b) (k:Below b.heap.size b c):Below a.heap.size a c:=h.trans (k.mono h.size)
theorem zAc {B:Nat} {a w:World} (h:Below B a w) (n:Nat):Below B a (w.drewN n):=⟨h.os,h.tape,h.output,h.size,h.block⟩
theorem Rd1.of_own {α:Type} {f:α→Value} {w:World} {base:Nat} {e:TypeId} {l:List α} {v:Value} (h:w.ownsRow base e 1 v l.length (l.map f)) :
  ∃ A c,v = .slice A l.length c∧Rd1 f w A l:=by
 rcases h.2 with ⟨rfl,hn⟩ | ⟨g,cap,cur,rfl,hb,hg,hnc,hm,hs,htake⟩
 ·exact ⟨none,0,by rw [hn],fun hl=>za⟩
 ·refine ⟨_,_,rfl,fun hl=>⟨g,0,rfl,fun i hi=>?_⟩⟩
  rw [aK,aL w g i cur e (0,0) hg];have:(cur.toList.take (l.length*1))[i]?=(l.map f)[i]?:=by rw [htake]
  rw [List.getElem?_take,aF za] at this
  simpa [hi] using this
structure ElemT (P:Program) (t e:TypeId) (z:Value) (size bytes:Nat):Prop where
 ty:P.underlying t=some (.slice e)
 info:(P.info? e).map (fun i=>(i.zero,i.size,i.bytes))=some (some z,size,bytes)
 zs:z.cells.size=size
 pos:0<size
def zAE {α:Type} (enc:α→List Value) (k:Nat) (w:World) (base:Nat) (e:TypeId) (v:Value) (l:List α):Prop :=
 w.ownsRow base e k v l.length (l.flatMap enc)
section
variable {α:Type} {enc:α→List Value} {k:Nat} {w w':World} {base:Nat} {e:TypeId} {v:Value} {l:List α}
theorem zAE.nil (enc:α→List Value) (k:Nat) (w:World) (base:Nat) (e:TypeId):zAE enc k w base e (.slice none 0 0) ([]:List α):=World.ownsRow_nil w base e k
theorem zAE.alloc (h:zAE enc k w base e v l) (o:Obj):zAE enc k (w.alloc o) base e v l:=World.ownsRow.alloc h o
theorem zAE.grown {row:Option Nat} (h:zAE enc k w base e v l) (hg:w.grownBy w' row) (hne:v.ownBlock=none∨v.ownBlock≠row):zAE enc k w' base e v l:=World.ownsRow.kept h hg hne
theorem zAH (hb:Below w.heap.size w w') (row:Option Nat):w.grownBy w' row:=⟨hb.os,hb.tape,hb.output,hb.size,fun i hi _=>hb.block i hi⟩
theorem zAE.below (h:zAE enc k w base e v l) (hb:Below w.heap.size w w'):zAE enc k w' base e v l :=
 h.grown (row:=none) (zAH hb none) (by cases hv:v.ownBlock<;>simp)
theorem zAE.drewN (h:zAE enc k w base e v l) (n:Nat):zAE enc k (w.drewN n) base e v l:=h
theorem flat1 {f:α→Value} (l:List α):l.flatMap (fun x=>[f x])=l.map f:=by
 induction l with
 | nil=>rfl
 | cons a t ih=>simp [List.flatMap_cons,ih]
theorem zAE.rd1 {f:α→Value} (h:zAE (fun x=>[f x]) 1 w base e v l):∃ A c,v = .slice A l.length c∧Rd1 f w A l:=by
 refine Rd1.of_own (base:=base) (e:=e) ?_
 unfold zAE at h;rw [flat1] at h;exact h
end
theorem zBX {P:Program} {α:Type} {enc:α→List Value} {k:Nat} {ops:Array Oper} {rest:List Oper} {o:Oper} {a:Act} {w:World} {Q:Exit→Act→World→Prop}
  {e:TypeId} {z:Value} {bytes:Nat} (s x:Operand) (t:TypeId) (hT:ElemT P t e z k bytes) (hgd:o.guard=none) (ho:o.op = .call { callee:=.builtin .append,args:=#[s,x],argTypes:=#[t,t] })
  (base:Nat) (v:Value) (l:List α) (hs:a.eval s=v) (hown:zAE enc k w base e v l)
  (g cp:Nat) (y:α) (hx:a.eval x = .slice (some ⟨g,0,none⟩) 1 cp) (hnew:w.heap[g]?=some (.cells (enc y).toArray e (0,0)))
  (hk:(enc y).length=k) (hone:∀ u∈enc y,u.oneCell'=true) (hlen:l.length+1≤maxLen) (hbytes:(l.length+1)*bytes≤140737488355328) (hbase:base≤w.heap.size)
  (h:∀ v' w',zAE enc k w' base e v' (l++[y])→w.grownBy w' v.ownBlock→Below base w w'→wpList P ops Q rest (a.put o.dst v') w'):wpList P ops Q (o::rest) a w:=by
 obtain ⟨i,hi,hz0,hz1,hz2⟩:=info_parts hT.info;refine wpList_append_own _ hgd s x t ho base e i z k bytes hT.ty hi hz0 hz1 hz2 hT.zs hT.pos v l.length (l.flatMap enc) hs hown ⟨g,0,none⟩ 1 cp (enc y) hx (by rw [hk];omega) ?_ hone hlen hbytes hbase ?_
 ·intro j u hj
  have:=World.news_of_block hnew j u yf;exact this
 ·intro v' w' h1 h2 _
  refine h v' w' ?_ h2 ((aN _ _).grown h2 hbase fun j hj=>(aO hown j hj).1)
  unfold zAE
  simpa using h1
end Dw
namespace Go.Proofs.YtieoifkdobcpiaaGreatDoor
open Go.RowKit Dw
abbrev Rgs:=Rd2 (fun r:Rg=>Value.string r.nm) (fun r:Rg=>Value.string r.par)
abbrev Ars:=Rd2 (fun x:Ar=>Value.string x.rg) (fun x:Ar=>Value.bool x.out)
abbrev Strs:=Rd1 Value.string
def zAZ (v:Value) (w:World) (e:Ending) (w':World):Prop:=e = .returned v∧w=w'
theorem zAZ.mk {v v':Value} {w w':World} (h:v=v') (hw:w=w'):zAZ v' w (.returned v) w':=⟨by rw [h],hw⟩
theorem zAX {a b:Int} (h:a=b):Value.int .i64 a = .int .i64 b:=by rw [h]
theorem zAQ {a b:Bool} (h:a=b):Value.bool a = .bool b:=by rw [h]
def leafB (l:List Rg) (nm:BA):Bool:=(idx l nm).isSome&&!l.any fun q=>decide (q.par=nm)
theorem leafB_at {l:List Rg} (g:GoodR l) {i:Nat} (hi:i<l.length):leafB l (l[i]).nm = !zAB l i:=by
 unfold leafB zAB;rw [g.inc.idx hi,zBd hi]
 rfl
end Go.Proofs.YtieoifkdobcpiaaGreatDoor
namespace Go.Proofs.YtieoifkdobcpiaaGreatDoor
def zAh (B:Nat):List Nat→Nat
 | []=>0
 | a::l=>a+B*zAh B l
def WLt (B:Nat) (l:List Nat):Prop:=∀ x∈l,x<B
def zBo:List Nat→List Nat
 | []=>[]
 | a::l=>if zBo l=[]∧a=0 then [] else a::zBo l
def wordsF (B:Nat):Nat→Nat→List Nat
 | 0,_=>[]
 | f+1,n=>if n=0 then [] else n % B::wordsF B f (n / B)
def zAd (B n:Nat):List Nat:=wordsF B n n
theorem WLt.tail {B a:Nat} {l:List Nat} (h:WLt B (a::l)):WLt B l:=fun x hx=>h x (aP _ hx)
theorem WLt.head {B a:Nat} {l:List Nat} (h:WLt B (a::l)):a<B:=h a aQ
theorem WLt.nil {B:Nat}:WLt B []:=fun _ hx=>by cases hx
theorem WLt.cons {B a:Nat} {l:List Nat} (h:a<B) (hl:WLt B l):WLt B (a::l):=fun x hx=>by
 rcases List.mem_cons.1 hx with rfl | hx
 ·exact h
 ·exact hl x hx
theorem zBY (B:Nat):∀ l r:List Nat,zAh B (l++r)=zAh B l+B ^ l.length*zAh B r
 | [],r=>qm
 | a::l,r=>by
  rw [List.cons_append,zAh,zAh,zBY B l r,aR,aS,aT,aU (B ^ l.length) B,aV];omega
theorem zCW {B:Nat}:∀ {l:List Nat},WLt B l→zAh B l<B ^ l.length
 | [],_=>qm
 | a::l,h=>by
  have h1:=zCW h.tail;have h2:=h.head;rw [zAh,aR,aS,aU]
  calc a+zAh B l*B<B+zAh B l*B:=by omega
   _=(zAh B l+1)*B:=by rw [aW,Nat.one_mul,Nat.add_comm]
   _≤B ^ l.length*B:=aX _ h1
theorem wval_zero {B:Nat}:∀ {l:List Nat},WLt B l→zAh B l=0→zBo l=[]
 | [],_,_=>rfl
 | a::l,h,e=>by
  have hB:0<B:=aY (aZ _) h.head;rw [zAh] at e;have h1:a=0:=za;have h2:B*zAh B l=0:=za
  have h3:zAh B l=0:=by
   rcases Nat.mul_eq_zero.1 h2 with h | h
   ·omega
   ·exact h
  rw [zBo,aF ⟨wval_zero h.tail h3,h1⟩]
theorem wtrim_eq {B:Nat}:∀ {l r:List Nat},WLt B l→WLt B r→zAh B l=zAh B r→zBo l=zBo r
 | [],r,_,hr,e=>(wval_zero hr e.symm).symm
 | a::l,[],hl,_,e=>wval_zero hl e
 | a::l,b::r,hl,hr,e=>by
  have h1:=hl.head;have h2:=hr.head;rw [zAh,zAh] at e
  have e1:a=b:=by
   have:=bA (· % B) e;simp only [Nat.add_mul_mod_self_left] at this
   rwa [bB h1,bB h2] at this
  have e2:zAh B l=zAh B r:=by
   have h3:B*zAh B l=B*zAh B r:=za;exact Nat.eq_of_mul_eq_mul_left za h3
  rw [zBo,zBo,wtrim_eq hl.tail hr.tail e2,e1]
theorem wordsF_ok {B:Nat} (hB:1<B):∀ f n:Nat,n≤f→zAh B (wordsF B f n)=n∧WLt B (wordsF B f n)∧zBo (wordsF B f n)=wordsF B f n
 | 0,n,h=>by
  obtain rfl:n=0:=za;exact ⟨rfl,WLt.nil,rfl⟩
 | f+1,n,h=>by
  rw [wordsF]
  split
  ·next h0=>subst h0;exact ⟨rfl,WLt.nil,rfl⟩
  ·next h0 =>
   have hlt:n / B<n:=Nat.div_lt_self za hB;obtain ⟨h1,h2,h3⟩:=wordsF_ok hB f (n / B) za;refine ⟨?_,WLt.cons (bC _ za) h2,?_⟩
   ·rw [zAh,h1];exact bD n B
   ·rw [zBo,aD,h3]
    rintro ⟨e1,e2⟩;rw [h3] at e1;have e3:n / B=0:=by rw [←h1,e1];rfl
    have:=bD n B;rw [e2,e3] at this;omega
theorem zAz {B:Nat} (hB:1<B) (n:Nat):zAh B (zAd B n)=n:=(wordsF_ok hB n n (aC _)).1
theorem zAY {B:Nat} (hB:1<B) (n:Nat):WLt B (zAd B n):=(wordsF_ok hB n n (aC _)).2.1
theorem words_trim {B:Nat} (hB:1<B) (n:Nat):zBo (zAd B n)=zAd B n:=(wordsF_ok hB n n (aC _)).2.2
theorem wtrim_words {B:Nat} (hB:1<B) {l:List Nat} (h:WLt B l):zBo l=zAd B (zAh B l):=by
 rw [←words_trim hB (zAh B l)];exact wtrim_eq h (zAY hB _) (zAz hB _).symm
theorem zCw {B:Nat} (hB:1<B) {n:Nat}:zAd B n=[]↔n=0 :=
 ⟨fun h=>by rw [←zAz hB n,h];rfl,fun h=>by subst h;rfl⟩
theorem zCh {B:Nat} (hB:1<B) (n:Nat):n<B ^ (zAd B n).length:=by
 have:=zCW (zAY hB n)
 rwa [zAz hB] at this
theorem digit_le {B q u v top v1 n:Nat} (h:q*v≤u) (hv:v1*B ^ n≤v) (hu:u<(top+1)*B ^ n) (h1:0<v1):q≤top / v1:=by
 rw [Nat.le_div_iff_mul_le h1]
 have h2:q*v1*B ^ n<(top+1)*B ^ n:=by
  calc q*v1*B ^ n=q*(v1*B ^ n):=by rw [aV]
   _≤q*v:=bE _ hv
   _≤u:=h
   _<_:=hu
 have:=Nat.lt_of_mul_lt_mul_right h2;omega
theorem wval_one (B a:Nat):zAh B [a]=a:=qm
theorem zAK {B i:Nat} {l:List Nat} (hi:i<l.length):zAh B (l.take (i+1))=zAh B (l.take i)+B ^ i*l[i]:=by
 rw [bF hi,zBY,wval_one,bG,bH (Nat.le_of_lt hi)]
theorem zDm {B i:Nat} {l:List Nat} (hi:i<l.length):zAh B (l.drop i)=l[i]+B*zAh B (l.drop (i+1)):=by
 rw [aG hi,zAh]
theorem zCm (B i:Nat) (l:List Nat) (hi:i≤l.length):zAh B l=zAh B (l.take i)+B ^ i*zAh B (l.drop i):=by
 have:=zBY B (l.take i) (l.drop i);rw [List.take_append_drop,bG,bH hi] at this;exact this
theorem add_col {B i x y o c a b s:Nat} (h:o+B ^ i*c=x+y) (hs:s=c+a+b):(o+B ^ i*(s % B))+B ^ (i+1)*(s / B)=(x+B ^ i*a)+(y+B ^ i*b):=by
 have h1:B ^ i*(s % B)+B ^ (i+1)*(s / B)=B ^ i*s:=by
  rw [aS,aV,←aT,bD]
 have h2:B ^ i*s=B ^ i*c+B ^ i*a+B ^ i*b:=by rw [hs,aT,aT]
 omega
theorem next_lt {B r v x:Nat} (hr:r<v) (hx:x<B):x+B*r<v*B:=by
 calc x+B*r<B+B*r:=by omega
  _=(r+1)*B:=by rw [aW,Nat.one_mul,aU B r,Nat.add_comm]
  _≤v*B:=aX _ hr
theorem quot_lt {B u v:Nat} (h:u<v*B):u / v<B:=by
 have hv:0<v:=by
  rcases bI v with e | e
  ·subst e;simp at h
  ·exact e
 exact (Nat.div_lt_iff_lt_mul hv).2 (by rw [aU];exact h)
theorem div_next {B r v x:Nat} (hv:0<v) (q:Nat):(x+B*(q*v+r)) / v=B*q+(x+B*r) / v∧(x+B*(q*v+r)) % v=(x+B*r) % v:=by
 have e:x+B*(q*v+r)=x+B*r+v*(B*q):=by
  rw [aT,←aV,aU v];omega
 rw [e,Nat.add_mul_div_left _ _ hv,Nat.add_mul_mod_self_left];exact ⟨za,rfl⟩
theorem sub_col {B i:Nat} {x y o c a b s:Int} (h:o+(B:Int) ^ i*c=x - y) (hs:s=c+a - b) :
  (o+(B:Int) ^ i*(s % (B:Int)))+(B:Int) ^ (i+1)*(s / (B:Int))=(x+(B:Int) ^ i*a) - (y+(B:Int) ^ i*b):=by
 have h1:(B:Int) ^ i*(s % (B:Int))+(B:Int) ^ (i+1)*(s / (B:Int))=(B:Int) ^ i*s:=by
  rw [Int.pow_succ,Int.mul_assoc,←Int.mul_add,Int.emod_add_mul_ediv]
 have h2:(B:Int) ^ i*s=(B:Int) ^ i*c+(B:Int) ^ i*a - (B:Int) ^ i*b:=by rw [hs,Int.mul_sub,Int.mul_add]
 omega
theorem gcd_step {a b:Nat}:Nat.gcd a b=Nat.gcd b (a % b):=by
 rw [Nat.gcd_comm,Nat.gcd_rec,Nat.gcd_comm]
def zCc (l:List UInt8):Nat:=l.foldl (fun n c=>10*n+(c.toNat - 48)) 0
theorem decV_from (l:List UInt8):∀ n:Nat,l.foldl (fun n c=>10*n+(c.toNat - 48)) n=n*10 ^ l.length+zCc l:=by
 induction l with
 | nil=>intro n;simp [zCc]
 | cons c l ih =>
  intro n;have e:zCc (c::l)=l.foldl (fun n c=>10*n+(c.toNat - 48)) (10*0+(c.toNat - 48)):=rfl
  rw [bJ,ih,e,ih,aR,aS,aW]
  have h1:10*n*10 ^ l.length=n*(10 ^ l.length*10):=by
   rw [aU 10 n,aV,aU 10]
  rw [h1,bK,aK];omega
theorem zCG (l r:List UInt8):zCc (l++r)=zCc l*10 ^ r.length+zCc r:=by
 unfold zCc;rw [bL];exact decV_from r _
theorem decV_cut (l:List UInt8) (k:Nat):zCc l=zCc (l.take k)*10 ^ (l.length - k)+zCc (l.drop k):=by
 have:=zCG (l.take k) (l.drop k);rw [List.take_append_drop,bM] at this;exact this
theorem decV_lt {l:List UInt8} (h:∀ c∈l,c.toNat - 48<10):zCc l<10 ^ l.length:=by
 induction l with
 | nil=>simp [zCc]
 | cons c l ih =>
  have e:zCc (c::l)=l.foldl (fun n c=>10*n+(c.toNat - 48)) (10*0+(c.toNat - 48)):=rfl
  have h1:=ih fun x hx=>h x (aP _ hx)
  have h2:=h c aQ;rw [e,decV_from,aR,aS]
  calc (10*0+(c.toNat - 48))*10 ^ l.length+zCc l<(10*0+(c.toNat - 48))*10 ^ l.length+10 ^ l.length:=by omega
   _=(c.toNat - 48+1)*10 ^ l.length:=by rw [bK,aK,aW,Nat.one_mul]
   _≤10*10 ^ l.length:=aX _ h2
   _=10 ^ l.length*10:=aU _ _
theorem scale_col {B i m o c a s:Nat} (hs:s=c+m*a):o+B ^ i*(s % B)+B ^ (i+1)*(s / B)=o+B ^ i*c+B ^ i*(m*a):=by
 have h1:B ^ i*(s % B)+B ^ (i+1)*(s / B)=B ^ i*s:=by
  rw [aS,aV,←aT,bD]
 have h2:B ^ i*s=B ^ i*c+B ^ i*(m*a):=by rw [hs,aT]
 omega
theorem wtrim_zero:∀ l:List Nat,zBo (l++[0])=zBo l
 | []=>by simp [zBo]
 | a::l=>by rw [List.cons_append,zBo,zBo,wtrim_zero l]
theorem wtrim_ne {a:Nat} (h:a≠0):∀ l:List Nat,zBo (l++[a])=l++[a]
 | []=>by simp [zBo,h]
 | b::l=>by
  rw [List.cons_append,zBo,wtrim_ne h l,aD];rintro ⟨e,_⟩;simp at e
theorem wtrim_take_zero {L:List Nat} {k:Nat} (hk:k<L.length) (h:L[k]=0):zBo (L.take (k+1))=zBo (L.take k):=by
 rw [bF hk,h,wtrim_zero]
theorem wtrim_take_ne {L:List Nat} {k:Nat} (hk:k<L.length) (h:L[k]≠0):zBo (L.take (k+1))=L.take (k+1):=by
 rw [bF hk,wtrim_ne h]
theorem zDl (L:List Nat):(zBo L).length≤L.length:=by
 induction L with
 | nil=>simp [zBo]
 | cons a l ih =>
  rw [zBo]
  split<;>simp<;>omega
theorem wtrim_prefix:∀ L:List Nat,zBo L=L.take (zBo L).length
 | []=>by simp [zBo]
 | a::l=>by
  rw [zBo]
  split
  ·simp
  ·rw [aR,bN,←wtrim_prefix l]
theorem wtrim_last:∀ {L:List Nat},zBo L=L→∀ (h:L≠[]),L.getLast h≠0
 | [],_,h=>absurd rfl h
 | [a],e,_=>by
  intro h0;have h1:a=0:=by simpa using h0
  subst h1;simp [zBo] at e
 | a::b::l,e,_=>by
  rw [zBo] at e
  split at e
  ·cases e
  ·injection e with _ e
   rw [List.getLast_cons zd];exact wtrim_last e zd
section
variable {B:Nat}
theorem zCE (hB:1<B) {n:Nat} (h:0<(zAd B n).length):(zAd B n)[(zAd B n).length - 1]≠0:=by
 have h0:zAd B n≠[]:=fun e=>by rw [e] at h;simp at h
 have:=wtrim_last (words_trim hB n) h0
 rwa [List.getLast_eq_getElem] at this
theorem wval_ge {l:List Nat} (h:0<l.length) (h0:l[l.length - 1]≠0):B ^ (l.length - 1)≤zAh B l:=by
 have e:l.length - 1<l.length:=za;have h1:=zAK (B:=B) e;rw [show l.length - 1+1=l.length by omega,bO] at h1
 rw [h1];have:1≤l[l.length - 1]:=za;have h2:=bE (B ^ (l.length - 1)) this;omega
theorem lt_of_len (hB:1<B) {a b:Nat} (h:(zAd B a).length<(zAd B b).length):a<b:=by
 have h1:=zCh hB a;have h2:=wval_ge (B:=B) (l:=zAd B b) za (zCE hB za);rw [zAz hB] at h2;have h3:B ^ (zAd B a).length≤B ^ ((zAd B b).length - 1):=bP za za;omega
theorem zCq (hB:1<B) {a k:Nat} (h:a<B ^ k):(zAd B a).length≤k:=by
 rcases bQ k (zAd B a).length with h1 | h1
 ·have h2:=wval_ge (B:=B) (l:=zAd B a) za (zCE hB za)
  rw [zAz hB] at h2;have h3:B ^ k≤B ^ ((zAd B a).length - 1):=bP za za;omega
 ·exact h1
theorem zAI (hB:1<B) {a b:Nat} (h:a≤b):(zAd B a).length≤(zAd B b).length :=
 zCq hB (aY h (zCh hB b))
theorem wval_lt_of {l r:List Nat} (hl:WLt B l) (e:l.length=r.length) {i:Nat} (hi:i<l.length) (hi':i<r.length)
  (hd:l.drop (i+1)=r.drop (i+1)) (h:l[i]<r[i]):zAh B l<zAh B r:=by
 have h1:=zCm B i l za;have h2:=zCm B i r za;rw [zDm hi] at h1;rw [zDm hi',←hd] at h2;have h3:zAh B (l.take i)<B ^ (l.take i).length:=zCW fun x hx=>hl x (bR hx)
 rw [bG,bH za] at h3;have h4:B ^ i*(l[i]+1)≤B ^ i*r[i]:=bE _ h;rw [h1,h2,aT,aT];rw [aT,bS] at h4;omega
end
def cmpN (a b:Nat):Int:=if a<b then -1 else if a=b then 0 else 1
theorem zCy {a b:Nat} (h:a<b):cmpN a b = -1:=by rw [cmpN,aF h]
theorem zCF {a b:Nat} (h:b<a):cmpN a b=1:=by rw [cmpN,aD za,aD za]
theorem zDo {a b:Nat} (h:a=b):cmpN a b=0:=by rw [cmpN,aD za,aF h]
theorem step_col {B i:Nat} {W U V q u v w c lo hi b b':Int} (h:W=U - q*V+(B:Int) ^ i*(c+b)) (hC:c+q*v=lo+B*hi) (hw:w=u - lo - b+B*b') :
  W+(B:Int) ^ i*w=(U+(B:Int) ^ i*u) - q*(V+(B:Int) ^ i*v)+(B:Int) ^ (i+1)*(hi+b'):=by
 have h1:(B:Int) ^ i*w=(B:Int) ^ i*u - (B:Int) ^ i*lo - (B:Int) ^ i*b+(B:Int) ^ i*(B*b'):=by
  rw [hw,Int.mul_add,Int.mul_sub,Int.mul_sub]
 have h2:(B:Int) ^ i*(c+b)=(B:Int) ^ i*c+(B:Int) ^ i*b:=Int.mul_add ..
 have h3:q*(V+(B:Int) ^ i*v)=q*V+(B:Int) ^ i*(q*v):=by
  rw [Int.mul_add,Int.mul_left_comm]
 have h4:(B:Int) ^ (i+1)*(hi+b')=(B:Int) ^ i*(B*hi)+(B:Int) ^ i*(B*b'):=by
  rw [Int.pow_succ,Int.mul_assoc,Int.mul_add,Int.mul_add]
 have h5:(B:Int) ^ i*c+(B:Int) ^ i*(q*v)=(B:Int) ^ i*lo+(B:Int) ^ i*(B*hi):=by
  rw [←Int.mul_add,←Int.mul_add,hC]
 omega
theorem wval_set (B:Nat):∀ (l:List Nat) (i:Nat) (x:Nat) (h:i<l.length),zAh B (l.set i x)+B ^ i*l[i]=zAh B l+B ^ i*x
 | [],i,x,h=>absurd h zd
 | a::l,0,x,_=>by simp [zAh];omega
 | a::l,i+1,x,h=>by
  have ih:=wval_set B l i x zv;have e1:B ^ (i+1)*l[i]'(by simpa using h)=B*(B ^ i*l[i]'(by simpa using h)):=by rw [aS,aU (B ^ i) B,aV]
  have e2:B ^ (i+1)*x=B*(B ^ i*x):=by rw [aS,aU (B ^ i) B,aV]
  rw [bT,zAh,zAh,bU,e1,e2];have h2:=bA (B * ·) ih;simp only [aT] at h2;omega
theorem take_set_succ {α:Type} (l:List α) (k:Nat) (x:α) (h:k<l.length):(l.set k x).take (k+1)=l.take k++[x]:=by
 rw [bF zv,List.take_set_of_le (aC k)];simp
theorem drop_set_pred {α:Type} (l:List α) (k:Nat) (x:α) (h:k<l.length):(l.set k x).drop k=x::l.drop (k+1):=by
 rw [aG zv,List.drop_set_of_lt (Nat.lt_succ_self k)];simp
theorem WLt.set {B:Nat} {l:List Nat} (h:WLt B l) {x:Nat} (hx:x<B) (i:Nat):WLt B (l.set i x):=fun y hy=>by
 rcases List.mem_or_eq_of_mem_set hy with h1 | h1
 ·exact h y h1
 ·rw [h1];exact hx
theorem WLt.take {B:Nat} {l:List Nat} (h:WLt B l) (k:Nat):WLt B (l.take k):=fun y hy=>h y (bR hy)
theorem WLt.drop {B:Nat} {l:List Nat} (h:WLt B l) (k:Nat):WLt B (l.drop k):=fun y hy=>h y (List.mem_of_mem_drop hy)
theorem WLt.append {B:Nat} {l r:List Nat} (h:WLt B l) (k:WLt B r):WLt B (l++r):=fun y hy=>by
 rcases List.mem_append.1 hy with h1 | h1
 ·exact h y h1
 ·exact k y h1
theorem WLt.get {B:Nat} {l:List Nat} (h:WLt B l) (i:Nat) (hi:i<l.length):l[i]<B:=h _ (aJ hi)
theorem WLt.zeros {B:Nat} (hB:0<B) (n:Nat):WLt B (List.replicate n 0):=fun y hy=>by
 rw [List.eq_of_mem_replicate hy];exact hB
theorem wval_zeros (B n:Nat):zAh B (List.replicate n 0)=0:=by
 induction n with
 | zero=>rfl
 | succ n ih=>rw [List.replicate_succ,zAh,ih];simp
theorem zCV {B:Nat} {l:List Nat} {k n:Nat} (h:zAh B (l.drop k)<B ^ n) (hk:k+n≤l.length):zAh B (l.drop (k+n))=0:=by
 have e:=zCm B n (l.drop k) (by rw [bM];omega)
 rw [List.drop_drop] at e
 rcases bI (zAh B (l.drop (k+n))) with h0 | h0
 ·exact h0
 ·have:B ^ n*1≤B ^ n*zAh B (l.drop (k+n)):=bE _ h0
  omega
theorem shr_col {B i s R T u0 x y r:Nat} (hB:0<B) (hs:0<s) (hd:s∣B) (hx:x<B) (h:s*R+u0=T+B ^ i*(x % s)) (hr:r=(x+B*y) / s % B) :
  s*(R+B ^ i*r)+u0=(T+B ^ i*x)+B ^ (i+1)*(y % s):=by
 obtain ⟨m,rfl⟩:=hd
 have hm:0<m:=by
  rcases bI m with e | e
  ·subst e;simp at hB
  ·exact e
 have e1:(x+s*m*y) / s=x / s+m*y:=by rw [aV,Nat.add_mul_div_left _ _ hs]
 have e2:x / s<m:=(Nat.div_lt_iff_lt_mul hs).2 (by rw [aU];exact hx)
 have e3:m*y=m*(y % s)+s*m*(y / s):=by
  conv=>lhs;rw [←bD y s]
  rw [aT,←aV,aU m s]
 have e4:x / s+m*(y % s)<s*m:=by
  have:m*(y % s)≤m*(s - 1):=bE _ (by have:=bC y hs;omega)
  have h2:m*(s - 1)+m=s*m:=by
   rw [←Nat.mul_succ,aU];congr 1;omega
  omega
 have e5:r=x / s+m*(y % s):=by
  rw [hr,e1,e3,←Nat.add_assoc,Nat.add_mul_mod_self_left,bB e4]
 have e6:s*r+x % s=x+s*m*(y % s):=by
  rw [e5,aT];have:=bD x s;rw [←aV];omega
 have h7:s*(R+(s*m) ^ i*r)=s*R+(s*m) ^ i*(s*r):=by rw [aT,Nat.mul_left_comm]
 have h8:=bA ((s*m) ^ i * ·) e6;simp only [aT] at h8;have h9:(s*m) ^ (i+1)*(y % s)=(s*m) ^ i*(s*m*(y % s)):=by rw [aS,aV]
 rw [h7,h9];omega
theorem wval_window {B:Nat} {l W:List Nat} {j n:Nat} (hl:j+n≤l.length) (hW:W.length=n) (h0:zAh B (l.drop (j+n))=0) :
  zAh B ((l.take j++W++l.drop (j+n)).drop j)=zAh B W:=by
 have h1:(l.take j).length=j:=by rw [bG];omega
 rw [List.append_assoc,List.drop_append_of_le_length za,aB za,List.nil_append,zBY,h0];simp
open Go.RowKit Dw
def B32:Nat:=4294967296
theorem zAo:1<B32:=zc
theorem zBL:0<B32:=zc
theorem zCa:B32=4294967296:=rfl
def u32V:Nat→Value:=fun n=>Value.int .u32 (n:Int)
theorem zBm (n:Nat):u32V n=Value.int .u32 (n:Int):=rfl
abbrev Wds:=Rd1 u32V
structure Nt (w:World) (A:Option Addr) (c n:Nat):Prop where
 rd:Wds w A (zAd B32 n)
 cap:(zAd B32 n).length≤c
abbrev ntV (A:Option Addr) (c n:Nat):Value:=.slice A (zAd B32 n).length c
theorem Nt.below {w w':World} {A:Option Addr} {c n:Nat} (h:Nt w A c n) (hb:Below w.heap.size w w'):Nt w' A c n:=⟨h.rd.below hb,h.cap⟩
theorem Nt.drewN {w:World} {A:Option Addr} {c n:Nat} (h:Nt w A c n) (k:Nat):Nt (w.drewN k) A c n:=⟨h.rd.drewN k,h.cap⟩
def zCY (n:Nat) (w:World) (e:Ending) (w':World):Prop:=∃ A c,e = .returned (ntV A c n)∧Nt w' A c n∧Below w.heap.size w w'
def zBA (v:Value) (w:World) (e:Ending) (w':World):Prop:=e = .returned v∧∃ n,w'=w.drewN n
theorem zBA.mk {v v':Value} {w w':World} (h:v=v') (hw:∃ n,w'=w.drewN n):zBA v' w (.returned v) w':=⟨by rw [h],hw⟩
def zBG (w:World) (g:Nat) (L:List Nat):Prop:=w.heap[g]?=some (.cells (L.map u32V).toArray 197 (0,0))
section
variable {w w':World} {g:Nat} {L:List Nat}
theorem zBG.lt (h:zBG w g L):g<w.heap.size:=(Array.getElem?_eq_some_iff.1 h).1
theorem zBG.cell (h:zBG w g L) (i:Nat) (hi:i<L.length):w.cell? ⟨g,i,none⟩=some (.int .u32 ((L[i]:Nat):Int)):=by
 rw [aL w g i _ _ _ h];simp [hi,u32V]
theorem zBG.frozen (h:zBG w g L) (i:Nat):w.frozen? ⟨g,i,none⟩=false:=bV w g i _ _ h
theorem zBG.set (h:zBG w g L) (i x:Nat):zBG (w.setCell ⟨g,i,none⟩ (.int .u32 (x:Int))) g (L.set i x):=by
 have h1:(w.setCell ⟨g,i,none⟩ (.int .u32 (x:Int))).heap[g]?=some (.cells ((L.map u32V).toArray.setIfInBounds i (.int .u32 (x:Int))) 197 (0,0)):=by
  unfold zBG at h;simp [World.setCell,Array.getElem?_modify,h]
 unfold zBG;rw [h1,bW,List.map_set]
 rfl
theorem zBG.rd (h:zBG w g L) (k:Nat):Wds w (some ⟨g,0,none⟩) (L.take k):=fun _=>⟨g,0,rfl,fun i hi=>by
 have hi':i<L.length:=by rw [bG] at hi;omega
 rw [aK,h.cell i hi',bX];rfl⟩
theorem zBG.below (h:zBG w g L) (hb:Below w.heap.size w w'):zBG w' g L:=(hb.block g h.lt).trans h
theorem zBG.far (h:zBG w g L) {p:Addr} (hp:g≠p.block) (u:Value):zBG (w.setCell p u) g L:=(bY w p u g hp).trans h
theorem zBG.new (w:World) (n:Nat):zBG (w.alloc (.cells (Array.replicate n (.int .u32 0)) 197)) w.heap.size (List.replicate n 0):=by
 unfold zBG;rw [bZ]
 congr 2
 apply Array.toList_inj.1
 simp [u32V]
end
theorem run_makeN1 {P:Program} (t e:TypeId) {z:Value} {bytes:Nat} (hT:ElemT P t e z 1 bytes) (n:Nat) (hb:bytes*n≤281474976710656) (h63:n≤9223372036854775807) (hz:z.cells=#[z]) (w:World) :
  (Instr.makeSlice t (.int .i64 (n:Int)) (.int .i64 (n:Int))).run P w = .ok (.slice (some ⟨w.heap.size,0,none⟩) n n) (w.alloc (.cells (Array.replicate n z) e)):=by
 obtain ⟨i,hi,hz0,hz1,hz2⟩:=info_parts hT.info
 have hb':(i.bytes:Int)*(n:Int)≤281474976710656:=by
  rw [hz2];have h:((bytes*n:Nat):Int)≤281474976710656:=za
  rwa [cA] at h
 have hr:=run_make (P:=P) w t e i z hT.ty hi hz0 .i64 .i64 n n za za hb' za;simp only [Int.toNat_natCast] at hr;rw [hz1,hz,bS] at hr
 have e1:madeCells #[z] n=Array.replicate n z:=by
  apply Array.toList_inj.1
  rw [toList_madeCells_one,Array.toList_replicate]
 rw [e1] at hr;exact hr
theorem elNat:ElemT Tryz.prog 85 197 (.int .u32 0) 1 4:=⟨Tryz.underlying85,zb,rfl,zc⟩
theorem mk_nat (n:Nat) (h:n≤1000000000) (w:World):(Instr.makeSlice 85 (.int .i64 (n:Int)) (.int .i64 (n:Int))).run Tryz.prog w = .ok (.slice (some ⟨w.heap.size,0,none⟩) n n) (w.alloc (.cells (Array.replicate n (.int .u32 0)) 197)) :=
 run_makeN1 _ _ elNat n za za rfl w
def TrimRel (w:World) (A:Option Addr) (c:Nat) (L:List Nat) (m:Nat) (a:Value) (wr:World):Prop :=
 wr=w∧∃ k:Nat,k=m∧k≤L.length∧a = .slice A k c∧zBo (L.take k)=zBo L
theorem trim_c (A:Option Addr) (c:Nat) (L:List Nat) (w:World) (hn:L.length≤1000000000) (hc:L.length≤c) (h:Wds w A L) :
  Calls Tryz.prog 172 #[.slice A L.length c] w (zAZ (.slice A (zBo L).length c) w):=by
 go_enter Tryz.func172,Tryz.ntmps172
 go_wp2
 go_loopg [0] L.length (TrimRel w A c L)
 case atStart=>exact ⟨rfl,L.length,rfl,aC _,rfl,by rw [bO]⟩
 case round =>
  obtain ⟨hw,k,hm,hk,rfl,ht⟩:=hrel;subst hw;have HM:=zq hm;have HT:=zq ht;clear hm ht
  rcases bI k with h0 | h0
  ·subst h0
   go_wp2;go_ret
   refine zAZ.mk ?_ rfl
   rw [←HT.o];rfl
  ·obtain ⟨j,rfl⟩:∃ j,k=j+1:=⟨k - 1,za⟩
   obtain ⟨b,o,rfl,hb,hcl⟩:=h.at_ za;have hj:j<L.length:=za;have hc0:=hcl j hj;rw [zBm] at hc0;clear hcl
   by_cases hz:L[j]=0
   ·have HZ:=zq hz
    rw [hz] at hc0;clear hz;go_wp2
    go_roundg (gk - 1)
    case measure=>have:=HM.o;omega
    case rel=>exact ⟨rfl,j,by have:=HM.o;omega,za,zd,by rw [←HT.o,wtrim_take_zero hj HZ.o]⟩
   ·have hzb:(((L[j]:Nat):Int) == 0)=false:=by simpa using hz
    have HZ:=zq hz;clear hz;go_wp2;go_ret
    refine zAZ.mk ?_ rfl
    have e:=HT.o;rw [wtrim_take_ne hj HZ.o] at e;have e2:=bA List.length e;rw [bG,bH hk] at e2;rw [←e2]
    rfl
theorem trim_n (A:Option Addr) (c:Nat) (L:List Nat) (w w0:World) (hn:L.length≤1000000000) (hc:L.length≤c) (h:Wds w A L) (hl:WLt B32 L) (hb:Below w0.heap.size w0 w) {n:Nat} (hv:zAh B32 L=n) :
  Calls Tryz.prog 172 #[.slice A L.length c] w (zCY n w0):=by
 have e:zBo L=zAd B32 n:=by rw [wtrim_words zAo hl,hv]
 refine (trim_c A c L w hn hc h).mono ?_
 rintro _ _ ⟨rfl,rfl⟩;refine ⟨A,c,by rw [e],⟨?_,?_⟩,hb⟩
 ·rw [←e]
  intro hp;obtain ⟨b,o,rfl,hlt,hcl⟩:=h.at_ (by have:=zDl L;omega)
  refine ⟨b,o,rfl,fun i hi=>?_⟩
  have hi':i<L.length:=by have:=zDl L;omega
  rw [hcl i hi']
  have:(zBo L)[i]=L[i]:=by
   have h1:=wtrim_prefix L;rw [List.getElem_of_eq h1 hi,bX]
  rw [this]
 ·rw [←e];have:=zDl L;omega
theorem or_u64n (x y:Nat) (hx:x<4294967296):y*4294967296 ||| x=x+4294967296*y:=by
 have:=Nat.two_pow_add_eq_or_of_lt (i:=32) (b:=x) za y;rw [aU y,show (4294967296:Nat)=2 ^ 32 from rfl,←this,Nat.add_comm]
theorem or_u64 (x y:Nat) (hx:x<4294967296) (hy:y<4294967296):bits .or .u64 (x:Int) ((y:Int)*4294967296)=(x:Int)+4294967296*(y:Int):=by
 have e:(y:Int)*4294967296=((y*4294967296:Nat):Int):=by rw [cA];rfl
 rw [e,u64_or_nat x (y*4294967296) za za,Nat.or_comm,or_u64n x y hx];omega
theorem or_u64' (x y:Nat) (hx:x<4294967296) (hy:y<4294967296):bits .or .u64 ((y:Int)*4294967296) (x:Int)=(x:Int)+4294967296*(y:Int):=by
 have e:(y:Int)*4294967296=((y*4294967296:Nat):Int):=by rw [cA];rfl
 rw [e,u64_or_nat (y*4294967296) x za za,or_u64n x y hx];omega
theorem small_l (A:Option Addr) (c:Nat) (L:List Nat) (w:World) (h:Wds w A L) (hl:WLt B32 L) (hn:L.length≤1000000000) :
  Calls Tryz.prog 166 #[.slice A L.length c] w (zBA (.tuple #[.int .u64 (if L.length≤2 then ((zAh B32 L:Nat):Int) else 0),.bool (decide (L.length≤2))]) w):=by
 match L,h,hl,hn with
 | [],_,_,_ =>
  go_enter Tryz.func166,Tryz.ntmps166
  go_wp2;go_ret2
  exact zBA.mk rfl ⟨0,rfl⟩
 | [x],h,hl,_ =>
  obtain ⟨b,o,rfl,hb,hcl⟩:=h.at_ zd;have hx:=hl.head;rw [zCa] at hx;have hc0:=hcl 0 zd;rw [zBm] at hc0;simp only [cC,cK] at hc0;clear hcl
  go_enter Tryz.func166,Tryz.ntmps166
  go_wp2;go_ret2
  exact zBA.mk qm ⟨0,rfl⟩
 | [x,y],h,hl,_ =>
  obtain ⟨b,o,rfl,hb,hcl⟩:=h.at_ zd;have hx:=hl.head;have hy:=hl.tail.head;rw [zCa] at hx hy;have hc0:=hcl 0 zd;have hc1:=hcl 1 zd;rw [zBm] at hc0 hc1;simp only [cC,bU,cK] at hc0 hc1;clear hcl
  go_enter Tryz.func166,Tryz.ntmps166
  go_wp2
  go_quiet (fail)
  go_wp2;go_ret2
  refine zBA.mk ?_ ⟨_,rfl⟩
  simp only [zAh];simp [or_u64 x y hx hy,zCa]
 | x::y::z::l,h,hl,hn =>
  have hk:(x::y::z::l).length=l.length+3:=rfl;have e0:¬ l.length+3≤2:=za;rw [hk] at hn ⊢;clear hk
  go_enter Tryz.func166,Tryz.ntmps166
  go_wp2;go_ret2
  exact zBA.mk rfl ⟨0,rfl⟩
def smV (n:Nat):Value:=.tuple #[.int .u64 (if (zAd B32 n).length≤2 then (n:Int) else 0),.bool (decide ((zAd B32 n).length≤2))]
theorem small_c (A:Option Addr) (c n:Nat) (w:World) (h:Nt w A c n) (hn:(zAd B32 n).length≤1000000000):Calls Tryz.prog 166 #[ntV A c n] w (zBA (smV n) w):=by
 have:=small_l A c (zAd B32 n) w h.rd (zAY zAo n) hn;rw [zAz zAo] at this;exact this
theorem wval2 (n:Nat) (h:n<18446744073709551616):zAh B32 [n % 4294967296,n / 4294967296]=n∧WLt B32 [n % 4294967296,n / 4294967296]:=by
 refine ⟨?_,WLt.cons ?_ (WLt.cons ?_ WLt.nil)⟩
 ·simp [zAh,zCa];omega
 ·rw [zCa];omega
 ·rw [zCa];omega
theorem wds_new (w:World) (cs:Array Value) (L:List Nat) (h:cs.toList=L.map u32V):Wds (w.alloc (.cells cs 197)) (some ⟨w.heap.size,0,none⟩) L:=by
 intro _;refine ⟨w.heap.size,0,rfl,fun i hi=>?_⟩
 rw [aL _ _ _ _ _ _ (bZ w _),←Array.getElem?_toList,h];simp [hi]
theorem trim2 (n:Nat) (w:World) (h:n<18446744073709551616):Calls Tryz.prog 172 #[.slice (some ⟨w.heap.size,0,none⟩) 2 2]
  (w.alloc (.cells #[.int .u32 ((n:Int) % 4294967296),.int .u32 ((n:Int) / 4294967296)] 197)) (zCY n w) :=
 trim_n _ 2 [n % 4294967296,n / 4294967296] _ w zd zd (wds_new w _ _ (by simp [u32V])) (wval2 n h).2 ((aN _ _).alloc (aC _) _) (wval2 n h).1
theorem natOf_c (n:Nat) (w:World) (h:n<18446744073709551616):Calls Tryz.prog 120 #[.int .u64 (n:Int)] w (zCY n w):=by
 go_enter Tryz.func120,Tryz.ntmps120
 go_wp2_with fail
 with_reducible refine (trim2 n w h).mono ?_
 rintro e w' ⟨A,c,rfl,hn,hb⟩;go_wp2;go_ret
 exact ⟨A,c,rfl,hn,hb⟩
theorem one_words:zAd B32 1=[1]:=by decide +kernel
theorem Nt.one (w:World):Nt (w.alloc (.cells #[.int .u32 1] 197)) (some ⟨w.heap.size,0,none⟩) 1 1 :=
 ⟨by rw [one_words];exact wds_new w _ _ rfl,by rw [one_words];decide⟩
theorem One_c (w:World):Calls Tryz.prog 79 #[] w (zCY 1 w):=by
 go_enter Tryz.func79,Tryz.ntmps79
 go_wp2;go_ret
 exact ⟨_,1,by unfold ntV;rw [one_words];rfl,Nt.one w,(aN _ _).alloc (aC _) _⟩
def CmpRel (w:World) (l r:List Nat) (m:Nat) (i:Value) (wr:World):Prop :=
 (∃ n,wr=w.drewN n)∧m≤l.length∧(∃ z:Int,z=(m:Int) - 1∧i = .int .i64 z)∧l.drop m=r.drop m
theorem Cmp_l (A A2:Option Addr) (c c2:Nat) (l r:List Nat) (w:World) (h:Wds w A l) (h2:Wds w A2 r) (hl:WLt B32 l) (hr:WLt B32 r) (hn:l.length≤1000000000) (he:l.length=r.length) :
  Calls Tryz.prog 116 #[.slice A l.length c,.slice A2 l.length c2] w (zBA (.int .i64 (cmpN (zAh B32 l) (zAh B32 r))) w):=by
 have HE:=zq he;clear he
 go_enter Tryz.func116,Tryz.ntmps116
 go_wp2
 go_loopg [5] l.length (CmpRel w l r)
 case atStart=>exact ⟨⟨0,rfl⟩,aC _,⟨_,rfl,rfl⟩,by rw [aB (aC _),aB (by rw [HE.o];omega)]⟩
 case round =>
  obtain ⟨⟨nd,hw⟩,hk,⟨z,hz,rfl⟩,hd⟩:=hrel;subst hw;have HD:=zq hd;clear hd
  rcases bI gk with h0 | h0
  ·subst h0
   obtain rfl:z = -1:=hz;go_wp2;go_ret
   refine zBA.mk ?_ ⟨_,rfl⟩
   have e:l=r:=by simpa using HD.o
   rw [e,zDo rfl]
   rfl
  ·obtain ⟨j,rfl⟩:∃ j,gk=j+1:=⟨gk - 1,za⟩
   obtain rfl:z=(j:Int):=za;clear hz;have hjr:j<r.length:=by have:=HE.o;omega
   obtain ⟨b,o,rfl,hb,hcl⟩:=h.at_ za;obtain ⟨b2,o2,rfl,hb2,hcl2⟩:=h2.at_ za;have hc0:=hcl j za;have hc1:=hcl2 j hjr;rw [zBm] at hc0 hc1;clear hcl hcl2;have hx:l[j]<B32:=hl.get j za;have hy:r[j]<B32:=hr.get j hjr
   by_cases hq:l[j]=r[j]
   ·have hqb:(((l[j]:Nat):Int) != ((r[j]:Nat):Int))=false:=by simp [hq]
    have HQ:=zq hq;clear hq;go_wp2
    go_quiet (fail)
    go_wp2
    go_roundg j
    case measure=>omega
    case rel =>
     refine ⟨⟨_,rfl⟩,za,⟨_,rfl,rfl⟩,?_⟩
     rw [aG za,aG hjr,HQ.o,HD.o]
   ·have hqb:(((l[j]:Nat):Int) != ((r[j]:Nat):Int))=true:=by simp;omega
    by_cases hlt:l[j]<r[j]
    ·have hltb:decide (l[j]<r[j])=true:=cM hlt
     have HQ:=zq hlt;clear hq hlt;go_wp2
     go_quiet (fail)
     go_wp2
     go_quiet (fail)
     go_wp2;go_ret
     refine zBA.mk ?_ (by rw [World.drewN_drewN,World.drewN_drewN];exact ⟨_,rfl⟩)
     rw [zCy (wval_lt_of hl HE.o za hjr HD.o HQ.o)]
     rfl
    ·have hltb:decide (l[j]<r[j])=false:=cN hlt
     have HQ:=zq (show r[j]<l[j] by omega)
     clear hq hlt;go_wp2
     go_quiet (fail)
     go_wp2
     go_quiet (fail)
     go_wp2;go_ret
     refine zBA.mk ?_ (by rw [World.drewN_drewN,World.drewN_drewN];exact ⟨_,rfl⟩)
     rw [zCF (wval_lt_of hr HE.o.symm hjr za HD.o.symm HQ.o)]
     rfl
theorem Cmp_len (A A2:Option Addr) (c c2 n m:Nat) (w:World) (hne:n≠m) :
  Calls Tryz.prog 116 #[.slice A n c,.slice A2 m c2] w (zBA (.int .i64 (cmpN n m)) w):=by
 have hnb:((n:Int) != (m:Int))=true:=ze
 rcases bQ n m with hlt | hge
 ·have hltb:decide (n<m)=true:=cM hlt
  have hv:cmpN n m = -1:=zCy hlt;rw [hv];have HV:=zq hv;clear hv
  go_enter Tryz.func116,Tryz.ntmps116
  go_wp2;go_ret
  exact zBA.mk rfl ⟨0,rfl⟩
 ·have hltb:decide (n<m)=false:=cN za
  have hv:cmpN n m=1:=zCF za;rw [hv];have HV:=zq hv;clear hv
  go_enter Tryz.func116,Tryz.ntmps116
  go_wp2;go_ret
  exact zBA.mk rfl ⟨0,rfl⟩
theorem Cmp_c (A A2:Option Addr) (c c2 a b:Nat) (w:World) (h:Nt w A c a) (h2:Nt w A2 c2 b) (hn:(zAd B32 a).length≤1000000000) :
  Calls Tryz.prog 116 #[ntV A c a,ntV A2 c2 b] w (zBA (.int .i64 (cmpN a b)) w):=by
 by_cases he:(zAd B32 a).length=(zAd B32 b).length
 ·have:=Cmp_l A A2 c c2 (zAd B32 a) (zAd B32 b) w h.rd h2.rd (zAY zAo a) (zAY zAo b) hn he
  rw [zAz zAo,zAz zAo] at this;unfold ntV;rw [←he];exact this
 ·have:=Cmp_len A A2 c c2 _ _ w he
  have e:cmpN (zAd B32 a).length (zAd B32 b).length=cmpN a b:=by
   rcases bQ (zAd B32 a).length (zAd B32 b).length with h1 | h1
   ·rw [zCy h1,zCy (lt_of_len zAo h1)]
   ·rw [zCF za,zCF (lt_of_len zAo za)]
  rw [e] at this;exact this
end Go.Proofs.YtieoifkdobcpiaaGreatDoor
