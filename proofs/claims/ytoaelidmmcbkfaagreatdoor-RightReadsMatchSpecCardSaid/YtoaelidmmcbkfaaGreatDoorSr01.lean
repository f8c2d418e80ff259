/- Parts of the proof, joined: Plain facts about regions, areas and chains of parents: no program in . -/
import Derived.Test.YtoaelidmmcbkfaaGreatDoorSr00
import GoSem.Op.String
import Derived.Lib.Hide
import Derived.WalkKit
import Derived.Deep.LoopGhost
import Derived.WalkLawsBesides
import Derived.WalkSpells
import Derived.Deep.AppendLies
import Derived.Maps.AppendAt
import Derived.Deep.QuietTactic
import Derived.BigQuiet
import Derived.Test.YtoaelidmmcbkfaaGreatDoorProg
import Derived.Laws.BitsAllLaws
set_option maxRecDepth 100000
set_option maxHeartbeats 8000000
namespace Dw
def sle (a b:BA):Bool:=Go.Op.bytesLess a.toList b.toList || a.toList == b.toList
def slt (a b:BA):Bool:=Go.Op.bytesLess a.toList b.toList
theorem zCU:∀ (x y:List UInt8),Go.Op.bytesLess x y=decide (x<y)
 | [],[]=>by simp [Go.Op.bytesLess]
 | _::_,[]=>by simp [Go.Op.bytesLess]
 | [],_::_=>by simp [Go.Op.bytesLess]
 | a::x,b::y=>by
  rw [Go.Op.bytesLess,zCU x y,Bool.eq_iff_iff];simp [List.cons_lt_cons_iff]
theorem loop_eq (bs:BA):∀ (n i:Nat) (r:List UInt8),bs.size - i=n→i≤bs.size →
  ByteArray.toList.loop bs i r=r.reverse++bs.data.toList.drop i:=by
 have hlen:bs.data.toList.length=bs.size:=by cases bs;rfl
 intro n
 induction n with
 | zero =>
  intro i r h hi;have e:i=bs.size:=za;subst e;have hd:bs.data.toList.drop bs.size=[]:=aA (by rw [hlen];exact aB _)
  rw [ByteArray.toList.loop,aC (Nat.lt_irrefl _),hd,aD]
 | succ n ih =>
  intro i r h hi;have hlt:i<bs.size:=za;rw [ByteArray.toList.loop,aE hlt,ih (i+1) _ za za];have hl:i<bs.data.toList.length:=by rw [hlen];exact hlt
  rw [aF hl]
  have hg:bs.get! i=bs.data.toList[i]:=by
   cases bs with
   | mk d =>
    have hd:i<d.size:=hlt;simp [ByteArray.get!,hd]
  simp [hg]
theorem toList_eq (bs:BA):bs.toList=bs.data.toList:=by
 unfold ByteArray.toList;rw [loop_eq bs bs.size 0 [] za za];simp
theorem toList_inj {a b:BA} (h:a.toList=b.toList):a=b:=by
 rw [toList_eq,toList_eq] at h;exact ByteArray.ext (Array.toList_inj.1 h)
theorem zAy {a b:BA} (h:a=b):(a.toList == b.toList)=true:=xi
theorem zAo {a b:BA} (h:a≠b):(a.toList == b.toList)=false:=by
 rw [aG];exact fun e=>h (toList_inj e)
def emp:BA:=⟨#[]⟩
theorem emp_toList:emp.toList=[]:=by rw [toList_eq];rfl
theorem emp_isEmpty:emp.toList.isEmpty=true:=by rw [emp_toList];rfl
theorem zAk {s:BA} (h:s≠emp):s.toList.isEmpty=false:=by
 cases hs:s.toList with
 | nil=>exact absurd (toList_inj (hs.trans emp_toList.symm)) h
 | cons a l=>rfl
theorem zAm {s:BA} (h:s=emp):s.toList.isEmpty=true:=by rw [h];exact emp_isEmpty
theorem slt_irrefl (a:BA):slt a a=false:=by
 unfold slt;rw [zCU];simp [List.lt_irrefl]
theorem slt_trans {a b c:BA} (h:slt a b=true) (k:slt b c=true):slt a c=true:=by
 unfold slt at *;rw [zCU] at *;simp only [aH] at *;exact List.lt_trans h k
theorem zDQ {a b:BA} (h:sle a b=false):slt b a=true:=by
 unfold sle at h;unfold slt;rw [zCU] at *;simp only [Bool.or_eq_false_iff,decide_eq_false_iff_not,aG] at h;simp only [aH];obtain ⟨h1,h2⟩:=h;rw [List.not_lt] at h1;refine Decidable.byContradiction fun h3=>h2 ?_
 rw [List.not_lt] at h3;exact List.le_antisymm h3 h1
theorem ne_of_slt {a b:BA} (h:slt a b=true):a≠b:=by
 rintro rfl;rw [slt_irrefl] at h;cases h
def memS (l:List BA) (s:BA):Bool:=l.any fun x=>decide (x=s)
theorem memS_true {l:List BA} {s:BA}:memS l s=true↔s∈l:=by
 unfold memS;simp
theorem memS_false {l:List BA} {s:BA}:memS l s=false↔s∉l:=by
 rw [←memS_true];simp
structure Rg where
 nm:BA
 par:BA
structure Ar where
 rg:BA
 out:Bool
instance:Inhabited Rg:=⟨⟨emp,emp⟩⟩
instance:Inhabited Ar:=⟨⟨emp,false⟩⟩
def idx (l:List Rg) (s:BA):Option Nat:=l.findIdx? fun r=>decide (r.nm=s)
theorem idx_some {l:List Rg} {s:BA} {i:Nat} (h:idx l s=some i):∃ hi:i<l.length,(l[i]).nm=s:=by
 obtain ⟨hi,hp,_⟩:=List.findIdx?_eq_some_iff_getElem.1 h;exact ⟨hi,by simpa using hp⟩
theorem idx_none {l:List Rg} {s:BA} (h:idx l s=none) {i:Nat} (hi:i<l.length):(l[i]).nm≠s:=by
 have:=List.findIdx?_eq_none_iff.1 h l[i] (aI hi)
 simpa using this
theorem idx_mk {l:List Rg} {s:BA} {i:Nat} (hi:i<l.length) (h:(l[i]).nm=s) (hmin:∀ j (hj:j<i),(l[j]).nm≠s):idx l s=some i :=
 List.findIdx?_eq_some_iff_getElem.2 ⟨hi,qj,fun j hj=>by simpa using hmin j hj⟩
theorem idx_mk_none {l:List Rg} {s:BA} (h:∀ j (hj:j<l.length),(l[j]).nm≠s):idx l s=none:=by
 refine List.findIdx?_eq_none_iff.2 fun x hx=>?_
 obtain ⟨j,hj,rfl⟩:=aJ hx
 simpa using h j hj
def Inc (l:List Rg):Prop:=∀ i (h:i+1<l.length),slt (l[i]).nm (l[i+1]).nm=true
theorem Inc.lt {l:List Rg} (h:Inc l):∀ (d i:Nat) (hj:i+d+1<l.length),slt (l[i]).nm (l[i+d+1]).nm=true
 | 0,i,hj=>h i hj
 | d+1,i,hj=>slt_trans (h.lt d i za) (h (i+d+1) za)
theorem Inc.inj {l:List Rg} (h:Inc l) {i j:Nat} (hi:i<l.length) (hj:j<l.length) (e:(l[i]).nm=(l[j]).nm):i=j:=by
 rcases Nat.lt_trichotomy i j with h1 | h1 | h1
 ·obtain ⟨d,rfl⟩:∃ d,j=i+d+1:=⟨j - i - 1,za⟩
  exact absurd e (ne_of_slt (h.lt d i hj))
 ·exact h1
 ·obtain ⟨d,rfl⟩:∃ d,i=j+d+1:=⟨i - j - 1,za⟩
  exact absurd e.symm (ne_of_slt (h.lt d j hi))
theorem Inc.idx {l:List Rg} (h:Inc l) {i:Nat} (hi:i<l.length):idx l (l[i]).nm=some i :=
 idx_mk hi rfl fun j hj e=>absurd (h.inj za hi e) za
def up (l:List Rg) (i:Nat):Option Nat :=
 match l[i]? with
 | some r=>if r.par=emp then none else idx l r.par
 | none=>none
def upN (l:List Rg):Nat→Nat→Option Nat
 | 0,i=>some i
 | n+1,i=>match up l i with
  | some j=>upN l n j
  | none=>none
theorem up_lt {l:List Rg} {i j:Nat} (h:up l i=some j):i<l.length∧j<l.length:=by
 unfold up at h
 split at h
 ·rename_i r hr
  split at h
  ·cases h
  ·obtain ⟨hj,_⟩:=idx_some h
   exact ⟨(List.getElem?_eq_some_iff.1 hr).1,hj⟩
 ·cases h
theorem up_of {l:List Rg} {i:Nat} (hi:i<l.length):up l i=if (l[i]).par=emp then none else idx l (l[i]).par:=by
 unfold up;rw [List.getElem?_eq_getElem hi]
theorem zEr (l:List Rg):∀ (a b i:Nat),upN l (a+b) i=(upN l a i).bind (upN l b)
 | 0,b,i=>by simp [upN]
 | a+1,b,i=>by
  rw [show a+1+b=(a+b)+1 from by omega,upN,upN]
  cases up l i with
  | none=>rfl
  | some j=>exact zEr l a b j
theorem upN_lt {l:List Rg}:∀ {n i j:Nat},i<l.length→upN l n i=some j→j<l.length
 | 0,i,j,hi,h=>by simp [upN] at h;omega
 | n+1,i,j,hi,h=>by
  rw [upN] at h
  split at h
  ·rename_i k hk;exact upN_lt (up_lt hk).2 h
  ·cases h
theorem zBW {l:List Rg} {n m i:Nat} (h:upN l n i=none) (hm:n≤m):upN l m i=none:=by
 obtain ⟨d,rfl⟩:∃ d,m=n+d:=⟨m - n,za⟩;rw [zEr,h];rfl
theorem upN_some_of {l:List Rg} {n m i j:Nat} (h:upN l m i=some j) (hm:n≤m):∃ k,upN l n i=some k:=by
 cases hk:upN l n i with
 | some k=>exact ⟨k,rfl⟩
 | none=>rw [zBW hk hm] at h;cases h
def EndsR (l:List Rg):Prop:=∀ i,i<l.length→upN l (l.length+2) i=none
theorem zDI {l:List Rg} {m i:Nat} (h:upN l m i=some i):∀ k,upN l (m*k) i=some i
 | 0=>by simp [upN]
 | k+1=>by rw [Nat.mul_succ,zEr,zDI h k];exact h
theorem twice_of_long {l:List Rg} {i:Nat} (hi:i<l.length) (h:upN l l.length i≠none) :
  ∃ j m,j<l.length∧0<m∧m≤l.length∧upN l m j=some j:=by
 refine Classical.byContradiction fun hno=>?_
 have hall:∀ n,n≤l.length→∃ k,upN l n i=some k:=fun n hn=>by
  cases hk:upN l l.length i with
  | none=>exact absurd hk h
  | some k=>exact upN_some_of hk hn
 have hnd:((List.range (l.length+1)).map fun n=>(upN l n i).getD 0).Nodup:=by
  rw [List.nodup_iff_pairwise_ne,List.pairwise_iff_getElem];intro a b ha hb hab;simp only [aK,List.length_range] at ha hb;simp only [aL,List.getElem_range];obtain ⟨x,hx⟩:=hall a za;obtain ⟨y,hy⟩:=hall b za;rw [hx,hy];intro e;simp only [aM] at e;subst e;refine hno ⟨x,b - a,upN_lt hi hx,za,za,?_⟩
  have h2:upN l (a+(b - a)) i=some x:=by rw [show a+(b - a)=b from by omega];exact hy
  rw [zEr,hx] at h2;exact h2
 have hsub:((List.range (l.length+1)).map fun n=>(upN l n i).getD 0) ⊆ List.range l.length:=by
  intro x hx;obtain ⟨n,hn,rfl⟩:=List.mem_map.1 hx;rw [List.mem_range] at hn;obtain ⟨k,hk⟩:=hall n za;rw [hk]
  simpa using upN_lt hi hk
 have:=hnd.length_le_of_subset hsub;simp at this
 omega
theorem not_ends_iff {l:List Rg}:¬ EndsR l↔∃ j m,j<l.length∧0<m∧m≤l.length∧upN l m j=some j:=by
 constructor
 ·intro h
  unfold EndsR at h
  have:∃ i,i<l.length∧upN l (l.length+2) i≠none:=by
   refine Classical.byContradiction fun hn=>h fun i hi=>?_
   exact Classical.byContradiction fun h2=>hn ⟨i,hi,h2⟩
  obtain ⟨i,hi,h2⟩:=this;refine twice_of_long hi fun h3=>h2 (zBW h3 za)
 ·rintro ⟨j,m,hj,hm,hml,h⟩ hE
  have h1:=hE j hj;have h2:=zDI h (l.length+2)
  have:upN l (m*(l.length+2)) j=none:=zBW h1 (by
   calc l.length+2=1*(l.length+2):=by omega
    _≤m*(l.length+2):=aN _ hm)
  rw [this] at h2;cases h2
theorem zAZ {α:Type} {n k:Nat} {f:Nat→Option α} {x:α} (hk:k<n) (hpre:∀ j,j<k→f j=none) (h:f k=some x) :
  (List.range n).findSome? f=some x:=by
 obtain ⟨d,rfl⟩:∃ d,n=k+(d+1):=⟨n - k - 1,za⟩;rw [List.range_add,List.findSome?_append,List.findSome?_eq_none_iff.2 (fun j hj=>hpre j (List.mem_range.1 hj)),List.range_succ_eq_map]
 simp [h]
theorem zBk {α:Type} {n:Nat} {f:Nat→Option α} (h:∀ j,j<n→f j=none):(List.range n).findSome? f=none :=
 List.findSome?_eq_none_iff.2 fun j hj=>h j (List.mem_range.1 hj)
def okB (c:UInt8):Bool:=(decide (97≤c.toNat)&&decide (c.toNat≤122)) || (decide (48≤c.toNat)&&decide (c.toNat≤57)) || decide (c.toNat=45)
def zBA (s:BA):Bool:=decide (1≤s.size)&&decide (s.size≤40)&&decide (97≤(s.data.toList.headD 0).toNat)&&decide ((s.data.toList.headD 0).toNat≤122)&&s.data.toList.all okB
theorem isNm_ne {s:BA} (h:zBA s=true):s≠emp:=by
 rintro rfl
 revert h
 decide
def nmAt (l:List Rg) (i:Nat):BA:=(l.getD i default).nm
theorem zBF {l:List Rg} {i:Nat} (h:i<l.length):nmAt l i=(l[i]).nm:=by simp [nmAt,List.getD,h]
def zBd (l:List Rg) (i:Nat):Option Int :=
 if zBA (nmAt l i)=false then some 5 else if 0<i∧sle (nmAt l i) (nmAt l (i - 1))=true then some 8 else none
def zBX (l:List Rg) (r:Rg):Bool:=decide (r.par≠emp)&&(idx l r.par).isNone
instance (l:List Rg):Decidable (EndsR l):=inferInstanceAs (Decidable (∀ i,i<l.length→upN l (l.length+2) i=none))
def zEd (l:List Rg):Int :=
 if l=[] then 9 else if 200<l.length then 2 else
 match (List.range l.length).findSome? (zBd l) with
 | some f=>f
 | none=>if l.any (zBX l)=true then 5 else if EndsR l then 0 else 14
structure GoodR (l:List Rg):Prop where
 ne:l≠[]
 len:l.length≤200
 nm:∀ i (h:i<l.length),zBA (l[i]).nm=true
 inc:Inc l
 par:∀ i (h:i<l.length),(l[i]).par≠emp→∃ j,idx l (l[i]).par=some j
 ends:EndsR l
theorem inc_of_fault {l:List Rg} (h:∀ i,i<l.length→zBd l i=none):(∀ i (h:i<l.length),zBA (l[i]).nm=true)∧Inc l:=by
 have hn:∀ i (h:i<l.length),zBA (l[i]).nm=true:=fun i hi=>by
  have:=h i hi;unfold zBd at this;rw [zBF hi] at this
  cases hb:zBA (l[i]).nm with
  | true=>rfl
  | false=>rw [aE hb] at this;cases this
 refine ⟨hn,fun i hi=>?_⟩
 have:=h (i+1) hi;unfold zBd at this;rw [zBF hi,aC (by rw [hn (i+1) hi];simp),show i+1 - 1=i from rfl,zBF za] at this
 refine zDQ ?_
 cases hb:sle (l[i+1]).nm (l[i]).nm with
 | false=>rfl
 | true=>rw [aE ⟨za,hb⟩] at this;cases this
theorem rgFault_ne {l:List Rg} {i:Nat} {f:Int} (h:zBd l i=some f):f≠0:=by
 unfold zBd at h
 split at h
 ·injection h with h;omega
 ·split at h
  ·injection h with h;omega
  ·cases h
theorem good_of {l:List Rg} (h:zEd l=0):GoodR l:=by
 unfold zEd at h
 split at h
 ·omega
 ·rename_i h1
  split at h
  ·omega
  ·rename_i h2
   split at h
   ·rename_i f hf
    obtain ⟨i,_,hi⟩:=List.exists_of_findSome?_eq_some hf;exact absurd h (rgFault_ne hi)
   ·rename_i hn
    have hn':∀ i,i<l.length→zBd l i=none:=fun i hi=>List.findSome?_eq_none_iff.1 hn i (List.mem_range.2 hi)
    obtain ⟨ha,hb⟩:=inc_of_fault hn'
    split at h
    ·omega
    ·rename_i h3
     split at h
     ·rename_i h4
      refine ⟨h1,za,ha,hb,fun i hi hne=>?_,h4⟩
      cases hx:idx l (l[i]).par with
      | some j=>exact ⟨j,rfl⟩
      | none=>exact absurd (List.any_eq_true.2 ⟨l[i],aI hi,by simp [zBX,hne,hx]⟩) h3
     ·omega
def rgAt (a:List Ar) (i:Nat):BA:=(a.getD i default).rg
theorem zEq {a:List Ar} {i:Nat} (h:i<a.length):rgAt a i=(a[i]).rg:=by simp [rgAt,List.getD,h]
def zBB (l:List Rg) (a:List Ar) (i:Nat):Option Int :=
 if idx l (rgAt a i)=none then some 5 else if 0<i∧sle (rgAt a i) (rgAt a (i - 1))=true then some 8 else none
def zDN (l:List Rg) (a:List Ar):Int :=
 if 100<a.length then 2 else
 match (List.range a.length).findSome? (zBB l a) with
 | some f=>f
 | none=>0
def findA (a:List Ar) (s:BA):Option Ar:=a.find? fun x=>decide (x.rg=s)
def liesF (l:List Rg) (a:List Ar):Nat→Nat→Bool
 | 0,_=>false
 | f+1,i=>match findA a (nmAt l i) with
  | some x=>!x.out
  | none=>match up l i with
   | some j=>liesF l a f j
   | none=>false
def lies (l:List Rg) (a:List Ar) (i:Nat):Bool:=liesF l a (l.length+2) i
def zBc (l:List Rg) (i:Nat):Bool:=l.any fun q=>decide (q.par=nmAt l i)
def zAV (l:List Rg):List Nat:=(List.range l.length).filter fun i=>!zBc l i
def zBG (l:List Rg) (a:List Ar):List BA:=((zAV l).filter (lies l a)).map (nmAt l)
def zCG (l:List Rg):Nat→Nat→Nat→Bool
 | 0,_,_=>false
 | f+1,i,k=>decide (i=k) || match up l i with
  | some j=>zCG l f j k
  | none=>false
def under (l:List Rg) (i k:Nat):Bool:=zCG l (l.length+2) i k
def leavesS (l:List Rg) (a:List Ar):List BA×Int :=
 if zEd l≠0 then ([],zEd l) else if zDN l a≠0 then ([],zDN l a) else (zBG l a,0)
theorem findA_some {a:List Ar} {s:BA} {k:Nat} (hk:k<a.length) (h:(a[k]).rg=s) (hmin:∀ j (hj:j<a.length),j<k→(a[j]).rg≠s):findA a s=some a[k]:=by
 unfold findA;rw [List.find?_eq_some_iff_getElem];exact ⟨qj,k,hk,rfl,fun j hj=>by simpa using hmin j za hj⟩
theorem findA_none {a:List Ar} {s:BA} (h:∀ j (hj:j<a.length),(a[j]).rg≠s):findA a s=none:=by
 unfold findA;rw [List.find?_eq_none];intro x hx;obtain ⟨j,hj,rfl⟩:=aJ hx
 simpa using h j hj
theorem up_none {l:List Rg} {i:Nat} (hi:i<l.length) (h:(l[i]).par=emp):up l i=none:=by rw [up_of hi,aE h]
theorem GoodR.up_some {l:List Rg} (g:GoodR l) {i:Nat} (hi:i<l.length) (h:(l[i]).par≠emp):∃ j,∃ hj:j<l.length,up l i=some j∧(l[i]).par=(l[j]).nm:=by
 obtain ⟨j,hj⟩:=g.par i hi h;obtain ⟨hjl,e⟩:=idx_some hj;exact ⟨j,hjl,by rw [up_of hi,aC h];exact hj,e.symm⟩
theorem GoodR.nm_ne {l:List Rg} (g:GoodR l) {i:Nat} (hi:i<l.length):(l[i]).nm≠emp:=isNm_ne (g.nm i hi)
theorem GoodR.nm_inj {l:List Rg} (g:GoodR l) {i j:Nat} (hi:i<l.length) (hj:j<l.length) (e:(l[i]).nm=(l[j]).nm):i=j:=g.inc.inj hi hj e
end Dw
namespace Go.Proofs.YtoaelidmmcbkfaaGreatDoor
def zAi (B:Nat):List Nat→Nat
 | []=>0
 | a::l=>a+B*zAi B l
def WLt (B:Nat) (l:List Nat):Prop:=∀ x∈l,x<B
def zBI:List Nat→List Nat
 | []=>[]
 | a::l=>if zBI l=[]∧a=0 then [] else a::zBI l
def wordsF (B:Nat):Nat→Nat→List Nat
 | 0,_=>[]
 | f+1,n=>if n=0 then [] else n % B::wordsF B f (n / B)
def zAe (B n:Nat):List Nat:=wordsF B n n
theorem WLt.tail {B a:Nat} {l:List Nat} (h:WLt B (a::l)):WLt B l:=fun x hx=>h x (List.mem_cons_of_mem _ hx)
theorem WLt.head {B a:Nat} {l:List Nat} (h:WLt B (a::l)):a<B:=h a aO
theorem WLt.nil {B:Nat}:WLt B []:=fun _ hx=>by cases hx
theorem WLt.cons {B a:Nat} {l:List Nat} (h:a<B) (hl:WLt B l):WLt B (a::l):=fun x hx=>by
 rcases List.mem_cons.1 hx with rfl | hx
 ·exact h
 ·exact hl x hx
theorem zAY (B:Nat):∀ l r:List Nat,zAi B (l++r)=zAi B l+B ^ l.length*zAi B r
 | [],r=>vh
 | a::l,r=>by
  rw [aP,zAi,zAi,zAY B l r,aQ,aR,aS,aT (B ^ l.length) B,aU];omega
theorem zDS {B:Nat}:∀ {l:List Nat},WLt B l→zAi B l<B ^ l.length
 | [],_=>vh
 | a::l,h=>by
  have h1:=zDS h.tail;have h2:=h.head;rw [zAi,aQ,aR,aT]
  calc a+zAi B l*B<B+zAi B l*B:=by omega
   _=(zAi B l+1)*B:=by rw [aV,Nat.one_mul,Nat.add_comm]
   _≤B ^ l.length*B:=aN _ h1
theorem wval_zero {B:Nat}:∀ {l:List Nat},WLt B l→zAi B l=0→zBI l=[]
 | [],_,_=>rfl
 | a::l,h,e=>by
  have hB:0<B:=aW (aX _) h.head;rw [zAi] at e;have h1:a=0:=za;have h2:B*zAi B l=0:=za
  have h3:zAi B l=0:=by
   rcases Nat.mul_eq_zero.1 h2 with h | h
   ·omega
   ·exact h
  rw [zBI,aE ⟨wval_zero h.tail h3,h1⟩]
theorem wtrim_eq {B:Nat}:∀ {l r:List Nat},WLt B l→WLt B r→zAi B l=zAi B r→zBI l=zBI r
 | [],r,_,hr,e=>(wval_zero hr e.symm).symm
 | a::l,[],hl,_,e=>wval_zero hl e
 | a::l,b::r,hl,hr,e=>by
  have h1:=hl.head;have h2:=hr.head;rw [zAi,zAi] at e
  have e1:a=b:=by
   have:=aY (· % B) e;simp only [Nat.add_mul_mod_self_left] at this
   rwa [aZ h1,aZ h2] at this
  have e2:zAi B l=zAi B r:=by
   have h3:B*zAi B l=B*zAi B r:=za;exact Nat.eq_of_mul_eq_mul_left za h3
  rw [zBI,zBI,wtrim_eq hl.tail hr.tail e2,e1]
theorem wordsF_ok {B:Nat} (hB:1<B):∀ f n:Nat,n≤f→zAi B (wordsF B f n)=n∧WLt B (wordsF B f n)∧zBI (wordsF B f n)=wordsF B f n
 | 0,n,h=>by
  obtain rfl:n=0:=za;exact ⟨rfl,WLt.nil,rfl⟩
 | f+1,n,h=>by
  rw [wordsF]
  split
  ·next h0=>subst h0;exact ⟨rfl,WLt.nil,rfl⟩
  ·next h0 =>
   have hlt:n / B<n:=Nat.div_lt_self za hB;obtain ⟨h1,h2,h3⟩:=wordsF_ok hB f (n / B) za;refine ⟨?_,WLt.cons (bA _ za) h2,?_⟩
   ·rw [zAi,h1];exact bB n B
   ·rw [zBI,aC,h3]
    rintro ⟨e1,e2⟩;rw [h3] at e1;have e3:n / B=0:=by rw [←h1,e1];rfl
    have:=bB n B;rw [e2,e3] at this;omega
theorem zAw {B:Nat} (hB:1<B) (n:Nat):zAi B (zAe B n)=n:=(wordsF_ok hB n n (aB _)).1
theorem zBb {B:Nat} (hB:1<B) (n:Nat):WLt B (zAe B n):=(wordsF_ok hB n n (aB _)).2.1
theorem words_trim {B:Nat} (hB:1<B) (n:Nat):zBI (zAe B n)=zAe B n:=(wordsF_ok hB n n (aB _)).2.2
theorem zCt {B:Nat} (hB:1<B) {l:List Nat} (h:WLt B l):zBI l=zAe B (zAi B l):=by
 rw [←words_trim hB (zAi B l)];exact wtrim_eq h (zBb hB _) (zAw hB _).symm
theorem zDz {B:Nat} (hB:1<B) {n:Nat}:zAe B n=[]↔n=0 :=
 ⟨fun h=>by rw [←zAw hB n,h];rfl,fun h=>by subst h;rfl⟩
theorem zBM {B:Nat} (hB:1<B) (n:Nat):n<B ^ (zAe B n).length:=by
 have:=zDS (zBb hB n)
 rwa [zAw hB] at this
theorem digit_le {B q u v top v1 n:Nat} (h:q*v≤u) (hv:v1*B ^ n≤v) (hu:u<(top+1)*B ^ n) (h1:0<v1):q≤top / v1:=by
 rw [Nat.le_div_iff_mul_le h1]
 have h2:q*v1*B ^ n<(top+1)*B ^ n:=by
  calc q*v1*B ^ n=q*(v1*B ^ n):=by rw [aU]
   _≤q*v:=bC _ hv
   _≤u:=h
   _<_:=hu
 have:=Nat.lt_of_mul_lt_mul_right h2;omega
theorem zBR (B a:Nat):zAi B [a]=a:=vh
theorem zAH {B i:Nat} {l:List Nat} (hi:i<l.length):zAi B (l.take (i+1))=zAi B (l.take i)+B ^ i*l[i]:=by
 rw [bD hi,zAY,zBR,bE,bF (bG hi)]
theorem zDB {B i:Nat} {l:List Nat} (hi:i<l.length):zAi B (l.drop i)=l[i]+B*zAi B (l.drop (i+1)):=by
 rw [aF hi,zAi]
theorem zCP (B i:Nat) (l:List Nat) (hi:i≤l.length):zAi B l=zAi B (l.take i)+B ^ i*zAi B (l.drop i):=by
 have:=zAY B (l.take i) (l.drop i);rw [List.take_append_drop,bE,bF hi] at this;exact this
theorem add_col {B i x y o c a b s:Nat} (h:o+B ^ i*c=x+y) (hs:s=c+a+b):(o+B ^ i*(s % B))+B ^ (i+1)*(s / B)=(x+B ^ i*a)+(y+B ^ i*b):=by
 have h1:B ^ i*(s % B)+B ^ (i+1)*(s / B)=B ^ i*s:=by
  rw [aR,aU,←aS,bB]
 have h2:B ^ i*s=B ^ i*c+B ^ i*a+B ^ i*b:=by rw [hs,aS,aS]
 omega
theorem next_lt {B r v x:Nat} (hr:r<v) (hx:x<B):x+B*r<v*B:=by
 calc x+B*r<B+B*r:=by omega
  _=(r+1)*B:=by rw [aV,Nat.one_mul,aT B r,Nat.add_comm]
  _≤v*B:=aN _ hr
theorem quot_lt {B u v:Nat} (h:u<v*B):u / v<B:=by
 have hv:0<v:=by
  rcases bH v with e | e
  ·subst e;simp at h
  ·exact e
 exact (Nat.div_lt_iff_lt_mul hv).2 (by rw [aT];exact h)
theorem div_next {B r v x:Nat} (hv:0<v) (q:Nat):(x+B*(q*v+r)) / v=B*q+(x+B*r) / v∧(x+B*(q*v+r)) % v=(x+B*r) % v:=by
 have e:x+B*(q*v+r)=x+B*r+v*(B*q):=by
  rw [aS,←aU,aT v];omega
 rw [e,Nat.add_mul_div_left _ _ hv,Nat.add_mul_mod_self_left];exact ⟨za,rfl⟩
theorem gcd_step {a b:Nat}:Nat.gcd a b=Nat.gcd b (a % b):=by
 rw [Nat.gcd_comm,Nat.gcd_rec,Nat.gcd_comm]
def zBQ (l:List UInt8):Nat:=l.foldl (fun n c=>10*n+(c.toNat - 48)) 0
theorem decV_from (l:List UInt8):∀ n:Nat,l.foldl (fun n c=>10*n+(c.toNat - 48)) n=n*10 ^ l.length+zBQ l:=by
 induction l with
 | nil=>intro n;simp [zBQ]
 | cons c l ih =>
  intro n;have e:zBQ (c::l)=l.foldl (fun n c=>10*n+(c.toNat - 48)) (10*0+(c.toNat - 48)):=rfl
  rw [List.foldl_cons,ih,e,ih,aQ,aR,aV]
  have h1:10*n*10 ^ l.length=n*(10 ^ l.length*10):=by
   rw [aT 10 n,aU,aT 10]
  rw [h1,bI,bJ];omega
theorem zEi (l r:List UInt8):zBQ (l++r)=zBQ l*10 ^ r.length+zBQ r:=by
 unfold zBQ;rw [List.foldl_append];exact decV_from r _
theorem decV_cut (l:List UInt8) (k:Nat):zBQ l=zBQ (l.take k)*10 ^ (l.length - k)+zBQ (l.drop k):=by
 have:=zEi (l.take k) (l.drop k);rw [List.take_append_drop,bK] at this;exact this
theorem decV_lt {l:List UInt8} (h:∀ c∈l,c.toNat - 48<10):zBQ l<10 ^ l.length:=by
 induction l with
 | nil=>simp [zBQ]
 | cons c l ih =>
  have e:zBQ (c::l)=l.foldl (fun n c=>10*n+(c.toNat - 48)) (10*0+(c.toNat - 48)):=rfl
  have h1:=ih fun x hx=>h x (List.mem_cons_of_mem _ hx)
  have h2:=h c aO;rw [e,decV_from,aQ,aR]
  calc (10*0+(c.toNat - 48))*10 ^ l.length+zBQ l<(10*0+(c.toNat - 48))*10 ^ l.length+10 ^ l.length:=by omega
   _=(c.toNat - 48+1)*10 ^ l.length:=by rw [bI,bJ,aV,Nat.one_mul]
   _≤10*10 ^ l.length:=aN _ h2
   _=10 ^ l.length*10:=aT _ _
theorem scale_col {B i m o c a s:Nat} (hs:s=c+m*a):o+B ^ i*(s % B)+B ^ (i+1)*(s / B)=o+B ^ i*c+B ^ i*(m*a):=by
 have h1:B ^ i*(s % B)+B ^ (i+1)*(s / B)=B ^ i*s:=by
  rw [aR,aU,←aS,bB]
 have h2:B ^ i*s=B ^ i*c+B ^ i*(m*a):=by rw [hs,aS]
 omega
theorem wtrim_zero:∀ l:List Nat,zBI (l++[0])=zBI l
 | []=>by simp [zBI]
 | a::l=>by rw [aP,zBI,zBI,wtrim_zero l]
theorem wtrim_ne {a:Nat} (h:a≠0):∀ l:List Nat,zBI (l++[a])=l++[a]
 | []=>by simp [zBI,h]
 | b::l=>by
  rw [aP,zBI,wtrim_ne h l,aC];rintro ⟨e,_⟩;simp at e
theorem wtrim_take_zero {L:List Nat} {k:Nat} (hk:k<L.length) (h:L[k]=0):zBI (L.take (k+1))=zBI (L.take k):=by
 rw [bD hk,h,wtrim_zero]
theorem zEv {L:List Nat} {k:Nat} (hk:k<L.length) (h:L[k]≠0):zBI (L.take (k+1))=L.take (k+1):=by
 rw [bD hk,wtrim_ne h]
theorem zDA (L:List Nat):(zBI L).length≤L.length:=by
 induction L with
 | nil=>simp [zBI]
 | cons a l ih =>
  rw [zBI]
  split<;>simp<;>omega
theorem zDM:∀ L:List Nat,zBI L=L.take (zBI L).length
 | []=>by simp [zBI]
 | a::l=>by
  rw [zBI]
  split
  ·simp
  ·rw [aQ,bL,←zDM l]
theorem wtrim_last:∀ {L:List Nat},zBI L=L→∀ (h:L≠[]),L.getLast h≠0
 | [],_,h=>absurd rfl h
 | [a],e,_=>by
  intro h0;have h1:a=0:=by simpa using h0
  subst h1;simp [zBI] at e
 | a::b::l,e,_=>by
  rw [zBI] at e
  split at e
  ·cases e
  ·injection e with _ e
   rw [List.getLast_cons zd];exact wtrim_last e zd
section
variable {B:Nat}
theorem zDr (hB:1<B) {n:Nat} (h:0<(zAe B n).length):(zAe B n)[(zAe B n).length - 1]≠0:=by
 have h0:zAe B n≠[]:=fun e=>by rw [e] at h;simp at h
 have:=wtrim_last (words_trim hB n) h0
 rwa [List.getLast_eq_getElem] at this
theorem wval_ge {l:List Nat} (h:0<l.length) (h0:l[l.length - 1]≠0):B ^ (l.length - 1)≤zAi B l:=by
 have e:l.length - 1<l.length:=za;have h1:=zAH (B:=B) e;rw [show l.length - 1+1=l.length by omega,bM] at h1
 rw [h1];have:1≤l[l.length - 1]:=za;have h2:=bC (B ^ (l.length - 1)) this;omega
theorem lt_of_len (hB:1<B) {a b:Nat} (h:(zAe B a).length<(zAe B b).length):a<b:=by
 have h1:=zBM hB a;have h2:=wval_ge (B:=B) (l:=zAe B b) za (zDr hB za);rw [zAw hB] at h2;have h3:B ^ (zAe B a).length≤B ^ ((zAe B b).length - 1):=bN za za;omega
theorem zBn (hB:1<B) {a k:Nat} (h:a<B ^ k):(zAe B a).length≤k:=by
 rcases bO k (zAe B a).length with h1 | h1
 ·have h2:=wval_ge (B:=B) (l:=zAe B a) za (zDr hB za)
  rw [zAw hB] at h2;have h3:B ^ k≤B ^ ((zAe B a).length - 1):=bN za za;omega
 ·exact h1
theorem zAL (hB:1<B) {a b:Nat} (h:a≤b):(zAe B a).length≤(zAe B b).length :=
 zBn hB (aW h (zBM hB b))
theorem wval_lt_of {l r:List Nat} (hl:WLt B l) (e:l.length=r.length) {i:Nat} (hi:i<l.length) (hi':i<r.length)
  (hd:l.drop (i+1)=r.drop (i+1)) (h:l[i]<r[i]):zAi B l<zAi B r:=by
 have h1:=zCP B i l za;have h2:=zCP B i r za;rw [zDB hi] at h1;rw [zDB hi',←hd] at h2;have h3:zAi B (l.take i)<B ^ (l.take i).length:=zDS fun x hx=>hl x (List.mem_of_mem_take hx)
 rw [bE,bF za] at h3;have h4:B ^ i*(l[i]+1)≤B ^ i*r[i]:=bC _ h;rw [h1,h2,aS,aS];rw [aS,bP] at h4;omega
end
def zDD (a b:Nat):Int:=if a<b then -1 else if a=b then 0 else 1
theorem zBU {a b:Nat} (h:a<b):zDD a b = -1:=by rw [zDD,aE h]
theorem zBT {a b:Nat} (h:b<a):zDD a b=1:=by rw [zDD,aC za,aC za]
theorem zDa {a b:Nat} (h:a=b):zDD a b=0:=by rw [zDD,aC za,aE h]
theorem step_col {B i:Nat} {W U V q u v w c lo hi b b':Int} (h:W=U - q*V+(B:Int) ^ i*(c+b)) (hC:c+q*v=lo+B*hi) (hw:w=u - lo - b+B*b') :
  W+(B:Int) ^ i*w=(U+(B:Int) ^ i*u) - q*(V+(B:Int) ^ i*v)+(B:Int) ^ (i+1)*(hi+b'):=by
 have h1:(B:Int) ^ i*w=(B:Int) ^ i*u - (B:Int) ^ i*lo - (B:Int) ^ i*b+(B:Int) ^ i*(B*b'):=by
  rw [hw,Int.mul_add,Int.mul_sub,Int.mul_sub]
 have h2:(B:Int) ^ i*(c+b)=(B:Int) ^ i*c+(B:Int) ^ i*b:=Int.mul_add ..
 have h3:q*(V+(B:Int) ^ i*v)=q*V+(B:Int) ^ i*(q*v):=by
  rw [Int.mul_add,Int.mul_left_comm]
 have h4:(B:Int) ^ (i+1)*(hi+b')=(B:Int) ^ i*(B*hi)+(B:Int) ^ i*(B*b'):=by
  rw [Int.pow_succ,Int.mul_assoc,Int.mul_add,Int.mul_add]
 have h5:(B:Int) ^ i*c+(B:Int) ^ i*(q*v)=(B:Int) ^ i*lo+(B:Int) ^ i*(B*hi):=by
  rw [←Int.mul_add,←Int.mul_add,hC]
 omega
open Dw
def zDj (n d:Nat):Nat×Nat:=(n / Nat.gcd n d,d / Nat.gcd n d)
def addP (p q:Nat×Nat):Nat×Nat:=zDj (p.1*q.2+q.1*p.2) (p.2*q.2)
def dgB (c:UInt8):Bool:=decide (48≤c.toNat)&&decide (c.toNat≤57)
theorem dgB_iff (c:UInt8):dgB c=true↔48≤c.toNat∧c.toNat≤57:=by unfold dgB;simp
def zCN (s:BA):Bool:=s.data.toList.all dgB&&(decide (s.size=1) || decide (1<s.size)&&decide ((s.data.toList.headD 0).toNat≠48))
def zDo (s:BA):Bool:=decide (0<s.size)&&decide ((s.data.toList.headD 0).toNat=45)
def absL (s:BA):List UInt8:=if zDo s=true then s.data.toList.tail else s.data.toList
def zBh (s:BA):BA:=⟨(absL s).toArray⟩
def zCJ:BA:=⟨#[48]⟩
def zAK (s:BA):Nat:=zBQ s.data.toList
def ratF (nu de:BA):Int :=
 if zCN (zBh nu)=false∨(zDo nu=true∧zBh nu=zCJ)∨zCN de=false∨de=zCJ then 3
 else if 2000<(zBh nu).size∨2000<de.size then 2
 else if Nat.gcd (zAK (zBh nu)) (zAK de)=1 then 0 else 3
def posB (nu:BA):Bool:=!zDo nu&&decide (zAK (zBh nu)≠0)
structure Sh where
 pt:BA
 nu:BA
 de:BA
deriving Inhabited
structure De where
 id:BA
 day:Int
 kd:Int
 th:BA
 fr:BA
 to_:BA
 nu:BA
 de:BA
 ex:Bool
 sb:Bool
 arA:Option Go.Addr
 ar:List Ar
 arc:Nat
 usA:Option Go.Addr
 us:List BA
 usc:Nat
 bg:Int
 en:Int
 shA:Option Go.Addr
 sh:List Sh
 shc:Nat
 ot:BA
deriving Inhabited
def zCm (n:Int):Bool:=decide (0≤n)&&decide (n≤200000)
def ptAt (l:List Sh) (i:Nat):BA:=(l.getD i default).pt
def zBe (l:List Sh) (i:Nat):Option Int :=
 if zBA (ptAt l i)=false then some 5
 else if 0<i∧sle (ptAt l i) (ptAt l (i - 1))=true then some 8
 else if ratF (l.getD i default).nu (l.getD i default).de≠0 then some (ratF (l.getD i default).nu (l.getD i default).de)
 else if posB (l.getD i default).nu=false then some 1 else none
def zCY (l:List Sh) (k:Nat):Nat×Nat:=(l.take k).foldl (fun p s=>addP p (zAK (zBh s.nu),zAK s.de)) (0,1)
def shF (kd:Int) (l:List Sh):Int :=
 if l=[] then 9 else if 20<l.length then 2 else
 match (List.range l.length).findSome? (zBe l) with
 | some f=>f
 | none=>if (zCY l l.length).2<(zCY l l.length).1∨(kd=5∧(zCY l l.length).1≠(zCY l l.length).2) then 1 else 0
def usAt (l:List BA) (i:Nat):BA:=l.getD i default
def zBH (us l:List BA) (i:Nat):Option Int :=
 if memS us (usAt l i)=false then some 5 else if 0<i∧sle (usAt l i) (usAt l (i - 1))=true then some 8 else none
def useF (us l:List BA):Int:=match (List.range l.length).findSome? (zBH us l) with
 | some f=>f
 | none=>0
def zAf (k:Int):Bool:=decide (k=2) || decide (k=3)
def divB (k:Int):Bool:=decide (k=1) || decide (k=5)
def zAB (d:De):Bool :=
 (!(zAf d.kd || decide (d.kd=1))&&decide (d.th≠emp)) || (!(zAf d.kd || decide (d.kd=5))&&decide (d.fr≠emp)) || (!zAf d.kd&&decide (d.to_≠emp)) ||
 (!decide (d.kd=2)&&(decide (d.nu≠emp) || decide (d.de≠emp))) || (!decide (d.kd=3)&&(d.ex || d.sb)) || (!zAf d.kd&&(decide (d.ar≠[]) || decide (d.us≠[]))) ||
 (!zAf d.kd&&decide (d.en≠0)) || (!(decide (d.kd=1) || decide (d.kd=5))&&decide (d.sh≠[])) || (!decide (d.kd=4)&&decide (d.ot≠emp))
def parF (d:De):Int :=
 if d.kd≠2 then 0 else if ratF d.nu d.de≠0 then ratF d.nu d.de else if posB d.nu=false∨zAK d.de<zAK (zBh d.nu) then 1 else 0
def giftF (rs:List Rg) (us:List BA) (d:De):Int :=
 if zBA d.th=false∨zBA d.fr=false∨zBA d.to_=false then 5
 else if d.fr=d.to_ then 12
 else if parF d≠0 then parF d
 else if zDN rs d.ar≠0 then zDN rs d.ar
 else if zBG rs d.ar=[]∨d.us=[] then 9
 else if useF us d.us≠0 then useF us d.us
 else if zCm d.bg=false∨zCm d.en=false then 1
 else if d.en≤d.bg then 8 else 0
def divF (pre:List De) (d:De):Int :=
 if (d.kd=1∧zBA d.th=false)∨(d.kd=5∧zBA d.fr=false) then 5
 else if zCm d.bg=false then 1
 else if shF d.kd d.sh≠0 then shF d.kd d.sh
 else if d.kd=5∧(d.sh.any fun s=>decide (s.pt=d.fr))=true then 12
 else if (pre.any fun p=>decide (p.kd=d.kd)&&decide (p.th=d.th)&&decide (p.fr=d.fr))=true then 7 else 0
def endF (pre:List De) (d:De):Int :=
 if zCm d.bg=false then 1
 else if (pre.any fun p=>decide (p.id=d.ot)&&zAf p.kd)=false then 9
 else if (pre.any fun p=>decide (p.kd=4)&&decide (p.ot=d.ot))=true then 7 else 0
def deLt (a b:De):Bool:=decide (a.day<b.day) || decide (a.day=b.day)&&slt a.id b.id
def zDK (pre:List De) (d:De):Bool:=match pre.getLast? with
 | some p=>deLt p d
 | none=>true
def chkD (rs:List Rg) (us:List BA) (pre:List De) (d:De):Int :=
 if zBA d.id=false then 5
 else if zCm d.day=false then 1
 else if zDK pre d=false then 8
 else if (pre.any fun p=>decide (p.id=d.id))=true then 7
 else if d.kd<1∨5<d.kd then 4
 else if zAB d=true then 3
 else if zAf d.kd=true then giftF rs us d
 else if d.kd=4 then endF pre d else divF pre d
def zCy (rs:List Rg) (us:List BA) (ds:List De) (k:Nat):Option Int :=
 if chkD rs us (ds.take k) (ds.getD k default)≠0 then some (chkD rs us (ds.take k) (ds.getD k default)) else none
def zBs (l:List BA) (i:Nat):Option Int :=
 if zBA (usAt l i)=false then some 5 else if 0<i∧sle (usAt l i) (usAt l (i - 1))=true then some 8 else none
def chkT (rs:List Rg) (us:List BA) (ds:List De):Int :=
 if zEd rs≠0 then zEd rs else if us=[] then 9 else if 20<us.length then 2 else
 match (List.range us.length).findSome? (zBs us) with
 | some f=>f
 | none=>if 200<ds.length then 2 else match (List.range ds.length).findSome? (zCy rs us ds) with
  | some f=>f
  | none=>0
end Go.Proofs.YtoaelidmmcbkfaaGreatDoor
namespace Dw
open Go Go.RowKit
def Rd1 {α:Type} (f:α→Value) (w:World) (A:Option Addr) (l:List α):Prop :=
 0<l.length→∃ b o:Nat,A=some ⟨b,o,none⟩∧∀ i (h:i<l.length),w.cell? ⟨b,o+i,none⟩=some (f l[i])
def Rd2 {α:Type} (f g:α→Value) (w:World) (A:Option Addr) (l:List α):Prop :=
 0<l.length→∃ b o:Nat,A=some ⟨b,o,none⟩∧∀ i (h:i<l.length),w.cell? ⟨b,o+i*2,none⟩=some (f l[i])∧w.cell? ⟨b,o+i*2+1,none⟩=some (g l[i])
section
variable {α:Type} {f g:α→Value} {w w':World} {A:Option Addr} {l:List α}
theorem Rd1.nil:Rd1 f w A []:=fun h=>absurd h zd
theorem Rd1.keep (h:Rd1 f w A l) (hk:∀ b o,b<w.heap.size→w'.cell? ⟨b,o,none⟩=w.cell? ⟨b,o,none⟩):Rd1 f w' A l:=fun hl=>by
 obtain ⟨b,o,rfl,hc⟩:=h hl;exact ⟨b,o,rfl,fun i hi=>(hk _ _ (World.block_lt_of_cell? w _ (hc i hi))).trans (hc i hi)⟩
theorem Rd2.keep (h:Rd2 f g w A l) (hk:∀ b o,b<w.heap.size→w'.cell? ⟨b,o,none⟩=w.cell? ⟨b,o,none⟩):Rd2 f g w' A l:=fun hl=>by
 obtain ⟨b,o,rfl,hc⟩:=h hl;exact ⟨b,o,rfl,fun i hi=>⟨(hk _ _ (World.block_lt_of_cell? w _ (hc i hi).1)).trans (hc i hi).1,(hk _ _ (World.block_lt_of_cell? w _ (hc i hi).2)).trans (hc i hi).2⟩⟩
theorem Rd1.below (h:Rd1 f w A l) (hb:Below w.heap.size w w'):Rd1 f w' A l:=h.keep fun _ _ hlt=>hb.cell hlt
theorem Rd2.below (h:Rd2 f g w A l) (hb:Below w.heap.size w w'):Rd2 f g w' A l:=h.keep fun _ _ hlt=>hb.cell hlt
theorem Rd1.alloc (h:Rd1 f w A l) (o:Obj):Rd1 f (w.alloc o) A l:=h.keep fun _ _ hlt=>World.cell?_alloc_lt _ _ _ hlt
theorem Rd1.drew (h:Rd1 f w A l):Rd1 f w.drew A l:=h
theorem Rd2.drew (h:Rd2 f g w A l):Rd2 f g w.drew A l:=h
theorem Rd1.drewN (h:Rd1 f w A l) (n:Nat):Rd1 f (w.drewN n) A l:=h
theorem Rd2.drewN (h:Rd2 f g w A l) (n:Nat):Rd2 f g (w.drewN n) A l:=h
theorem Rd1.at_ (h:Rd1 f w A l) (hl:0<l.length):∃ b o:Nat,A=some ⟨b,o,none⟩∧b<w.heap.size∧∀ i (h:i<l.length),w.cell? ⟨b,o+i,none⟩=some (f l[i]):=by
 obtain ⟨b,o,rfl,hc⟩:=h hl;exact ⟨b,o,rfl,World.block_lt_of_cell? w _ (hc 0 hl),hc⟩
theorem Rd2.at_ (h:Rd2 f g w A l) (hl:0<l.length):∃ b o:Nat,A=some ⟨b,o,none⟩∧b<w.heap.size∧∀ i (h:i<l.length),w.cell? ⟨b,o+i*2,none⟩=some (f l[i])∧w.cell? ⟨b,o+i*2+1,none⟩=some (g l[i]):=by
 obtain ⟨b,o,rfl,hc⟩:=h hl;exact ⟨b,o,rfl,World.block_lt_of_cell? w _ (hc 0 hl).1,hc⟩
end
theorem zAb {a b c:World} (h:Below a.heap.size a b) (k:Below b.heap.size b c):Below a.heap.size a c:=h.trans (k.mono h.size)
theorem zAc {B:Nat} {a w:World} (h:Below B a w) (n:Nat):Below B a (w.drewN n):=⟨h.os,h.tape,h.output,h.size,h.block⟩
theorem Rd1.of_own {α:Type} {f:α→Value} {w:World} {base:Nat} {e:TypeId} {l:List α} {v:Value} (h:w.ownsRow base e 1 v l.length (l.map f)) :
  ∃ A c,v = .slice A l.length c∧Rd1 f w A l:=by
 rcases h.2 with ⟨rfl,hn⟩ | ⟨g,cap,cur,rfl,hb,hg,hnc,hm,hs,htake⟩
 ·exact ⟨none,0,by rw [hn],fun hl=>za⟩
 ·refine ⟨_,_,rfl,fun hl=>⟨g,0,rfl,fun i hi=>?_⟩⟩
  rw [bJ,bQ w g i cur e (0,0) hg];have:(cur.toList.take (l.length*1))[i]?=(l.map f)[i]?:=by rw [htake]
  rw [List.getElem?_take,aE za] at this
  simpa [hi] using this
structure ElemT (P:Program) (t e:TypeId) (z:Value) (size bytes:Nat):Prop where
 ty:P.underlying t=some (.slice e)
 info:(P.info? e).map (fun i=>(i.zero,i.size,i.bytes))=some (some z,size,bytes)
 zs:z.cells.size=size
 pos:0<size
def zAF {α:Type} (enc:α→List Value) (k:Nat) (w:World) (base:Nat) (e:TypeId) (v:Value) (l:List α):Prop :=
 w.ownsRow base e k v l.length (l.flatMap enc)
section
variable {α:Type} {enc:α→List Value} {k:Nat} {w w':World} {base:Nat} {e:TypeId} {v:Value} {l:List α}
theorem zAF.nil (enc:α→List Value) (k:Nat) (w:World) (base:Nat) (e:TypeId):zAF enc k w base e (.slice none 0 0) ([]:List α):=World.ownsRow_nil w base e k
theorem zAF.alloc (h:zAF enc k w base e v l) (o:Obj):zAF enc k (w.alloc o) base e v l:=World.ownsRow.alloc h o
theorem zAF.grown {row:Option Nat} (h:zAF enc k w base e v l) (hg:w.grownBy w' row) (hne:v.ownBlock=none∨v.ownBlock≠row):zAF enc k w' base e v l:=World.ownsRow.kept h hg hne
theorem grownBy_of_below (hb:Below w.heap.size w w') (row:Option Nat):w.grownBy w' row:=⟨hb.os,hb.tape,hb.output,hb.size,fun i hi _=>hb.block i hi⟩
theorem zAF.below (h:zAF enc k w base e v l) (hb:Below w.heap.size w w'):zAF enc k w' base e v l :=
 h.grown (row:=none) (grownBy_of_below hb none) (by cases hv:v.ownBlock<;>simp)
theorem flat1 {f:α→Value} (l:List α):l.flatMap (fun x=>[f x])=l.map f:=by
 induction l with
 | nil=>rfl
 | cons a t ih=>simp [List.flatMap_cons,ih]
theorem zAF.rd1 {f:α→Value} (h:zAF (fun x=>[f x]) 1 w base e v l):∃ A c,v = .slice A l.length c∧Rd1 f w A l:=by
 refine Rd1.of_own (base:=base) (e:=e) ?_
 unfold zAF at h;rw [flat1] at h;exact h
theorem flat2 {f g:α→Value} (l:List α) (i:Nat) (hi:i<l.length):(l.flatMap fun x=>[f x,g x])[i*2]?=some (f l[i])∧(l.flatMap fun x=>[f x,g x])[i*2+1]?=some (g l[i]):=by
 induction l generalizing i with
 | nil=>simp at hi
 | cons a t ih =>
  cases i with
  | zero=>simp [List.flatMap_cons]
  | succ i =>
   have:=ih i jc;rw [bR,show (i+1)*2=i*2+2 from by omega,show i*2+2+1=(i*2+1)+2 from by omega]
   simpa using this
theorem zAF.rd2 {f g:α→Value} (h:zAF (fun x=>[f x,g x]) 2 w base e v l):∃ A c,v = .slice A l.length c∧Rd2 f g w A l:=by
 rcases h.2 with ⟨rfl,hn⟩ | ⟨b,cap,cur,rfl,hb,hg,hnc,hm,hs,htake⟩
 ·exact ⟨none,0,by rw [hn],fun hl=>za⟩
 ·refine ⟨_,_,rfl,fun hl=>⟨b,0,rfl,fun i hi=>?_⟩⟩
  obtain ⟨h0,h1⟩:=flat2 (f:=f) (g:=g) l i hi;rw [←htake,List.getElem?_take,aE za] at h0 h1;rw [bJ,bQ w b _ cur e (0,0) hg,bQ w b _ cur e (0,0) hg];exact ⟨by simpa using h0,by simpa using h1⟩
end
theorem wpList_push {P:Program} {α:Type} {enc:α→List Value} {k:Nat} {ops:Array Oper} {rest:List Oper} {o:Oper} {a:Act} {w:World} {Q:Exit→Act→World→Prop}
  {e:TypeId} {z:Value} {bytes:Nat} (s x:Operand) (t:TypeId) (hT:ElemT P t e z k bytes) (hgd:o.guard=none) (ho:o.op = .call { callee:=.builtin .append,args:=#[s,x],argTypes:=#[t,t] })
  (base:Nat) (v:Value) (l:List α) (hs:a.eval s=v) (hown:zAF enc k w base e v l)
  (g cp:Nat) (y:α) (hx:a.eval x = .slice (some ⟨g,0,none⟩) 1 cp) (hnew:w.heap[g]?=some (.cells (enc y).toArray e (0,0)))
  (hk:(enc y).length=k) (hone:∀ u∈enc y,u.oneCell'=true) (hlen:l.length+1≤maxLen) (hbytes:(l.length+1)*bytes≤140737488355328) (hbase:base≤w.heap.size)
  (h:∀ v' w',zAF enc k w' base e v' (l++[y])→w.grownBy w' v.ownBlock→Below base w w'→wpList P ops Q rest (a.put o.dst v') w'):wpList P ops Q (o::rest) a w:=by
 obtain ⟨i,hi,hz0,hz1,hz2⟩:=info_parts hT.info;refine wpList_append_own _ hgd s x t ho base e i z k bytes hT.ty hi hz0 hz1 hz2 hT.zs hT.pos v l.length (l.flatMap enc) hs hown ⟨g,0,none⟩ 1 cp (enc y) hx (by rw [hk];omega) ?_ hone hlen hbytes hbase ?_
 ·intro j u hj
  have:=World.news_of_block hnew j u xg;exact this
 ·intro v' w' h1 h2 _
  refine h v' w' ?_ h2 ((bS _ _).grown h2 hbase fun j hj=>(bT hown j hj).1)
  unfold zAF
  simpa using h1
end Dw
namespace Go.Proofs.YtoaelidmmcbkfaaGreatDoor
open Go.RowKit Dw
abbrev Rgs:=Rd2 (fun r:Rg=>Value.string r.nm) (fun r:Rg=>Value.string r.par)
abbrev Ars:=Rd2 (fun x:Ar=>Value.string x.rg) (fun x:Ar=>Value.bool x.out)
abbrev Strs:=Rd1 Value.string
def zAr (v:Value) (w:World) (e:Ending) (w':World):Prop:=e = .returned v∧w=w'
theorem zAr.mk {v v':Value} {w w':World} (h:v=v') (hw:w=w'):zAr v' w (.returned v) w':=⟨jf,hw⟩
theorem zAC {a b:Int} (h:a=b):Value.int .i64 a = .int .i64 b:=jf
theorem zAu {a b:Bool} (h:a=b):Value.bool a = .bool b:=jf
def idxI (l:List Rg) (s:BA):Int:=match idx l s with
 | some i=>i
 | none=>-1
def RegionRel (w:World) (l:List Rg) (nm:BA) (m:Nat) (i:Value) (wr:World):Prop :=
 wr=w∧∃ k:Nat,k+m=l.length∧i = .int .i64 k∧∀ j (h:j<l.length),j<k→(l[j]).nm≠nm
theorem zCE (A:Option Addr) (c:Nat) (l:List Rg) (nm:BA) (w:World) (hn:l.length≤200) (h:Rgs w A l) :
  Calls Tryz.prog 81 #[.slice A l.length c,.string nm] w (zAr (.int .i64 (idxI l nm)) w):=by
 go_enter Tryz.func81,Tryz.ntmps81
 go_wp2
 go_loopg [5] l.length (RegionRel w l nm)
 case atStart=>exact ⟨rfl,0,za,rfl,fun j _ hj=>absurd hj za⟩
 case round =>
  obtain ⟨hw,k,hk,rfl,hpre⟩:=hrel;subst hw;have HK:=zq hk;have HP:=zq hpre;have hk1:k≤l.length:=za;clear hk hpre
  by_cases hlt:k<l.length
  ·obtain ⟨b,o,rfl,hb,hc⟩:=h.at_ za
   have hc0:=(hc k hlt).1;clear hc
   by_cases hq:(l[k]).nm=nm
   ·have hqb:=zAy hq
    have HQ:=zq hq;clear hq;go_wp2;go_ret
    refine zAr.mk (zAC ?_) rfl
    unfold idxI;rw [idx_mk hlt HQ.o (fun j hj=>HP.o j za hj)]
   ·have hqb:=zAo hq
    have HQ:=zq hq;clear hq;go_wp2
    go_roundg (gk - 1)
    case measure=>have:=HK.o;omega
    case rel =>
     refine ⟨rfl,k+1,zl,zn,fun j hj hjk=>?_⟩
     rcases bO j k with h1 | h1
     ·exact HP.o j hj h1
     ·obtain rfl:j=k:=by omega
      exact HQ.o
  ·go_wp2
   go_ret
   refine zAr.mk (zAC ?_) rfl
   unfold idxI;rw [idx_mk_none (fun j hj=>HP.o j hj za)]
def leafB (l:List Rg) (nm:BA):Bool:=(idx l nm).isSome&&!l.any fun q=>decide (q.par=nm)
theorem leafB_at {l:List Rg} (g:GoodR l) {i:Nat} (hi:i<l.length):leafB l (l[i]).nm = !zBc l i:=by
 unfold leafB zBc;rw [g.inc.idx hi,zBF hi]
 rfl
def IsLeafRel (w:World) (l:List Rg) (nm:BA) (m:Nat) (i:Value) (wr:World):Prop :=
 wr=w∧∃ k:Nat,k+m=l.length∧i = .int .i64 k∧∀ j (h:j<l.length),j<k→(l[j]).par≠nm
theorem IsLeaf_c (A:Option Addr) (c:Nat) (l:List Rg) (nm:BA) (w:World) (hn:l.length≤200) (h:Rgs w A l) :
  Calls Tryz.prog 163 #[.slice A l.length c,.string nm] w (zAr (.bool (leafB l nm)) w):=by
 cases hix:idx l nm with
 | none =>
  have HX:=zq hix;clear hix;have hi0:idxI l nm = -1:=by unfold idxI;rw [HX.o]
  go_enter Tryz.func163,Tryz.ntmps163
  go_wp2_with (go_at_call 81;refine (zCE _ _ _ _ _ hn h).mono ?_;rintro e w' ⟨rfl,rfl⟩)
  go_ret
  refine zAr.mk (zAu ?_) rfl
  unfold leafB;rw [HX.o];rfl
 | some x =>
  have HX:=zq hix;clear hix;have hi0:idxI l nm=(x:Int):=by unfold idxI;rw [HX.o]
  go_enter Tryz.func163,Tryz.ntmps163
  go_wp2_with (go_at_call 81;refine (zCE _ _ _ _ _ hn h).mono ?_;rintro e w' ⟨rfl,rfl⟩)
  clear hi0
  go_loopg [5] l.length (IsLeafRel w l nm)
  case atStart=>exact ⟨rfl,0,za,rfl,fun j _ hj=>absurd hj za⟩
  case round =>
   obtain ⟨hw,k,hk,rfl,hpre⟩:=hrel;subst hw;have HK:=zq hk;have HP:=zq hpre;have hk1:k≤l.length:=za;clear hk hpre
   by_cases hlt:k<l.length
   ·obtain ⟨b,o,rfl,hb,hc⟩:=h.at_ za
    have hc0:=(hc k hlt).2;clear hc
    by_cases hq:(l[k]).par=nm
    ·have hqb:=zAy hq
     have HQ:=zq hq;clear hq;go_wp2;go_ret
     refine zAr.mk (zAu ?_) rfl
     have:(l.any fun q=>decide (q.par=nm))=true:=List.any_eq_true.2 ⟨l[k],aI hlt,by simp [HQ.o]⟩
     simp [leafB,this]
    ·have hqb:=zAo hq
     have HQ:=zq hq;clear hq;go_wp2
     go_roundg (gk - 1)
     case measure=>have:=HK.o;omega
     case rel =>
      refine ⟨rfl,k+1,zl,zn,fun j hj hjk=>?_⟩
      rcases bO j k with h1 | h1
      ·exact HP.o j hj h1
      ·obtain rfl:j=k:=by omega
       exact HQ.o
   ·go_wp2
    go_ret
    refine zAr.mk (zAu ?_) rfl
    have:(l.any fun q=>decide (q.par=nm))=false:=by
     rw [bU];intro q hm;obtain ⟨j,hj,rfl⟩:=aJ hm
     simpa using HP.o j hj za
    simp [leafB,this,HX.o]
end Go.Proofs.YtoaelidmmcbkfaaGreatDoor
namespace Go.Proofs.YtoaelidmmcbkfaaGreatDoor
theorem zEw (B:Nat):∀ (l:List Nat) (i:Nat) (x:Nat) (h:i<l.length),zAi B (l.set i x)+B ^ i*l[i]=zAi B l+B ^ i*x
 | [],i,x,h=>absurd h zd
 | a::l,0,x,_=>by simp [zAi];omega
 | a::l,i+1,x,h=>by
  have ih:=zEw B l i x qj;have e1:B ^ (i+1)*l[i]'(by simpa using h)=B*(B ^ i*l[i]'(by simpa using h)):=by rw [aR,aT (B ^ i) B,aU]
  have e2:B ^ (i+1)*x=B*(B ^ i*x):=by rw [aR,aT (B ^ i) B,aU]
  rw [bV,zAi,zAi,List.getElem_cons_succ,e1,e2];have h2:=aY (B * ·) ih;simp only [aS] at h2;omega
theorem take_set_succ {α:Type} (l:List α) (k:Nat) (x:α) (h:k<l.length):(l.set k x).take (k+1)=l.take k++[x]:=by
 rw [bD qj,List.take_set_of_le (aB k)];simp
theorem zEk {α:Type} (l:List α) (k:Nat) (x:α) (h:k<l.length):(l.set k x).drop k=x::l.drop (k+1):=by
 rw [aF qj,List.drop_set_of_lt (bW k)];simp
theorem WLt.set {B:Nat} {l:List Nat} (h:WLt B l) {x:Nat} (hx:x<B) (i:Nat):WLt B (l.set i x):=fun y hy=>by
 rcases List.mem_or_eq_of_mem_set hy with h1 | h1
 ·exact h y h1
 ·rw [h1];exact hx
theorem WLt.take {B:Nat} {l:List Nat} (h:WLt B l) (k:Nat):WLt B (l.take k):=fun y hy=>h y (List.mem_of_mem_take hy)
theorem WLt.drop {B:Nat} {l:List Nat} (h:WLt B l) (k:Nat):WLt B (l.drop k):=fun y hy=>h y (bX hy)
theorem WLt.append {B:Nat} {l r:List Nat} (h:WLt B l) (k:WLt B r):WLt B (l++r):=fun y hy=>by
 rcases List.mem_append.1 hy with h1 | h1
 ·exact h y h1
 ·exact k y h1
theorem WLt.get {B:Nat} {l:List Nat} (h:WLt B l) (i:Nat) (hi:i<l.length):l[i]<B:=h _ (aI hi)
theorem WLt.zeros {B:Nat} (hB:0<B) (n:Nat):WLt B (List.replicate n 0):=fun y hy=>by
 rw [List.eq_of_mem_replicate hy];exact hB
theorem wval_zeros (B n:Nat):zAi B (List.replicate n 0)=0:=by
 induction n with
 | zero=>rfl
 | succ n ih=>rw [List.replicate_succ,zAi,ih];simp
theorem zDR {B:Nat} {l:List Nat} {k n:Nat} (h:zAi B (l.drop k)<B ^ n) (hk:k+n≤l.length):zAi B (l.drop (k+n))=0:=by
 have e:=zCP B n (l.drop k) (by rw [bK];omega)
 rw [bY] at e
 rcases bH (zAi B (l.drop (k+n))) with h0 | h0
 ·exact h0
 ·have:B ^ n*1≤B ^ n*zAi B (l.drop (k+n)):=bC _ h0
  omega
theorem shr_col {B i s R T u0 x y r:Nat} (hB:0<B) (hs:0<s) (hd:s∣B) (hx:x<B) (h:s*R+u0=T+B ^ i*(x % s)) (hr:r=(x+B*y) / s % B) :
  s*(R+B ^ i*r)+u0=(T+B ^ i*x)+B ^ (i+1)*(y % s):=by
 obtain ⟨m,rfl⟩:=hd
 have hm:0<m:=by
  rcases bH m with e | e
  ·subst e;simp at hB
  ·exact e
 have e1:(x+s*m*y) / s=x / s+m*y:=by rw [aU,Nat.add_mul_div_left _ _ hs]
 have e2:x / s<m:=(Nat.div_lt_iff_lt_mul hs).2 (by rw [aT];exact hx)
 have e3:m*y=m*(y % s)+s*m*(y / s):=by
  conv=>lhs;rw [←bB y s]
  rw [aS,←aU,aT m s]
 have e4:x / s+m*(y % s)<s*m:=by
  have:m*(y % s)≤m*(s - 1):=bC _ (by have:=bA y hs;omega)
  have h2:m*(s - 1)+m=s*m:=by
   rw [←Nat.mul_succ,aT];congr 1;omega
  omega
 have e5:r=x / s+m*(y % s):=by
  rw [hr,e1,e3,←bZ,Nat.add_mul_mod_self_left,aZ e4]
 have e6:s*r+x % s=x+s*m*(y % s):=by
  rw [e5,aS];have:=bB x s;rw [←aU];omega
 have h7:s*(R+(s*m) ^ i*r)=s*R+(s*m) ^ i*(s*r):=by rw [aS,Nat.mul_left_comm]
 have h8:=aY ((s*m) ^ i * ·) e6;simp only [aS] at h8;have h9:(s*m) ^ (i+1)*(y % s)=(s*m) ^ i*(s*m*(y % s)):=by rw [aR,aU]
 rw [h7,h9];omega
theorem wval_window {B:Nat} {l W:List Nat} {j n:Nat} (hl:j+n≤l.length) (hW:W.length=n) (h0:zAi B (l.drop (j+n))=0) :
  zAi B ((l.take j++W++l.drop (j+n)).drop j)=zAi B W:=by
 have h1:(l.take j).length=j:=by rw [bE];omega
 rw [cC,List.drop_append_of_le_length za,aA za,List.nil_append,zAY,h0];simp
open Go.RowKit Dw
def B32:Nat:=4294967296
theorem zAJ:1<B32:=zc
theorem zCw:0<B32:=zc
theorem zCK:B32=4294967296:=rfl
def u32V:Nat→Value:=fun n=>Value.int .u32 (n:Int)
theorem zCb (n:Nat):u32V n=Value.int .u32 (n:Int):=rfl
abbrev Wds:=Rd1 u32V
structure Nt (w:World) (A:Option Addr) (c n:Nat):Prop where
 rd:Wds w A (zAe B32 n)
 cap:(zAe B32 n).length≤c
abbrev ntV (A:Option Addr) (c n:Nat):Value:=.slice A (zAe B32 n).length c
theorem Nt.below {w w':World} {A:Option Addr} {c n:Nat} (h:Nt w A c n) (hb:Below w.heap.size w w'):Nt w' A c n:=⟨h.rd.below hb,h.cap⟩
theorem Nt.drewN {w:World} {A:Option Addr} {c n:Nat} (h:Nt w A c n) (k:Nat):Nt (w.drewN k) A c n:=⟨h.rd.drewN k,h.cap⟩
def GivesN (n:Nat) (w:World) (e:Ending) (w':World):Prop:=∃ A c,e = .returned (ntV A c n)∧Nt w' A c n∧Below w.heap.size w w'
def zBx (v:Value) (w:World) (e:Ending) (w':World):Prop:=e = .returned v∧∃ n,w'=w.drewN n
theorem zBx.mk {v v':Value} {w w':World} (h:v=v') (hw:∃ n,w'=w.drewN n):zBx v' w (.returned v) w':=⟨jf,hw⟩
def zCj (w:World) (g:Nat) (L:List Nat):Prop:=w.heap[g]?=some (.cells (L.map u32V).toArray 213 (0,0))
section
variable {w w':World} {g:Nat} {L:List Nat}
theorem zCj.lt (h:zCj w g L):g<w.heap.size:=(Array.getElem?_eq_some_iff.1 h).1
theorem zCj.cell (h:zCj w g L) (i:Nat) (hi:i<L.length):w.cell? ⟨g,i,none⟩=some (.int .u32 ((L[i]:Nat):Int)):=by
 rw [bQ w g i _ _ _ h];simp [hi,u32V]
theorem zCj.frozen (h:zCj w g L) (i:Nat):w.frozen? ⟨g,i,none⟩=false:=cD w g i _ _ h
theorem zCj.set (h:zCj w g L) (i x:Nat):zCj (w.setCell ⟨g,i,none⟩ (.int .u32 (x:Int))) g (L.set i x):=by
 have h1:(w.setCell ⟨g,i,none⟩ (.int .u32 (x:Int))).heap[g]?=some (.cells ((L.map u32V).toArray.setIfInBounds i (.int .u32 (x:Int))) 213 (0,0)):=by
  unfold zCj at h;simp [World.setCell,Array.getElem?_modify,h]
 unfold zCj;rw [h1,cF,List.map_set]
 rfl
theorem zCj.rd (h:zCj w g L) (k:Nat):Wds w (some ⟨g,0,none⟩) (L.take k):=fun _=>⟨g,0,rfl,fun i hi=>by
 have hi':i<L.length:=by rw [bE] at hi;omega
 rw [bJ,h.cell i hi',cG];rfl⟩
theorem zCj.below (h:zCj w g L) (hb:Below w.heap.size w w'):zCj w' g L:=(hb.block g h.lt).trans h
theorem zCj.far (h:zCj w g L) {p:Addr} (hp:g≠p.block) (u:Value):zCj (w.setCell p u) g L:=(cH w p u g hp).trans h
theorem zCj.new (w:World) (n:Nat):zCj (w.alloc (.cells (Array.replicate n (.int .u32 0)) 213)) w.heap.size (List.replicate n 0):=by
 unfold zCj;rw [cI]
 congr 2
 apply Array.toList_inj.1
 simp [u32V]
end
theorem run_makeN1 {P:Program} (t e:TypeId) {z:Value} {bytes:Nat} (hT:ElemT P t e z 1 bytes) (n:Nat) (hb:bytes*n≤281474976710656) (h63:n≤9223372036854775807) (hz:z.cells=#[z]) (w:World) :
  (Instr.makeSlice t (.int .i64 (n:Int)) (.int .i64 (n:Int))).run P w = .ok (.slice (some ⟨w.heap.size,0,none⟩) n n) (w.alloc (.cells (Array.replicate n z) e)):=by
 obtain ⟨i,hi,hz0,hz1,hz2⟩:=info_parts hT.info
 have hb':(i.bytes:Int)*(n:Int)≤281474976710656:=by
  rw [hz2];have h:((bytes*n:Nat):Int)≤281474976710656:=za
  rwa [cJ] at h
 have hr:=run_make (P:=P) w t e i z hT.ty hi hz0 .i64 .i64 n n za za hb' za;simp only [Int.toNat_natCast] at hr;rw [hz1,hz,bP] at hr
 have e1:madeCells #[z] n=Array.replicate n z:=by
  apply Array.toList_inj.1
  rw [toList_madeCells_one,Array.toList_replicate]
 rw [e1] at hr;exact hr
theorem elNat:ElemT Tryz.prog 154 213 (.int .u32 0) 1 4:=⟨Tryz.underlying154,zb,rfl,zc⟩
theorem mk_nat (n:Nat) (h:n≤1000000000) (w:World):(Instr.makeSlice 154 (.int .i64 (n:Int)) (.int .i64 (n:Int))).run Tryz.prog w = .ok (.slice (some ⟨w.heap.size,0,none⟩) n n) (w.alloc (.cells (Array.replicate n (.int .u32 0)) 213)) :=
 run_makeN1 _ _ elNat n za za rfl w
def TrimRel (w:World) (A:Option Addr) (c:Nat) (L:List Nat) (m:Nat) (a:Value) (wr:World):Prop :=
 wr=w∧∃ k:Nat,k=m∧k≤L.length∧a = .slice A k c∧zBI (L.take k)=zBI L
theorem trim_c (A:Option Addr) (c:Nat) (L:List Nat) (w:World) (hn:L.length≤1000000000) (hc:L.length≤c) (h:Wds w A L) :
  Calls Tryz.prog 205 #[.slice A L.length c] w (zAr (.slice A (zBI L).length c) w):=by
 go_enter Tryz.func205,Tryz.ntmps205
 go_wp2
 go_loopg [0] L.length (TrimRel w A c L)
 case atStart=>exact ⟨rfl,L.length,rfl,aB _,rfl,by rw [bM]⟩
 case round =>
  obtain ⟨hw,k,hm,hk,rfl,ht⟩:=hrel;subst hw;have HM:=zq hm;have HT:=zq ht;clear hm ht
  rcases bH k with h0 | h0
  ·subst h0
   go_wp2;go_ret
   refine zAr.mk ?_ rfl
   rw [←HT.o];rfl
  ·obtain ⟨j,rfl⟩:∃ j,k=j+1:=⟨k - 1,za⟩
   obtain ⟨b,o,rfl,hb,hcl⟩:=h.at_ za;have hj:j<L.length:=za;have hc0:=hcl j hj;rw [zCb] at hc0;clear hcl
   by_cases hz:L[j]=0
   ·have HZ:=zq hz
    rw [hz] at hc0;clear hz;go_wp2
    go_roundg (gk - 1)
    case measure=>have:=HM.o;omega
    case rel=>exact ⟨rfl,j,yp,za,zd,by rw [←HT.o,wtrim_take_zero hj HZ.o]⟩
   ·have hzb:(((L[j]:Nat):Int) == 0)=false:=by simpa using hz
    have HZ:=zq hz;clear hz;go_wp2;go_ret
    refine zAr.mk ?_ rfl
    have e:=HT.o;rw [zEv hj HZ.o] at e;have e2:=aY List.length e;rw [bE,bF hk] at e2;rw [←e2]
    rfl
theorem trim_n (A:Option Addr) (c:Nat) (L:List Nat) (w w0:World) (hn:L.length≤1000000000) (hc:L.length≤c) (h:Wds w A L) (hl:WLt B32 L) (hb:Below w0.heap.size w0 w) {n:Nat} (hv:zAi B32 L=n) :
  Calls Tryz.prog 205 #[.slice A L.length c] w (GivesN n w0):=by
 have e:zBI L=zAe B32 n:=by rw [zCt zAJ hl,hv]
 refine (trim_c A c L w hn hc h).mono ?_
 rintro _ _ ⟨rfl,rfl⟩;refine ⟨A,c,by rw [e],⟨?_,?_⟩,hb⟩
 ·rw [←e]
  intro hp;obtain ⟨b,o,rfl,hlt,hcl⟩:=h.at_ (by have:=zDA L;omega)
  refine ⟨b,o,rfl,fun i hi=>?_⟩
  have hi':i<L.length:=by have:=zDA L;omega
  rw [hcl i hi']
  have:(zBI L)[i]=L[i]:=by
   have h1:=zDM L;rw [cM h1 hi,cG]
  rw [this]
 ·rw [←e];have:=zDA L;omega
theorem or_u64n (x y:Nat) (hx:x<4294967296):y*4294967296 ||| x=x+4294967296*y:=by
 have:=Nat.two_pow_add_eq_or_of_lt (i:=32) (b:=x) za y;rw [aT y,show (4294967296:Nat)=2 ^ 32 from rfl,←this,Nat.add_comm]
theorem or_u64 (x y:Nat) (hx:x<4294967296) (hy:y<4294967296):bits .or .u64 (x:Int) ((y:Int)*4294967296)=(x:Int)+4294967296*(y:Int):=by
 have e:(y:Int)*4294967296=((y*4294967296:Nat):Int):=by rw [cJ];rfl
 rw [e,u64_or_nat x (y*4294967296) za za,Nat.or_comm,or_u64n x y hx];omega
theorem or_u64' (x y:Nat) (hx:x<4294967296) (hy:y<4294967296):bits .or .u64 ((y:Int)*4294967296) (x:Int)=(x:Int)+4294967296*(y:Int):=by
 have e:(y:Int)*4294967296=((y*4294967296:Nat):Int):=by rw [cJ];rfl
 rw [e,u64_or_nat (y*4294967296) x za za,or_u64n x y hx];omega
theorem small_l (A:Option Addr) (c:Nat) (L:List Nat) (w:World) (h:Wds w A L) (hl:WLt B32 L) (hn:L.length≤1000000000) :
  Calls Tryz.prog 203 #[.slice A L.length c] w (zBx (.tuple #[.int .u64 (if L.length≤2 then ((zAi B32 L:Nat):Int) else 0),.bool (decide (L.length≤2))]) w):=by
 match L,h,hl,hn with
 | [],_,_,_ =>
  go_enter Tryz.func203,Tryz.ntmps203
  go_wp2;go_ret2
  exact zBx.mk rfl ⟨0,rfl⟩
 | [x],h,hl,_ =>
  obtain ⟨b,o,rfl,hb,hcl⟩:=h.at_ zd;have hx:=hl.head;rw [zCK] at hx;have hc0:=hcl 0 zd;rw [zCb] at hc0;simp only [cN,cO] at hc0;clear hcl
  go_enter Tryz.func203,Tryz.ntmps203
  go_wp2;go_ret2
  exact zBx.mk vh ⟨0,rfl⟩
 | [x,y],h,hl,_ =>
  obtain ⟨b,o,rfl,hb,hcl⟩:=h.at_ zd;have hx:=hl.head;have hy:=hl.tail.head;rw [zCK] at hx hy;have hc0:=hcl 0 zd;have hc1:=hcl 1 zd;rw [zCb] at hc0 hc1;simp only [cN,List.getElem_cons_succ,cO] at hc0 hc1;clear hcl
  go_enter Tryz.func203,Tryz.ntmps203
  go_wp2
  go_quiet (fail)
  go_wp2;go_ret2
  refine zBx.mk ?_ ⟨_,rfl⟩
  simp only [zAi];simp [or_u64 x y hx hy,zCK]
 | x::y::z::l,h,hl,hn =>
  have hk:(x::y::z::l).length=l.length+3:=rfl;have e0:¬ l.length+3≤2:=za;rw [hk] at hn ⊢;clear hk
  go_enter Tryz.func203,Tryz.ntmps203
  go_wp2;go_ret2
  exact zBx.mk rfl ⟨0,rfl⟩
def smV (n:Nat):Value:=.tuple #[.int .u64 (if (zAe B32 n).length≤2 then (n:Int) else 0),.bool (decide ((zAe B32 n).length≤2))]
theorem small_c (A:Option Addr) (c n:Nat) (w:World) (h:Nt w A c n) (hn:(zAe B32 n).length≤1000000000):Calls Tryz.prog 203 #[ntV A c n] w (zBx (smV n) w):=by
 have:=small_l A c (zAe B32 n) w h.rd (zBb zAJ n) hn;rw [zAw zAJ] at this;exact this
theorem wval2 (n:Nat) (h:n<18446744073709551616):zAi B32 [n % 4294967296,n / 4294967296]=n∧WLt B32 [n % 4294967296,n / 4294967296]:=by
 refine ⟨?_,WLt.cons ?_ (WLt.cons ?_ WLt.nil)⟩
 ·simp [zAi,zCK];omega
 ·rw [zCK];omega
 ·rw [zCK];omega
theorem wds_new (w:World) (cs:Array Value) (L:List Nat) (h:cs.toList=L.map u32V):Wds (w.alloc (.cells cs 213)) (some ⟨w.heap.size,0,none⟩) L:=by
 intro _;refine ⟨w.heap.size,0,rfl,fun i hi=>?_⟩
 rw [bQ _ _ _ _ _ _ (cI w _),←Array.getElem?_toList,h];simp [hi]
theorem trim2 (n:Nat) (w:World) (h:n<18446744073709551616):Calls Tryz.prog 205 #[.slice (some ⟨w.heap.size,0,none⟩) 2 2]
  (w.alloc (.cells #[.int .u32 ((n:Int) % 4294967296),.int .u32 ((n:Int) / 4294967296)] 213)) (GivesN n w) :=
 trim_n _ 2 [n % 4294967296,n / 4294967296] _ w zd zd (wds_new w _ _ (by simp [u32V])) (wval2 n h).2 ((bS _ _).alloc (aB _) _) (wval2 n h).1
theorem natOf_c (n:Nat) (w:World) (h:n<18446744073709551616):Calls Tryz.prog 184 #[.int .u64 (n:Int)] w (GivesN n w):=by
 go_enter Tryz.func184,Tryz.ntmps184
 go_wp2_with fail
 with_reducible refine (trim2 n w h).mono ?_
 rintro e w' ⟨A,c,rfl,hn,hb⟩;go_wp2;go_ret
 exact ⟨A,c,rfl,hn,hb⟩
theorem one_words:zAe B32 1=[1]:=qx
theorem Nt.one (w:World):Nt (w.alloc (.cells #[.int .u32 1] 213)) (some ⟨w.heap.size,0,none⟩) 1 1 :=
 ⟨by rw [one_words];exact wds_new w _ _ rfl,by rw [one_words];decide⟩
theorem One_c (w:World):Calls Tryz.prog 150 #[] w (GivesN 1 w):=by
 go_enter Tryz.func150,Tryz.ntmps150
 go_wp2;go_ret
 exact ⟨_,1,by unfold ntV;rw [one_words];rfl,Nt.one w,(bS _ _).alloc (aB _) _⟩
def CmpRel (w:World) (l r:List Nat) (m:Nat) (i:Value) (wr:World):Prop :=
 (∃ n,wr=w.drewN n)∧m≤l.length∧(∃ z:Int,z=(m:Int) - 1∧i = .int .i64 z)∧l.drop m=r.drop m
theorem Cmp_l (A A2:Option Addr) (c c2:Nat) (l r:List Nat) (w:World) (h:Wds w A l) (h2:Wds w A2 r) (hl:WLt B32 l) (hr:WLt B32 r) (hn:l.length≤1000000000) (he:l.length=r.length) :
  Calls Tryz.prog 182 #[.slice A l.length c,.slice A2 l.length c2] w (zBx (.int .i64 (zDD (zAi B32 l) (zAi B32 r))) w):=by
 have HE:=zq he;clear he
 go_enter Tryz.func182,Tryz.ntmps182
 go_wp2
 go_loopg [5] l.length (CmpRel w l r)
 case atStart=>exact ⟨⟨0,rfl⟩,aB _,⟨_,rfl,rfl⟩,by rw [aA (aB _),aA (by rw [HE.o];omega)]⟩
 case round =>
  obtain ⟨⟨nd,hw⟩,hk,⟨z,hz,rfl⟩,hd⟩:=hrel;subst hw;have HD:=zq hd;clear hd
  rcases bH gk with h0 | h0
  ·subst h0
   obtain rfl:z = -1:=hz;go_wp2;go_ret
   refine zBx.mk ?_ ⟨_,rfl⟩
   have e:l=r:=by simpa using HD.o
   rw [e,zDa rfl]
   rfl
  ·obtain ⟨j,rfl⟩:∃ j,gk=j+1:=⟨gk - 1,za⟩
   obtain rfl:z=(j:Int):=za;clear hz;have hjr:j<r.length:=by have:=HE.o;omega
   obtain ⟨b,o,rfl,hb,hcl⟩:=h.at_ za;obtain ⟨b2,o2,rfl,hb2,hcl2⟩:=h2.at_ za;have hc0:=hcl j za;have hc1:=hcl2 j hjr;rw [zCb] at hc0 hc1;clear hcl hcl2;have hx:l[j]<B32:=hl.get j za;have hy:r[j]<B32:=hr.get j hjr
   by_cases hq:l[j]=r[j]
   ·have hqb:(((l[j]:Nat):Int) != ((r[j]:Nat):Int))=false:=by simp [hq]
    have HQ:=zq hq;clear hq;go_wp2
    go_quiet (fail)
    go_wp2
    go_roundg j
    case measure=>omega
    case rel =>
     refine ⟨⟨_,rfl⟩,za,⟨_,rfl,rfl⟩,?_⟩
     rw [aF za,aF hjr,HQ.o,HD.o]
   ·have hqb:(((l[j]:Nat):Int) != ((r[j]:Nat):Int))=true:=by simp;omega
    by_cases hlt:l[j]<r[j]
    ·have hltb:decide (l[j]<r[j])=true:=cP hlt
     have HQ:=zq hlt;clear hq hlt;go_wp2
     go_quiet (fail)
     go_wp2
     go_quiet (fail)
     go_wp2;go_ret
     refine zBx.mk ?_ ve
     rw [zBU (wval_lt_of hl HE.o za hjr HD.o HQ.o)]
     rfl
    ·have hltb:decide (l[j]<r[j])=false:=cQ hlt
     have HQ:=zq (show r[j]<l[j] by omega)
     clear hq hlt;go_wp2
     go_quiet (fail)
     go_wp2
     go_quiet (fail)
     go_wp2;go_ret
     refine zBx.mk ?_ ve
     rw [zBT (wval_lt_of hr HE.o.symm hjr za HD.o.symm HQ.o)]
     rfl
theorem Cmp_len (A A2:Option Addr) (c c2 n m:Nat) (w:World) (hne:n≠m) :
  Calls Tryz.prog 182 #[.slice A n c,.slice A2 m c2] w (zBx (.int .i64 (zDD n m)) w):=by
 have hnb:((n:Int) != (m:Int))=true:=zg
 rcases bO n m with hlt | hge
 ·have hltb:decide (n<m)=true:=cP hlt
  have hv:zDD n m = -1:=zBU hlt;rw [hv];have HV:=zq hv;clear hv
  go_enter Tryz.func182,Tryz.ntmps182
  go_wp2;go_ret
  exact zBx.mk rfl ⟨0,rfl⟩
 ·have hltb:decide (n<m)=false:=cQ za
  have hv:zDD n m=1:=zBT za;rw [hv];have HV:=zq hv;clear hv
  go_enter Tryz.func182,Tryz.ntmps182
  go_wp2;go_ret
  exact zBx.mk rfl ⟨0,rfl⟩
theorem Cmp_c (A A2:Option Addr) (c c2 a b:Nat) (w:World) (h:Nt w A c a) (h2:Nt w A2 c2 b) (hn:(zAe B32 a).length≤1000000000) :
  Calls Tryz.prog 182 #[ntV A c a,ntV A2 c2 b] w (zBx (.int .i64 (zDD a b)) w):=by
 by_cases he:(zAe B32 a).length=(zAe B32 b).length
 ·have:=Cmp_l A A2 c c2 (zAe B32 a) (zAe B32 b) w h.rd h2.rd (zBb zAJ a) (zBb zAJ b) hn he
  rw [zAw zAJ,zAw zAJ] at this;unfold ntV;rw [←he];exact this
 ·have:=Cmp_len A A2 c c2 _ _ w he
  have e:zDD (zAe B32 a).length (zAe B32 b).length=zDD a b:=by
   rcases bO (zAe B32 a).length (zAe B32 b).length with h1 | h1
   ·rw [zBU h1,zBU (lt_of_len zAJ h1)]
   ·rw [zBT za,zBT (lt_of_len zAJ za)]
  rw [e] at this;exact this
end Go.Proofs.YtoaelidmmcbkfaaGreatDoor
