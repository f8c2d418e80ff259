/- Parts of the proof, joined: Plain facts about regions, areas and chains of parents: no program in . -/
import Derived.Test.YtieoifkdobcpiaaGreatDoorSm00
import GoSem.Op.String
import Derived.WalkKit
import Derived.Lib.Hide
import Derived.Deep.LoopGhost
import Derived.WalkLawsBesides
import Derived.WalkSpells
import Derived.Deep.AppendLies
import Derived.Maps.AppendAt
import Derived.Deep.QuietTactic
import Derived.BigQuiet
import Derived.Test.YtieoifkdobcpiaaGreatDoorProg
set_option maxRecDepth 100000
set_option maxHeartbeats 8000000
namespace Dw
def sle (a b:BA):Bool:=Go.Op.bytesLess a.toList b.toList || a.toList == b.toList
def slt (a b:BA):Bool:=Go.Op.bytesLess a.toList b.toList
theorem zCC:∀ (x y:List UInt8),Go.Op.bytesLess x y=decide (x<y)
 | [],[]=>by simp [Go.Op.bytesLess]
 | _::_,[]=>by simp [Go.Op.bytesLess]
 | [],_::_=>by simp [Go.Op.bytesLess]
 | a::x,b::y=>by
  rw [Go.Op.bytesLess,zCC x y,Bool.eq_iff_iff];simp [List.cons_lt_cons_iff]
theorem loop_eq (bs:BA):∀ (n i:Nat) (r:List UInt8),bs.size - i=n→i≤bs.size →
  ByteArray.toList.loop bs i r=r.reverse++bs.data.toList.drop i:=by
 have hlen:bs.data.toList.length=bs.size:=by cases bs;rfl
 intro n
 induction n with
 | zero =>
  intro i r h hi;have e:i=bs.size:=za;subst e;have hd:bs.data.toList.drop bs.size=[]:=aA (by rw [hlen];exact aB _)
  rw [ByteArray.toList.loop,aC (Nat.lt_irrefl _),hd,aD]
 | succ n ih =>
  intro i r h hi;have hlt:i<bs.size:=za;rw [ByteArray.toList.loop,aE hlt,ih (i+1) _ za za];have hl:i<bs.data.toList.length:=by rw [hlen];exact hlt
  rw [aF hl]
  have hg:bs.get! i=bs.data.toList[i]:=by
   cases bs with
   | mk d =>
    have hd:i<d.size:=hlt;simp [ByteArray.get!,hd]
  simp [hg]
theorem toList_eq (bs:BA):bs.toList=bs.data.toList:=by
 unfold ByteArray.toList;rw [loop_eq bs bs.size 0 [] za za];simp
theorem toList_inj {a b:BA} (h:a.toList=b.toList):a=b:=by
 rw [toList_eq,toList_eq] at h;exact ByteArray.ext (Array.toList_inj.1 h)
theorem str_eq {a b:BA} (h:(a.toList == b.toList)=true):a=b:=toList_inj zn
theorem zAn {a b:BA} (h:a=b):(a.toList == b.toList)=true:=jl
theorem zAm {a b:BA} (h:a≠b):(a.toList == b.toList)=false:=by
 rw [aG];exact fun e=>h (toList_inj e)
def emp:BA:=⟨#[]⟩
theorem emp_toList:emp.toList=[]:=by rw [toList_eq];rfl
theorem emp_isEmpty:emp.toList.isEmpty=true:=by rw [emp_toList];rfl
theorem zAo {s:BA} (h:s≠emp):s.toList.isEmpty=false:=by
 cases hs:s.toList with
 | nil=>exact absurd (toList_inj (hs.trans emp_toList.symm)) h
 | cons a l=>rfl
theorem zAr {s:BA} (h:s=emp):s.toList.isEmpty=true:=by rw [h];exact emp_isEmpty
theorem slt_irrefl (a:BA):slt a a=false:=by
 unfold slt;rw [zCC];simp [List.lt_irrefl]
theorem zEb {a b c:BA} (h:slt a b=true) (k:slt b c=true):slt a c=true:=by
 unfold slt at *;rw [zCC] at *;simp only [aH] at *;exact List.lt_trans h k
theorem zBJ {a b:BA} (h:sle a b=false):slt b a=true:=by
 unfold sle at h;unfold slt;rw [zCC] at *;simp only [aI,decide_eq_false_iff_not,aG] at h;simp only [aH];obtain ⟨h1,h2⟩:=h;rw [List.not_lt] at h1;refine Decidable.byContradiction fun h3=>h2 ?_
 rw [List.not_lt] at h3;exact List.le_antisymm h3 h1
theorem zDd {a b:BA} (h:slt a b=true):a≠b:=by
 rintro rfl;rw [slt_irrefl] at h;cases h
def zDt (l:List BA) (s:BA):Bool:=l.any fun x=>decide (x=s)
theorem zCd {l:List BA} {s:BA}:zDt l s=true↔s∈l:=by
 unfold zDt;simp
theorem memS_false {l:List BA} {s:BA}:zDt l s=false↔s∉l:=by
 rw [←zCd];simp
structure Rg where
 nm:BA
 par:BA
structure Ar where
 rg:BA
 out:Bool
instance:Inhabited Rg:=⟨⟨emp,emp⟩⟩
instance:Inhabited Ar:=⟨⟨emp,false⟩⟩
def idx (l:List Rg) (s:BA):Option Nat:=l.findIdx? fun r=>decide (r.nm=s)
theorem zEj {l:List Rg} {s:BA} {i:Nat} (h:idx l s=some i):∃ hi:i<l.length,(l[i]).nm=s:=by
 obtain ⟨hi,hp,_⟩:=List.findIdx?_eq_some_iff_getElem.1 h;exact ⟨hi,by simpa using hp⟩
theorem idx_none {l:List Rg} {s:BA} (h:idx l s=none) {i:Nat} (hi:i<l.length):(l[i]).nm≠s:=by
 have:=List.findIdx?_eq_none_iff.1 h l[i] (aJ hi)
 simpa using this
theorem idx_mk {l:List Rg} {s:BA} {i:Nat} (hi:i<l.length) (h:(l[i]).nm=s) (hmin:∀ j (hj:j<i),(l[j]).nm≠s):idx l s=some i :=
 List.findIdx?_eq_some_iff_getElem.2 ⟨hi,zn,fun j hj=>by simpa using hmin j hj⟩
theorem idx_mk_none {l:List Rg} {s:BA} (h:∀ j (hj:j<l.length),(l[j]).nm≠s):idx l s=none:=by
 refine List.findIdx?_eq_none_iff.2 fun x hx=>?_
 obtain ⟨j,hj,rfl⟩:=aK hx
 simpa using h j hj
def Inc (l:List Rg):Prop:=∀ i (h:i+1<l.length),slt (l[i]).nm (l[i+1]).nm=true
theorem Inc.lt {l:List Rg} (h:Inc l):∀ (d i:Nat) (hj:i+d+1<l.length),slt (l[i]).nm (l[i+d+1]).nm=true
 | 0,i,hj=>h i hj
 | d+1,i,hj=>zEb (h.lt d i za) (h (i+d+1) za)
theorem Inc.inj {l:List Rg} (h:Inc l) {i j:Nat} (hi:i<l.length) (hj:j<l.length) (e:(l[i]).nm=(l[j]).nm):i=j:=by
 rcases Nat.lt_trichotomy i j with h1 | h1 | h1
 ·obtain ⟨d,rfl⟩:∃ d,j=i+d+1:=⟨j - i - 1,za⟩
  exact absurd e (zDd (h.lt d i hj))
 ·exact h1
 ·obtain ⟨d,rfl⟩:∃ d,i=j+d+1:=⟨i - j - 1,za⟩
  exact absurd e.symm (zDd (h.lt d j hi))
theorem Inc.idx {l:List Rg} (h:Inc l) {i:Nat} (hi:i<l.length):idx l (l[i]).nm=some i :=
 idx_mk hi rfl fun j hj e=>absurd (h.inj za hi e) za
def up (l:List Rg) (i:Nat):Option Nat :=
 match l[i]? with
 | some r=>if r.par=emp then none else idx l r.par
 | none=>none
def upN (l:List Rg):Nat→Nat→Option Nat
 | 0,i=>some i
 | n+1,i=>match up l i with
  | some j=>upN l n j
  | none=>none
theorem up_lt {l:List Rg} {i j:Nat} (h:up l i=some j):i<l.length∧j<l.length:=by
 unfold up at h
 split at h
 ·rename_i r hr
  split at h
  ·cases h
  ·obtain ⟨hj,_⟩:=zEj h
   exact ⟨(List.getElem?_eq_some_iff.1 hr).1,hj⟩
 ·cases h
theorem up_of {l:List Rg} {i:Nat} (hi:i<l.length):up l i=if (l[i]).par=emp then none else idx l (l[i]).par:=by
 unfold up;rw [List.getElem?_eq_getElem hi]
theorem zEn (l:List Rg):∀ (a b i:Nat),upN l (a+b) i=(upN l a i).bind (upN l b)
 | 0,b,i=>by simp [upN]
 | a+1,b,i=>by
  rw [show a+1+b=(a+b)+1 from by omega,upN,upN]
  cases up l i with
  | none=>rfl
  | some j=>exact zEn l a b j
theorem upN_lt {l:List Rg}:∀ {n i j:Nat},i<l.length→upN l n i=some j→j<l.length
 | 0,i,j,hi,h=>by simp [upN] at h;omega
 | n+1,i,j,hi,h=>by
  rw [upN] at h
  split at h
  ·rename_i k hk;exact upN_lt (up_lt hk).2 h
  ·cases h
theorem zBP {l:List Rg} {n m i:Nat} (h:upN l n i=none) (hm:n≤m):upN l m i=none:=by
 obtain ⟨d,rfl⟩:∃ d,m=n+d:=⟨m - n,za⟩;rw [zEn,h];rfl
theorem upN_some_of {l:List Rg} {n m i j:Nat} (h:upN l m i=some j) (hm:n≤m):∃ k,upN l n i=some k:=by
 cases hk:upN l n i with
 | some k=>exact ⟨k,rfl⟩
 | none=>rw [zBP hk hm] at h;cases h
def EndsR (l:List Rg):Prop:=∀ i,i<l.length→upN l (l.length+2) i=none
theorem zDN {l:List Rg} {m i:Nat} (h:upN l m i=some i):∀ k,upN l (m*k) i=some i
 | 0=>by simp [upN]
 | k+1=>by rw [Nat.mul_succ,zEn,zDN h k];exact h
theorem twice_of_long {l:List Rg} {i:Nat} (hi:i<l.length) (h:upN l l.length i≠none) :
  ∃ j m,j<l.length∧0<m∧m≤l.length∧upN l m j=some j:=by
 refine aL fun hno=>?_
 have hall:∀ n,n≤l.length→∃ k,upN l n i=some k:=fun n hn=>by
  cases hk:upN l l.length i with
  | none=>exact absurd hk h
  | some k=>exact upN_some_of hk hn
 have hnd:((List.range (l.length+1)).map fun n=>(upN l n i).getD 0).Nodup:=by
  rw [List.nodup_iff_pairwise_ne,List.pairwise_iff_getElem];intro a b ha hb hab;simp only [aM,List.length_range] at ha hb;simp only [aN,List.getElem_range];obtain ⟨x,hx⟩:=hall a za;obtain ⟨y,hy⟩:=hall b za;rw [hx,hy];intro e;simp only [aO] at e;subst e;refine hno ⟨x,b - a,upN_lt hi hx,za,za,?_⟩
  have h2:upN l (a+(b - a)) i=some x:=by rw [show a+(b - a)=b from by omega];exact hy
  rw [zEn,hx] at h2;exact h2
 have hsub:((List.range (l.length+1)).map fun n=>(upN l n i).getD 0) ⊆ List.range l.length:=by
  intro x hx;obtain ⟨n,hn,rfl⟩:=List.mem_map.1 hx;rw [List.mem_range] at hn;obtain ⟨k,hk⟩:=hall n za;rw [hk]
  simpa using upN_lt hi hk
 have:=hnd.length_le_of_subset hsub;simp at this
 omega
theorem not_ends_iff {l:List Rg}:¬ EndsR l↔∃ j m,j<l.length∧0<m∧m≤l.length∧upN l m j=some j:=by
 constructor
 ·intro h
  unfold EndsR at h
  have:∃ i,i<l.length∧upN l (l.length+2) i≠none:=by
   refine aL fun hn=>h fun i hi=>?_
   exact aL fun h2=>hn ⟨i,hi,h2⟩
  obtain ⟨i,hi,h2⟩:=this;refine twice_of_long hi fun h3=>h2 (zBP h3 za)
 ·rintro ⟨j,m,hj,hm,hml,h⟩ hE
  have h1:=hE j hj;have h2:=zDN h (l.length+2)
  have:upN l (m*(l.length+2)) j=none:=zBP h1 (by
   calc l.length+2=1*(l.length+2):=by omega
    _≤m*(l.length+2):=aP _ hm)
  rw [this] at h2;cases h2
theorem zAU {α:Type} {n k:Nat} {f:Nat→Option α} {x:α} (hk:k<n) (hpre:∀ j,j<k→f j=none) (h:f k=some x) :
  (List.range n).findSome? f=some x:=by
 obtain ⟨d,rfl⟩:∃ d,n=k+(d+1):=⟨n - k - 1,za⟩;rw [List.range_add,List.findSome?_append,List.findSome?_eq_none_iff.2 (fun j hj=>hpre j (List.mem_range.1 hj)),List.range_succ_eq_map]
 simp [h]
theorem zBf {α:Type} {n:Nat} {f:Nat→Option α} (h:∀ j,j<n→f j=none):(List.range n).findSome? f=none :=
 List.findSome?_eq_none_iff.2 fun j hj=>h j (List.mem_range.1 hj)
def okB (c:UInt8):Bool:=(decide (97≤c.toNat)&&decide (c.toNat≤122)) || (decide (48≤c.toNat)&&decide (c.toNat≤57)) || decide (c.toNat=45)
def zBe (s:BA):Bool:=decide (1≤s.size)&&decide (s.size≤40)&&decide (97≤(s.data.toList.headD 0).toNat)&&decide ((s.data.toList.headD 0).toNat≤122)&&s.data.toList.all okB
theorem isNm_ne {s:BA} (h:zBe s=true):s≠emp:=by
 rintro rfl
 revert h
 decide
def nmAt (l:List Rg) (i:Nat):BA:=(l.getD i default).nm
theorem zBl {l:List Rg} {i:Nat} (h:i<l.length):nmAt l i=(l[i]).nm:=by simp [nmAt,List.getD,h]
def zBa (l:List Rg) (i:Nat):Option Int :=
 if zBe (nmAt l i)=false then some 5 else if 0<i∧sle (nmAt l i) (nmAt l (i - 1))=true then some 8 else none
def zBS (l:List Rg) (r:Rg):Bool:=decide (r.par≠emp)&&(idx l r.par).isNone
instance (l:List Rg):Decidable (EndsR l):=inferInstanceAs (Decidable (∀ i,i<l.length→upN l (l.length+2) i=none))
def zDU (l:List Rg):Int :=
 if l=[] then 9 else if 200<l.length then 2 else
 match (List.range l.length).findSome? (zBa l) with
 | some f=>f
 | none=>if l.any (zBS l)=true then 5 else if EndsR l then 0 else 14
structure GoodR (l:List Rg):Prop where
 ne:l≠[]
 len:l.length≤200
 nm:∀ i (h:i<l.length),zBe (l[i]).nm=true
 inc:Inc l
 par:∀ i (h:i<l.length),(l[i]).par≠emp→∃ j,idx l (l[i]).par=some j
 ends:EndsR l
theorem inc_of_fault {l:List Rg} (h:∀ i,i<l.length→zBa l i=none):(∀ i (h:i<l.length),zBe (l[i]).nm=true)∧Inc l:=by
 have hn:∀ i (h:i<l.length),zBe (l[i]).nm=true:=fun i hi=>by
  have:=h i hi;unfold zBa at this;rw [zBl hi] at this
  cases hb:zBe (l[i]).nm with
  | true=>rfl
  | false=>rw [aE hb] at this;cases this
 refine ⟨hn,fun i hi=>?_⟩
 have:=h (i+1) hi;unfold zBa at this;rw [zBl hi,aC (by rw [hn (i+1) hi];simp),show i+1 - 1=i from rfl,zBl za] at this
 refine zBJ ?_
 cases hb:sle (l[i+1]).nm (l[i]).nm with
 | false=>rfl
 | true=>rw [aE ⟨za,hb⟩] at this;cases this
theorem rgFault_ne {l:List Rg} {i:Nat} {f:Int} (h:zBa l i=some f):f≠0:=by
 unfold zBa at h
 split at h
 ·injection h with h;omega
 ·split at h
  ·injection h with h;omega
  ·cases h
theorem good_of {l:List Rg} (h:zDU l=0):GoodR l:=by
 unfold zDU at h
 split at h
 ·omega
 ·rename_i h1
  split at h
  ·omega
  ·rename_i h2
   split at h
   ·rename_i f hf
    obtain ⟨i,_,hi⟩:=List.exists_of_findSome?_eq_some hf;exact absurd h (rgFault_ne hi)
   ·rename_i hn
    have hn':∀ i,i<l.length→zBa l i=none:=fun i hi=>List.findSome?_eq_none_iff.1 hn i (List.mem_range.2 hi)
    obtain ⟨ha,hb⟩:=inc_of_fault hn'
    split at h
    ·omega
    ·rename_i h3
     split at h
     ·rename_i h4
      refine ⟨h1,za,ha,hb,fun i hi hne=>?_,h4⟩
      cases hx:idx l (l[i]).par with
      | some j=>exact ⟨j,rfl⟩
      | none=>exact absurd (List.any_eq_true.2 ⟨l[i],aJ hi,by simp [zBS,hne,hx]⟩) h3
     ·omega
def rgAt (a:List Ar) (i:Nat):BA:=(a.getD i default).rg
theorem zEm {a:List Ar} {i:Nat} (h:i<a.length):rgAt a i=(a[i]).rg:=by simp [rgAt,List.getD,h]
def zBu (l:List Rg) (a:List Ar) (i:Nat):Option Int :=
 if idx l (rgAt a i)=none then some 5 else if 0<i∧sle (rgAt a i) (rgAt a (i - 1))=true then some 8 else none
def zDw (l:List Rg) (a:List Ar):Int :=
 if 100<a.length then 2 else
 match (List.range a.length).findSome? (zBu l a) with
 | some f=>f
 | none=>0
def findA (a:List Ar) (s:BA):Option Ar:=a.find? fun x=>decide (x.rg=s)
def liesF (l:List Rg) (a:List Ar):Nat→Nat→Bool
 | 0,_=>false
 | f+1,i=>match findA a (nmAt l i) with
  | some x=>!x.out
  | none=>match up l i with
   | some j=>liesF l a f j
   | none=>false
def lies (l:List Rg) (a:List Ar) (i:Nat):Bool:=liesF l a (l.length+2) i
def zAL (l:List Rg) (i:Nat):Bool:=l.any fun q=>decide (q.par=nmAt l i)
def zAG (l:List Rg):List Nat:=(List.range l.length).filter fun i=>!zAL l i
def zBC (l:List Rg) (a:List Ar):List BA:=((zAG l).filter (lies l a)).map (nmAt l)
def zCO (l:List Rg):Nat→Nat→Nat→Bool
 | 0,_,_=>false
 | f+1,i,k=>decide (i=k) || match up l i with
  | some j=>zCO l f j k
  | none=>false
def under (l:List Rg) (i k:Nat):Bool:=zCO l (l.length+2) i k
def leavesS (l:List Rg) (a:List Ar):List BA×Int :=
 if zDU l≠0 then ([],zDU l) else if zDw l a≠0 then ([],zDw l a) else (zBC l a,0)
theorem findA_some {a:List Ar} {s:BA} {k:Nat} (hk:k<a.length) (h:(a[k]).rg=s) (hmin:∀ j (hj:j<a.length),j<k→(a[j]).rg≠s):findA a s=some a[k]:=by
 unfold findA;rw [List.find?_eq_some_iff_getElem];exact ⟨zn,k,hk,rfl,fun j hj=>by simpa using hmin j za hj⟩
theorem findA_none {a:List Ar} {s:BA} (h:∀ j (hj:j<a.length),(a[j]).rg≠s):findA a s=none:=by
 unfold findA;rw [List.find?_eq_none];intro x hx;obtain ⟨j,hj,rfl⟩:=aK hx
 simpa using h j hj
theorem up_none {l:List Rg} {i:Nat} (hi:i<l.length) (h:(l[i]).par=emp):up l i=none:=by rw [up_of hi,aE h]
theorem GoodR.up_some {l:List Rg} (g:GoodR l) {i:Nat} (hi:i<l.length) (h:(l[i]).par≠emp):∃ j,∃ hj:j<l.length,up l i=some j∧(l[i]).par=(l[j]).nm:=by
 obtain ⟨j,hj⟩:=g.par i hi h;obtain ⟨hjl,e⟩:=zEj hj;exact ⟨j,hjl,by rw [up_of hi,aC h];exact hj,e.symm⟩
theorem GoodR.nm_ne {l:List Rg} (g:GoodR l) {i:Nat} (hi:i<l.length):(l[i]).nm≠emp:=isNm_ne (g.nm i hi)
theorem GoodR.nm_inj {l:List Rg} (g:GoodR l) {i j:Nat} (hi:i<l.length) (hj:j<l.length) (e:(l[i]).nm=(l[j]).nm):i=j:=g.inc.inj hi hj e
open Go Go.RowKit
def Rd1 {α:Type} (f:α→Value) (w:World) (A:Option Addr) (l:List α):Prop :=
 0<l.length→∃ b o:Nat,A=some ⟨b,o,none⟩∧∀ i (h:i<l.length),w.cell? ⟨b,o+i,none⟩=some (f l[i])
def Rd2 {α:Type} (f g:α→Value) (w:World) (A:Option Addr) (l:List α):Prop :=
 0<l.length→∃ b o:Nat,A=some ⟨b,o,none⟩∧∀ i (h:i<l.length),w.cell? ⟨b,o+i*2,none⟩=some (f l[i])∧w.cell? ⟨b,o+i*2+1,none⟩=some (g l[i])
section
variable {α:Type} {f g:α→Value} {w w':World} {A:Option Addr} {l:List α}
theorem Rd1.nil:Rd1 f w A []:=fun h=>absurd h ze
theorem Rd2.nil:Rd2 f g w A []:=fun h=>absurd h ze
theorem Rd1.keep (h:Rd1 f w A l) (hk:∀ b o,b<w.heap.size→w'.cell? ⟨b,o,none⟩=w.cell? ⟨b,o,none⟩):Rd1 f w' A l:=fun hl=>by
 obtain ⟨b,o,rfl,hc⟩:=h hl;exact ⟨b,o,rfl,fun i hi=>(hk _ _ (World.block_lt_of_cell? w _ (hc i hi))).trans (hc i hi)⟩
theorem Rd2.keep (h:Rd2 f g w A l) (hk:∀ b o,b<w.heap.size→w'.cell? ⟨b,o,none⟩=w.cell? ⟨b,o,none⟩):Rd2 f g w' A l:=fun hl=>by
 obtain ⟨b,o,rfl,hc⟩:=h hl;exact ⟨b,o,rfl,fun i hi=>⟨(hk _ _ (World.block_lt_of_cell? w _ (hc i hi).1)).trans (hc i hi).1,(hk _ _ (World.block_lt_of_cell? w _ (hc i hi).2)).trans (hc i hi).2⟩⟩
theorem Rd1.below (h:Rd1 f w A l) (hb:Below w.heap.size w w'):Rd1 f w' A l:=h.keep fun _ _ hlt=>hb.cell hlt
theorem Rd2.below (h:Rd2 f g w A l) (hb:Below w.heap.size w w'):Rd2 f g w' A l:=h.keep fun _ _ hlt=>hb.cell hlt
theorem Rd1.alloc (h:Rd1 f w A l) (o:Obj):Rd1 f (w.alloc o) A l:=h.keep fun _ _ hlt=>World.cell?_alloc_lt _ _ _ hlt
theorem Rd1.drew (h:Rd1 f w A l):Rd1 f w.drew A l:=h
theorem Rd2.drew (h:Rd2 f g w A l):Rd2 f g w.drew A l:=h
theorem Rd1.drewN (h:Rd1 f w A l) (n:Nat):Rd1 f (w.drewN n) A l:=h
theorem Rd2.drewN (h:Rd2 f g w A l) (n:Nat):Rd2 f g (w.drewN n) A l:=h
theorem Rd1.at_ (h:Rd1 f w A l) (hl:0<l.length):∃ b o:Nat,A=some ⟨b,o,none⟩∧b<w.heap.size∧∀ i (h:i<l.length),w.cell? ⟨b,o+i,none⟩=some (f l[i]):=by
 obtain ⟨b,o,rfl,hc⟩:=h hl;exact ⟨b,o,rfl,World.block_lt_of_cell? w _ (hc 0 hl),hc⟩
theorem Rd2.at_ (h:Rd2 f g w A l) (hl:0<l.length):∃ b o:Nat,A=some ⟨b,o,none⟩∧b<w.heap.size∧∀ i (h:i<l.length),w.cell? ⟨b,o+i*2,none⟩=some (f l[i])∧w.cell? ⟨b,o+i*2+1,none⟩=some (g l[i]):=by
 obtain ⟨b,o,rfl,hc⟩:=h hl;exact ⟨b,o,rfl,World.block_lt_of_cell? w _ (hc 0 hl).1,hc⟩
end
theorem zAa {a b c:World} (h:Below a.heap.size a b) (k:Below b.heap.size b c):Below a.heap.size a c:=h.trans (k.mono h.size)
theorem zAd {B:Nat} {a w:World} (h:Below B a w) (n:Nat):Below B a (w.drewN n):=⟨h.os,h.tape,h.output,h.size,h.block⟩
theorem Rd1.of_own {α:Type} {f:α→Value} {w:World} {base:Nat} {e:TypeId} {l:List α} {v:Value} (h:w.ownsRow base e 1 v l.length (l.map f)) :
  ∃ A c,v = .slice A l.length c∧Rd1 f w A l:=by
 rcases h.2 with ⟨rfl,hn⟩ | ⟨g,cap,cur,rfl,hb,hg,hnc,hm,hs,htake⟩
 ·exact ⟨none,0,by rw [hn],fun hl=>za⟩
 ·refine ⟨_,_,rfl,fun hl=>⟨g,0,rfl,fun i hi=>?_⟩⟩
  rw [aQ,aR w g i cur e (0,0) hg];have:(cur.toList.take (l.length*1))[i]?=(l.map f)[i]?:=by rw [htake]
  rw [List.getElem?_take,aE za] at this
  simpa [hi] using this
structure ElemT (P:Program) (t e:TypeId) (z:Value) (size bytes:Nat):Prop where
 ty:P.underlying t=some (.slice e)
 info:(P.info? e).map (fun i=>(i.zero,i.size,i.bytes))=some (some z,size,bytes)
 zs:z.cells.size=size
 pos:0<size
def zAT {α:Type} (enc:α→List Value) (k:Nat) (w:World) (base:Nat) (e:TypeId) (v:Value) (l:List α):Prop :=
 w.ownsRow base e k v l.length (l.flatMap enc)
section
variable {α:Type} {enc:α→List Value} {k:Nat} {w w':World} {base:Nat} {e:TypeId} {v:Value} {l:List α}
theorem zAT.nil (enc:α→List Value) (k:Nat) (w:World) (base:Nat) (e:TypeId):zAT enc k w base e (.slice none 0 0) ([]:List α):=World.ownsRow_nil w base e k
theorem zAT.alloc (h:zAT enc k w base e v l) (o:Obj):zAT enc k (w.alloc o) base e v l:=World.ownsRow.alloc h o
theorem zAT.grown {row:Option Nat} (h:zAT enc k w base e v l) (hg:w.grownBy w' row) (hne:v.ownBlock=none∨v.ownBlock≠row):zAT enc k w' base e v l:=World.ownsRow.kept h hg hne
theorem zBc (hb:Below w.heap.size w w') (row:Option Nat):w.grownBy w' row:=⟨hb.os,hb.tape,hb.output,hb.size,fun i hi _=>hb.block i hi⟩
theorem zAT.below (h:zAT enc k w base e v l) (hb:Below w.heap.size w w'):zAT enc k w' base e v l :=
 h.grown (row:=none) (zBc hb none) (by cases hv:v.ownBlock<;>simp)
theorem zAT.drewN (h:zAT enc k w base e v l) (n:Nat):zAT enc k (w.drewN n) base e v l:=h
theorem flat1 {f:α→Value} (l:List α):l.flatMap (fun x=>[f x])=l.map f:=by
 induction l with
 | nil=>rfl
 | cons a t ih=>simp [List.flatMap_cons,ih]
theorem zAT.rd1 {f:α→Value} (h:zAT (fun x=>[f x]) 1 w base e v l):∃ A c,v = .slice A l.length c∧Rd1 f w A l:=by
 refine Rd1.of_own (base:=base) (e:=e) ?_
 unfold zAT at h;rw [flat1] at h;exact h
end
theorem zBB {P:Program} {α:Type} {enc:α→List Value} {k:Nat} {ops:Array Oper} {rest:List Oper} {o:Oper} {a:Act} {w:World} {Q:Exit→Act→World→Prop}
  {e:TypeId} {z:Value} {bytes:Nat} (s x:Operand) (t:TypeId) (hT:ElemT P t e z k bytes) (hgd:o.guard=none) (ho:o.op = .call { callee:=.builtin .append,args:=#[s,x],argTypes:=#[t,t] })
  (base:Nat) (v:Value) (l:List α) (hs:a.eval s=v) (hown:zAT enc k w base e v l)
  (g cp:Nat) (y:α) (hx:a.eval x = .slice (some ⟨g,0,none⟩) 1 cp) (hnew:w.heap[g]?=some (.cells (enc y).toArray e (0,0)))
  (hk:(enc y).length=k) (hone:∀ u∈enc y,u.oneCell'=true) (hlen:l.length+1≤maxLen) (hbytes:(l.length+1)*bytes≤140737488355328) (hbase:base≤w.heap.size)
  (h:∀ v' w',zAT enc k w' base e v' (l++[y])→w.grownBy w' v.ownBlock→Below base w w'→wpList P ops Q rest (a.put o.dst v') w'):wpList P ops Q (o::rest) a w:=by
 obtain ⟨i,hi,hz0,hz1,hz2⟩:=info_parts hT.info;refine wpList_append_own _ hgd s x t ho base e i z k bytes hT.ty hi hz0 hz1 hz2 hT.zs hT.pos v l.length (l.flatMap enc) hs hown ⟨g,0,none⟩ 1 cp (enc y) hx (by rw [hk];omega) ?_ hone hlen hbytes hbase ?_
 ·intro j u hj
  have:=World.news_of_block hnew j u qe;exact this
 ·intro v' w' h1 h2 _
  refine h v' w' ?_ h2 ((aS _ _).grown h2 hbase fun j hj=>(aT hown j hj).1)
  unfold zAT
  simpa using h1
end Dw
namespace Go.Proofs.YtieoifkdobcpiaaGreatDoor
open Go.RowKit Dw
abbrev Rgs:=Rd2 (fun r:Rg=>Value.string r.nm) (fun r:Rg=>Value.string r.par)
abbrev Ars:=Rd2 (fun x:Ar=>Value.string x.rg) (fun x:Ar=>Value.bool x.out)
abbrev Strs:=Rd1 Value.string
def zAB (v:Value) (w:World) (e:Ending) (w':World):Prop:=e = .returned v∧w=w'
theorem zAB.mk {v v':Value} {w w':World} (h:v=v') (hw:w=w'):zAB v' w (.returned v) w':=⟨by rw [h],hw⟩
theorem zAx {a b:Int} (h:a=b):Value.int .i64 a = .int .i64 b:=by rw [h]
theorem zAs {a b:Bool} (h:a=b):Value.bool a = .bool b:=by rw [h]
def idxI (l:List Rg) (s:BA):Int:=match idx l s with
 | some i=>i
 | none=>-1
def RegionRel (w:World) (l:List Rg) (nm:BA) (m:Nat) (i:Value) (wr:World):Prop :=
 wr=w∧∃ k:Nat,k+m=l.length∧i = .int .i64 k∧∀ j (h:j<l.length),j<k→(l[j]).nm≠nm
theorem zCL (A:Option Addr) (c:Nat) (l:List Rg) (nm:BA) (w:World) (hn:l.length≤200) (h:Rgs w A l) :
  Calls Tryz.prog 137 #[.slice A l.length c,.string nm] w (zAB (.int .i64 (idxI l nm)) w):=by
 go_enter Tryz.func137,Tryz.ntmps137
 go_wp2
 go_loopg [5] l.length (RegionRel w l nm)
 case atStart=>exact ⟨rfl,0,za,rfl,fun j _ hj=>absurd hj za⟩
 case round =>
  obtain ⟨hw,k,hk,rfl,hpre⟩:=hrel;subst hw;have HK:=zq hk;have HP:=zq hpre;have hk1:k≤l.length:=za;clear hk hpre
  by_cases hlt:k<l.length
  ·obtain ⟨b,o,rfl,hb,hc⟩:=h.at_ za
   have hc0:=(hc k hlt).1;clear hc
   by_cases hq:(l[k]).nm=nm
   ·have hqb:=zAn hq
    have HQ:=zq hq;clear hq;go_wp2;go_ret
    refine zAB.mk (zAx ?_) rfl
    unfold idxI;rw [idx_mk hlt HQ.o (fun j hj=>HP.o j za hj)]
   ·have hqb:=zAm hq
    have HQ:=zq hq;clear hq;go_wp2
    go_roundg (gk - 1)
    case measure=>have:=HK.o;omega
    case rel =>
     refine ⟨rfl,k+1,zh,zi,fun j hj hjk=>?_⟩
     rcases aU j k with h1 | h1
     ·exact HP.o j hj h1
     ·obtain rfl:j=k:=by omega
      exact HQ.o
  ·go_wp2
   go_ret
   refine zAB.mk (zAx ?_) rfl
   unfold idxI;rw [idx_mk_none (fun j hj=>HP.o j hj za)]
def HasRel (w:World) (l:List BA) (s:BA) (m:Nat) (i:Value) (wr:World):Prop :=
 wr=w∧∃ k:Nat,k+m=l.length∧i = .int .i64 k∧∀ j (h:j<l.length),j<k→l[j]≠s
theorem has_c (A:Option Addr) (c:Nat) (l:List BA) (s:BA) (w:World) (hn:l.length≤1000000) (h:Strs w A l) :
  Calls Tryz.prog 96 #[.slice A l.length c,.string s] w (zAB (.bool (zDt l s)) w):=by
 go_enter Tryz.func96,Tryz.ntmps96
 go_wp2
 go_loopg [5] l.length (HasRel w l s)
 case atStart=>exact ⟨rfl,0,za,rfl,fun j _ hj=>absurd hj za⟩
 case round =>
  obtain ⟨hw,k,hk,rfl,hpre⟩:=hrel;subst hw;have HK:=zq hk;have HP:=zq hpre;have hk1:k≤l.length:=za;clear hk hpre
  by_cases hlt:k<l.length
  ·obtain ⟨b,o,rfl,hb,hc⟩:=h.at_ za
   have hc0:=hc k hlt;clear hc
   by_cases hq:l[k]=s
   ·have hqb:=zAn hq
    have HQ:=zq hq;clear hq;go_wp2;go_ret
    refine zAB.mk (zAs ?_) rfl
    exact (zCd.2 (HQ.o▸aJ hlt)).symm
   ·have hqb:=zAm hq
    have HQ:=zq hq;clear hq;go_wp2
    go_roundg (gk - 1)
    case measure=>have:=HK.o;omega
    case rel =>
     refine ⟨rfl,k+1,zh,zi,fun j hj hjk=>?_⟩
     rcases aU j k with h1 | h1
     ·exact HP.o j hj h1
     ·obtain rfl:j=k:=by omega
      exact HQ.o
  ·go_wp2
   go_ret
   refine zAB.mk (zAs ?_) rfl
   refine (memS_false.2 fun hm=>?_).symm
   obtain ⟨j,hj,e⟩:=aK hm;exact HP.o j hj za e
def leafB (l:List Rg) (nm:BA):Bool:=(idx l nm).isSome&&!l.any fun q=>decide (q.par=nm)
theorem leafB_at {l:List Rg} (g:GoodR l) {i:Nat} (hi:i<l.length):leafB l (l[i]).nm = !zAL l i:=by
 unfold leafB zAL;rw [g.inc.idx hi,zBl hi]
 rfl
def IsLeafRel (w:World) (l:List Rg) (nm:BA) (m:Nat) (i:Value) (wr:World):Prop :=
 wr=w∧∃ k:Nat,k+m=l.length∧i = .int .i64 k∧∀ j (h:j<l.length),j<k→(l[j]).par≠nm
theorem IsLeaf_c (A:Option Addr) (c:Nat) (l:List Rg) (nm:BA) (w:World) (hn:l.length≤200) (h:Rgs w A l) :
  Calls Tryz.prog 95 #[.slice A l.length c,.string nm] w (zAB (.bool (leafB l nm)) w):=by
 cases hix:idx l nm with
 | none =>
  have HX:=zq hix;clear hix;have hi0:idxI l nm = -1:=by unfold idxI;rw [HX.o]
  go_enter Tryz.func95,Tryz.ntmps95
  go_wp2_with (go_at_call 137;refine (zCL _ _ _ _ _ hn h).mono ?_;rintro e w' ⟨rfl,rfl⟩)
  go_ret
  refine zAB.mk (zAs ?_) rfl
  unfold leafB;rw [HX.o];rfl
 | some x =>
  have HX:=zq hix;clear hix;have hi0:idxI l nm=(x:Int):=by unfold idxI;rw [HX.o]
  go_enter Tryz.func95,Tryz.ntmps95
  go_wp2_with (go_at_call 137;refine (zCL _ _ _ _ _ hn h).mono ?_;rintro e w' ⟨rfl,rfl⟩)
  clear hi0
  go_loopg [5] l.length (IsLeafRel w l nm)
  case atStart=>exact ⟨rfl,0,za,rfl,fun j _ hj=>absurd hj za⟩
  case round =>
   obtain ⟨hw,k,hk,rfl,hpre⟩:=hrel;subst hw;have HK:=zq hk;have HP:=zq hpre;have hk1:k≤l.length:=za;clear hk hpre
   by_cases hlt:k<l.length
   ·obtain ⟨b,o,rfl,hb,hc⟩:=h.at_ za
    have hc0:=(hc k hlt).2;clear hc
    by_cases hq:(l[k]).par=nm
    ·have hqb:=zAn hq
     have HQ:=zq hq;clear hq;go_wp2;go_ret
     refine zAB.mk (zAs ?_) rfl
     have:(l.any fun q=>decide (q.par=nm))=true:=List.any_eq_true.2 ⟨l[k],aJ hlt,by simp [HQ.o]⟩
     simp [leafB,this]
    ·have hqb:=zAm hq
     have HQ:=zq hq;clear hq;go_wp2
     go_roundg (gk - 1)
     case measure=>have:=HK.o;omega
     case rel =>
      refine ⟨rfl,k+1,zh,zi,fun j hj hjk=>?_⟩
      rcases aU j k with h1 | h1
      ·exact HP.o j hj h1
      ·obtain rfl:j=k:=by omega
       exact HQ.o
   ·go_wp2
    go_ret
    refine zAB.mk (zAs ?_) rfl
    have:(l.any fun q=>decide (q.par=nm))=false:=by
     rw [aV];intro q hm;obtain ⟨j,hj,rfl⟩:=aK hm
     simpa using HP.o j hj za
    simp [leafB,this,HX.o]
end Go.Proofs.YtieoifkdobcpiaaGreatDoor
namespace Go.Proofs.YtieoifkdobcpiaaGreatDoor
def zAf (B:Nat):List Nat→Nat
 | []=>0
 | a::l=>a+B*zAf B l
def WLt (B:Nat) (l:List Nat):Prop:=∀ x∈l,x<B
def zBw:List Nat→List Nat
 | []=>[]
 | a::l=>if zBw l=[]∧a=0 then [] else a::zBw l
def wordsF (B:Nat):Nat→Nat→List Nat
 | 0,_=>[]
 | f+1,n=>if n=0 then [] else n % B::wordsF B f (n / B)
def zAc (B n:Nat):List Nat:=wordsF B n n
theorem WLt.tail {B a:Nat} {l:List Nat} (h:WLt B (a::l)):WLt B l:=fun x hx=>h x (aW _ hx)
theorem WLt.head {B a:Nat} {l:List Nat} (h:WLt B (a::l)):a<B:=h a aX
theorem WLt.nil {B:Nat}:WLt B []:=fun _ hx=>by cases hx
theorem WLt.cons {B a:Nat} {l:List Nat} (h:a<B) (hl:WLt B l):WLt B (a::l):=fun x hx=>by
 rcases List.mem_cons.1 hx with rfl | hx
 ·exact h
 ·exact hl x hx
theorem zAS (B:Nat):∀ l r:List Nat,zAf B (l++r)=zAf B l+B ^ l.length*zAf B r
 | [],r=>je
 | a::l,r=>by
  rw [List.cons_append,zAf,zAf,zAS B l r,aY,aZ,bA,bB (B ^ l.length) B,bC];omega
theorem zDs {B:Nat}:∀ {l:List Nat},WLt B l→zAf B l<B ^ l.length
 | [],_=>je
 | a::l,h=>by
  have h1:=zDs h.tail;have h2:=h.head;rw [zAf,aY,aZ,bB]
  calc a+zAf B l*B<B+zAf B l*B:=by omega
   _=(zAf B l+1)*B:=by rw [bD,Nat.one_mul,Nat.add_comm]
   _≤B ^ l.length*B:=aP _ h1
theorem wval_zero {B:Nat}:∀ {l:List Nat},WLt B l→zAf B l=0→zBw l=[]
 | [],_,_=>rfl
 | a::l,h,e=>by
  have hB:0<B:=bE (bF _) h.head;rw [zAf] at e;have h1:a=0:=za;have h2:B*zAf B l=0:=za
  have h3:zAf B l=0:=by
   rcases Nat.mul_eq_zero.1 h2 with h | h
   ·omega
   ·exact h
  rw [zBw,aE ⟨wval_zero h.tail h3,h1⟩]
theorem wtrim_eq {B:Nat}:∀ {l r:List Nat},WLt B l→WLt B r→zAf B l=zAf B r→zBw l=zBw r
 | [],r,_,hr,e=>(wval_zero hr e.symm).symm
 | a::l,[],hl,_,e=>wval_zero hl e
 | a::l,b::r,hl,hr,e=>by
  have h1:=hl.head;have h2:=hr.head;rw [zAf,zAf] at e
  have e1:a=b:=by
   have:=bH (· % B) e;simp only [Nat.add_mul_mod_self_left] at this
   rwa [bI h1,bI h2] at this
  have e2:zAf B l=zAf B r:=by
   have h3:B*zAf B l=B*zAf B r:=za;exact Nat.eq_of_mul_eq_mul_left za h3
  rw [zBw,zBw,wtrim_eq hl.tail hr.tail e2,e1]
theorem wordsF_ok {B:Nat} (hB:1<B):∀ f n:Nat,n≤f→zAf B (wordsF B f n)=n∧WLt B (wordsF B f n)∧zBw (wordsF B f n)=wordsF B f n
 | 0,n,h=>by
  obtain rfl:n=0:=za;exact ⟨rfl,WLt.nil,rfl⟩
 | f+1,n,h=>by
  rw [wordsF]
  split
  ·next h0=>subst h0;exact ⟨rfl,WLt.nil,rfl⟩
  ·next h0 =>
   have hlt:n / B<n:=Nat.div_lt_self za hB;obtain ⟨h1,h2,h3⟩:=wordsF_ok hB f (n / B) za;refine ⟨?_,WLt.cons (bJ _ za) h2,?_⟩
   ·rw [zAf,h1];exact bK n B
   ·rw [zBw,aC,h3]
    rintro ⟨e1,e2⟩;rw [h3] at e1;have e3:n / B=0:=by rw [←h1,e1];rfl
    have:=bK n B;rw [e2,e3] at this;omega
theorem zAl {B:Nat} (hB:1<B) (n:Nat):zAf B (zAc B n)=n:=(wordsF_ok hB n n (aB _)).1
theorem zAK {B:Nat} (hB:1<B) (n:Nat):WLt B (zAc B n):=(wordsF_ok hB n n (aB _)).2.1
theorem words_trim {B:Nat} (hB:1<B) (n:Nat):zBw (zAc B n)=zAc B n:=(wordsF_ok hB n n (aB _)).2.2
theorem zCg {B:Nat} (hB:1<B) {l:List Nat} (h:WLt B l):zBw l=zAc B (zAf B l):=by
 rw [←words_trim hB (zAf B l)];exact wtrim_eq h (zAK hB _) (zAl hB _).symm
theorem zCv {B:Nat} (hB:1<B) {n:Nat}:zAc B n=[]↔n=0 :=
 ⟨fun h=>by rw [←zAl hB n,h];rfl,fun h=>by subst h;rfl⟩
theorem zBp {B:Nat} (hB:1<B) (n:Nat):n<B ^ (zAc B n).length:=by
 have:=zDs (zAK hB n)
 rwa [zAl hB] at this
theorem digit_le {B q u v top v1 n:Nat} (h:q*v≤u) (hv:v1*B ^ n≤v) (hu:u<(top+1)*B ^ n) (h1:0<v1):q≤top / v1:=by
 rw [Nat.le_div_iff_mul_le h1]
 have h2:q*v1*B ^ n<(top+1)*B ^ n:=by
  calc q*v1*B ^ n=q*(v1*B ^ n):=by rw [bC]
   _≤q*v:=bL _ hv
   _≤u:=h
   _<_:=hu
 have:=Nat.lt_of_mul_lt_mul_right h2;omega
theorem zBN (B a:Nat):zAf B [a]=a:=je
theorem zAD {B i:Nat} {l:List Nat} (hi:i<l.length):zAf B (l.take (i+1))=zAf B (l.take i)+B ^ i*l[i]:=by
 rw [bM hi,zAS,zBN,bN,bO (bP hi)]
theorem zCQ {B i:Nat} {l:List Nat} (hi:i<l.length):zAf B (l.drop i)=l[i]+B*zAf B (l.drop (i+1)):=by
 rw [aF hi,zAf]
theorem zCo (B i:Nat) (l:List Nat) (hi:i≤l.length):zAf B l=zAf B (l.take i)+B ^ i*zAf B (l.drop i):=by
 have:=zAS B (l.take i) (l.drop i);rw [bQ,bN,bO hi] at this;exact this
theorem add_col {B i x y o c a b s:Nat} (h:o+B ^ i*c=x+y) (hs:s=c+a+b):(o+B ^ i*(s % B))+B ^ (i+1)*(s / B)=(x+B ^ i*a)+(y+B ^ i*b):=by
 have h1:B ^ i*(s % B)+B ^ (i+1)*(s / B)=B ^ i*s:=by
  rw [aZ,bC,←bA,bK]
 have h2:B ^ i*s=B ^ i*c+B ^ i*a+B ^ i*b:=by rw [hs,bA,bA]
 omega
theorem next_lt {B r v x:Nat} (hr:r<v) (hx:x<B):x+B*r<v*B:=by
 calc x+B*r<B+B*r:=by omega
  _=(r+1)*B:=by rw [bD,Nat.one_mul,bB B r,Nat.add_comm]
  _≤v*B:=aP _ hr
theorem quot_lt {B u v:Nat} (h:u<v*B):u / v<B:=by
 have hv:0<v:=by
  rcases bR v with e | e
  ·subst e;simp at h
  ·exact e
 exact (Nat.div_lt_iff_lt_mul hv).2 (by rw [bB];exact h)
theorem div_next {B r v x:Nat} (hv:0<v) (q:Nat):(x+B*(q*v+r)) / v=B*q+(x+B*r) / v∧(x+B*(q*v+r)) % v=(x+B*r) % v:=by
 have e:x+B*(q*v+r)=x+B*r+v*(B*q):=by
  rw [bA,←bC,bB v];omega
 rw [e,Nat.add_mul_div_left _ _ hv,Nat.add_mul_mod_self_left];exact ⟨za,rfl⟩
theorem sub_col {B i:Nat} {x y o c a b s:Int} (h:o+(B:Int) ^ i*c=x - y) (hs:s=c+a - b) :
  (o+(B:Int) ^ i*(s % (B:Int)))+(B:Int) ^ (i+1)*(s / (B:Int))=(x+(B:Int) ^ i*a) - (y+(B:Int) ^ i*b):=by
 have h1:(B:Int) ^ i*(s % (B:Int))+(B:Int) ^ (i+1)*(s / (B:Int))=(B:Int) ^ i*s:=by
  rw [Int.pow_succ,Int.mul_assoc,←Int.mul_add,Int.emod_add_mul_ediv]
 have h2:(B:Int) ^ i*s=(B:Int) ^ i*c+(B:Int) ^ i*a - (B:Int) ^ i*b:=by rw [hs,Int.mul_sub,Int.mul_add]
 omega
theorem gcd_step {a b:Nat}:Nat.gcd a b=Nat.gcd b (a % b):=by
 rw [Nat.gcd_comm,Nat.gcd_rec,Nat.gcd_comm]
def zBM (l:List UInt8):Nat:=l.foldl (fun n c=>10*n+(c.toNat - 48)) 0
theorem decV_from (l:List UInt8):∀ n:Nat,l.foldl (fun n c=>10*n+(c.toNat - 48)) n=n*10 ^ l.length+zBM l:=by
 induction l with
 | nil=>intro n;simp [zBM]
 | cons c l ih =>
  intro n;have e:zBM (c::l)=l.foldl (fun n c=>10*n+(c.toNat - 48)) (10*0+(c.toNat - 48)):=rfl
  rw [bS,ih,e,ih,aY,aZ,bD]
  have h1:10*n*10 ^ l.length=n*(10 ^ l.length*10):=by
   rw [bB 10 n,bC,bB 10]
  rw [h1,bT,aQ];omega
theorem zCc (l r:List UInt8):zBM (l++r)=zBM l*10 ^ r.length+zBM r:=by
 unfold zBM;rw [bU];exact decV_from r _
theorem decV_cut (l:List UInt8) (k:Nat):zBM l=zBM (l.take k)*10 ^ (l.length - k)+zBM (l.drop k):=by
 have:=zCc (l.take k) (l.drop k);rw [bQ,bV] at this;exact this
theorem decV_lt {l:List UInt8} (h:∀ c∈l,c.toNat - 48<10):zBM l<10 ^ l.length:=by
 induction l with
 | nil=>simp [zBM]
 | cons c l ih =>
  have e:zBM (c::l)=l.foldl (fun n c=>10*n+(c.toNat - 48)) (10*0+(c.toNat - 48)):=rfl
  have h1:=ih fun x hx=>h x (aW _ hx)
  have h2:=h c aX;rw [e,decV_from,aY,aZ]
  calc (10*0+(c.toNat - 48))*10 ^ l.length+zBM l<(10*0+(c.toNat - 48))*10 ^ l.length+10 ^ l.length:=by omega
   _=(c.toNat - 48+1)*10 ^ l.length:=by rw [bT,aQ,bD,Nat.one_mul]
   _≤10*10 ^ l.length:=aP _ h2
   _=10 ^ l.length*10:=bB _ _
theorem scale_col {B i m o c a s:Nat} (hs:s=c+m*a):o+B ^ i*(s % B)+B ^ (i+1)*(s / B)=o+B ^ i*c+B ^ i*(m*a):=by
 have h1:B ^ i*(s % B)+B ^ (i+1)*(s / B)=B ^ i*s:=by
  rw [aZ,bC,←bA,bK]
 have h2:B ^ i*s=B ^ i*c+B ^ i*(m*a):=by rw [hs,bA]
 omega
theorem wtrim_zero:∀ l:List Nat,zBw (l++[0])=zBw l
 | []=>by simp [zBw]
 | a::l=>by rw [List.cons_append,zBw,zBw,wtrim_zero l]
theorem wtrim_ne {a:Nat} (h:a≠0):∀ l:List Nat,zBw (l++[a])=l++[a]
 | []=>by simp [zBw,h]
 | b::l=>by
  rw [List.cons_append,zBw,wtrim_ne h l,aC];rintro ⟨e,_⟩;simp at e
theorem wtrim_take_zero {L:List Nat} {k:Nat} (hk:k<L.length) (h:L[k]=0):zBw (L.take (k+1))=zBw (L.take k):=by
 rw [bM hk,h,wtrim_zero]
theorem zEp {L:List Nat} {k:Nat} (hk:k<L.length) (h:L[k]≠0):zBw (L.take (k+1))=L.take (k+1):=by
 rw [bM hk,wtrim_ne h]
theorem wtrim_len (L:List Nat):(zBw L).length≤L.length:=by
 induction L with
 | nil=>simp [zBw]
 | cons a l ih =>
  rw [zBw]
  split<;>simp<;>omega
theorem zDi:∀ L:List Nat,zBw L=L.take (zBw L).length
 | []=>by simp [zBw]
 | a::l=>by
  rw [zBw]
  split
  ·simp
  ·rw [aY,bW,←zDi l]
theorem wtrim_last:∀ {L:List Nat},zBw L=L→∀ (h:L≠[]),L.getLast h≠0
 | [],_,h=>absurd rfl h
 | [a],e,_=>by
  intro h0;have h1:a=0:=by simpa using h0
  subst h1;simp [zBw] at e
 | a::b::l,e,_=>by
  rw [zBw] at e
  split at e
  ·cases e
  ·injection e with _ e
   rw [List.getLast_cons ze];exact wtrim_last e ze
section
variable {B:Nat}
theorem zCn (hB:1<B) {n:Nat} (h:0<(zAc B n).length):(zAc B n)[(zAc B n).length - 1]≠0:=by
 have h0:zAc B n≠[]:=fun e=>by rw [e] at h;simp at h
 have:=wtrim_last (words_trim hB n) h0
 rwa [List.getLast_eq_getElem] at this
theorem zEq {l:List Nat} (h:0<l.length) (h0:l[l.length - 1]≠0):B ^ (l.length - 1)≤zAf B l:=by
 have e:l.length - 1<l.length:=za;have h1:=zAD (B:=B) e;rw [show l.length - 1+1=l.length by omega,bX] at h1
 rw [h1];have:1≤l[l.length - 1]:=za;have h2:=bL (B ^ (l.length - 1)) this;omega
theorem lt_of_len (hB:1<B) {a b:Nat} (h:(zAc B a).length<(zAc B b).length):a<b:=by
 have h1:=zBp hB a;have h2:=zEq (B:=B) (l:=zAc B b) za (zCn hB za);rw [zAl hB] at h2;have h3:B ^ (zAc B a).length≤B ^ ((zAc B b).length - 1):=bY za za;omega
theorem zBi (hB:1<B) {a k:Nat} (h:a<B ^ k):(zAc B a).length≤k:=by
 rcases aU k (zAc B a).length with h1 | h1
 ·have h2:=zEq (B:=B) (l:=zAc B a) za (zCn hB za)
  rw [zAl hB] at h2;have h3:B ^ k≤B ^ ((zAc B a).length - 1):=bY za za;omega
 ·exact h1
theorem zAt (hB:1<B) {a b:Nat} (h:a≤b):(zAc B a).length≤(zAc B b).length :=
 zBi hB (bE h (zBp hB b))
theorem wval_lt_of {l r:List Nat} (hl:WLt B l) (e:l.length=r.length) {i:Nat} (hi:i<l.length) (hi':i<r.length)
  (hd:l.drop (i+1)=r.drop (i+1)) (h:l[i]<r[i]):zAf B l<zAf B r:=by
 have h1:=zCo B i l za;have h2:=zCo B i r za;rw [zCQ hi] at h1;rw [zCQ hi',←hd] at h2;have h3:zAf B (l.take i)<B ^ (l.take i).length:=zDs fun x hx=>hl x (bZ hx)
 rw [bN,bO za] at h3;have h4:B ^ i*(l[i]+1)≤B ^ i*r[i]:=bL _ h;rw [h1,h2,bA,bA];rw [bA,cA] at h4;omega
end
def zCZ (a b:Nat):Int:=if a<b then -1 else if a=b then 0 else 1
theorem zBF {a b:Nat} (h:a<b):zCZ a b = -1:=by rw [zCZ,aE h]
theorem zBy {a b:Nat} (h:b<a):zCZ a b=1:=by rw [zCZ,aC za,aC za]
theorem zCx {a b:Nat} (h:a=b):zCZ a b=0:=by rw [zCZ,aC za,aE h]
theorem step_col {B i:Nat} {W U V q u v w c lo hi b b':Int} (h:W=U - q*V+(B:Int) ^ i*(c+b)) (hC:c+q*v=lo+B*hi) (hw:w=u - lo - b+B*b') :
  W+(B:Int) ^ i*w=(U+(B:Int) ^ i*u) - q*(V+(B:Int) ^ i*v)+(B:Int) ^ (i+1)*(hi+b'):=by
 have h1:(B:Int) ^ i*w=(B:Int) ^ i*u - (B:Int) ^ i*lo - (B:Int) ^ i*b+(B:Int) ^ i*(B*b'):=by
  rw [hw,Int.mul_add,Int.mul_sub,Int.mul_sub]
 have h2:(B:Int) ^ i*(c+b)=(B:Int) ^ i*c+(B:Int) ^ i*b:=Int.mul_add ..
 have h3:q*(V+(B:Int) ^ i*v)=q*V+(B:Int) ^ i*(q*v):=by
  rw [Int.mul_add,Int.mul_left_comm]
 have h4:(B:Int) ^ (i+1)*(hi+b')=(B:Int) ^ i*(B*hi)+(B:Int) ^ i*(B*b'):=by
  rw [Int.pow_succ,Int.mul_assoc,Int.mul_add,Int.mul_add]
 have h5:(B:Int) ^ i*c+(B:Int) ^ i*(q*v)=(B:Int) ^ i*lo+(B:Int) ^ i*(B*hi):=by
  rw [←Int.mul_add,←Int.mul_add,hC]
 omega
theorem zEs (B:Nat):∀ (l:List Nat) (i:Nat) (x:Nat) (h:i<l.length),zAf B (l.set i x)+B ^ i*l[i]=zAf B l+B ^ i*x
 | [],i,x,h=>absurd h ze
 | a::l,0,x,_=>by simp [zAf];omega
 | a::l,i+1,x,h=>by
  have ih:=zEs B l i x zn;have e1:B ^ (i+1)*l[i]'(by simpa using h)=B*(B ^ i*l[i]'(by simpa using h)):=by rw [aZ,bB (B ^ i) B,bC]
  have e2:B ^ (i+1)*x=B*(B ^ i*x):=by rw [aZ,bB (B ^ i) B,bC]
  rw [cB,zAf,zAf,cC,e1,e2];have h2:=bH (B * ·) ih;simp only [bA] at h2;omega
theorem take_set_succ {α:Type} (l:List α) (k:Nat) (x:α) (h:k<l.length):(l.set k x).take (k+1)=l.take k++[x]:=by
 rw [bM zn,List.take_set_of_le (aB k)];simp
theorem zEi {α:Type} (l:List α) (k:Nat) (x:α) (h:k<l.length):(l.set k x).drop k=x::l.drop (k+1):=by
 rw [aF zn,List.drop_set_of_lt (Nat.lt_succ_self k)];simp
theorem WLt.set {B:Nat} {l:List Nat} (h:WLt B l) {x:Nat} (hx:x<B) (i:Nat):WLt B (l.set i x):=fun y hy=>by
 rcases List.mem_or_eq_of_mem_set hy with h1 | h1
 ·exact h y h1
 ·rw [h1];exact hx
theorem WLt.take {B:Nat} {l:List Nat} (h:WLt B l) (k:Nat):WLt B (l.take k):=fun y hy=>h y (bZ hy)
theorem WLt.drop {B:Nat} {l:List Nat} (h:WLt B l) (k:Nat):WLt B (l.drop k):=fun y hy=>h y (List.mem_of_mem_drop hy)
theorem WLt.append {B:Nat} {l r:List Nat} (h:WLt B l) (k:WLt B r):WLt B (l++r):=fun y hy=>by
 rcases List.mem_append.1 hy with h1 | h1
 ·exact h y h1
 ·exact k y h1
theorem WLt.get {B:Nat} {l:List Nat} (h:WLt B l) (i:Nat) (hi:i<l.length):l[i]<B:=h _ (aJ hi)
theorem WLt.zeros {B:Nat} (hB:0<B) (n:Nat):WLt B (List.replicate n 0):=fun y hy=>by
 rw [List.eq_of_mem_replicate hy];exact hB
theorem wval_zeros (B n:Nat):zAf B (List.replicate n 0)=0:=by
 induction n with
 | zero=>rfl
 | succ n ih=>rw [List.replicate_succ,zAf,ih];simp
theorem zDQ {B:Nat} {l:List Nat} {k n:Nat} (h:zAf B (l.drop k)<B ^ n) (hk:k+n≤l.length):zAf B (l.drop (k+n))=0:=by
 have e:=zCo B n (l.drop k) (by rw [bV];omega)
 rw [List.drop_drop] at e
 rcases bR (zAf B (l.drop (k+n))) with h0 | h0
 ·exact h0
 ·have:B ^ n*1≤B ^ n*zAf B (l.drop (k+n)):=bL _ h0
  omega
theorem shr_col {B i s R T u0 x y r:Nat} (hB:0<B) (hs:0<s) (hd:s∣B) (hx:x<B) (h:s*R+u0=T+B ^ i*(x % s)) (hr:r=(x+B*y) / s % B) :
  s*(R+B ^ i*r)+u0=(T+B ^ i*x)+B ^ (i+1)*(y % s):=by
 obtain ⟨m,rfl⟩:=hd
 have hm:0<m:=by
  rcases bR m with e | e
  ·subst e;simp at hB
  ·exact e
 have e1:(x+s*m*y) / s=x / s+m*y:=by rw [bC,Nat.add_mul_div_left _ _ hs]
 have e2:x / s<m:=(Nat.div_lt_iff_lt_mul hs).2 (by rw [bB];exact hx)
 have e3:m*y=m*(y % s)+s*m*(y / s):=by
  conv=>lhs;rw [←bK y s]
  rw [bA,←bC,bB m s]
 have e4:x / s+m*(y % s)<s*m:=by
  have:m*(y % s)≤m*(s - 1):=bL _ (by have:=bJ y hs;omega)
  have h2:m*(s - 1)+m=s*m:=by
   rw [←Nat.mul_succ,bB];congr 1;omega
  omega
 have e5:r=x / s+m*(y % s):=by
  rw [hr,e1,e3,←Nat.add_assoc,Nat.add_mul_mod_self_left,bI e4]
 have e6:s*r+x % s=x+s*m*(y % s):=by
  rw [e5,bA];have:=bK x s;rw [←bC];omega
 have h7:s*(R+(s*m) ^ i*r)=s*R+(s*m) ^ i*(s*r):=by rw [bA,Nat.mul_left_comm]
 have h8:=bH ((s*m) ^ i * ·) e6;simp only [bA] at h8;have h9:(s*m) ^ (i+1)*(y % s)=(s*m) ^ i*(s*m*(y % s)):=by rw [aZ,bC]
 rw [h7,h9];omega
theorem wval_window {B:Nat} {l W:List Nat} {j n:Nat} (hl:j+n≤l.length) (hW:W.length=n) (h0:zAf B (l.drop (j+n))=0) :
  zAf B ((l.take j++W++l.drop (j+n)).drop j)=zAf B W:=by
 have h1:(l.take j).length=j:=js;rw [List.append_assoc,List.drop_append_of_le_length za,aA za,List.nil_append,zAS,h0];simp
open Go.RowKit Dw
def B32:Nat:=4294967296
theorem zAu:1<B32:=zd
theorem zCp:0<B32:=zd
theorem zCA:B32=4294967296:=rfl
def u32V:Nat→Value:=fun n=>Value.int .u32 (n:Int)
theorem zBK (n:Nat):u32V n=Value.int .u32 (n:Int):=rfl
abbrev Wds:=Rd1 u32V
structure Nt (w:World) (A:Option Addr) (c n:Nat):Prop where
 rd:Wds w A (zAc B32 n)
 cap:(zAc B32 n).length≤c
abbrev ntV (A:Option Addr) (c n:Nat):Value:=.slice A (zAc B32 n).length c
theorem Nt.below {w w':World} {A:Option Addr} {c n:Nat} (h:Nt w A c n) (hb:Below w.heap.size w w'):Nt w' A c n:=⟨h.rd.below hb,h.cap⟩
theorem Nt.drewN {w:World} {A:Option Addr} {c n:Nat} (h:Nt w A c n) (k:Nat):Nt (w.drewN k) A c n:=⟨h.rd.drewN k,h.cap⟩
def zDR (n:Nat) (w:World) (e:Ending) (w':World):Prop:=∃ A c,e = .returned (ntV A c n)∧Nt w' A c n∧Below w.heap.size w w'
def zBs (v:Value) (w:World) (e:Ending) (w':World):Prop:=e = .returned v∧∃ n,w'=w.drewN n
theorem zBs.mk {v v':Value} {w w':World} (h:v=v') (hw:∃ n,w'=w.drewN n):zBs v' w (.returned v) w':=⟨by rw [h],hw⟩
def zCh (w:World) (g:Nat) (L:List Nat):Prop:=w.heap[g]?=some (.cells (L.map u32V).toArray 197 (0,0))
section
variable {w w':World} {g:Nat} {L:List Nat}
theorem zCh.lt (h:zCh w g L):g<w.heap.size:=(Array.getElem?_eq_some_iff.1 h).1
theorem zCh.cell (h:zCh w g L) (i:Nat) (hi:i<L.length):w.cell? ⟨g,i,none⟩=some (.int .u32 ((L[i]:Nat):Int)):=by
 rw [aR w g i _ _ _ h];simp [hi,u32V]
theorem zCh.frozen (h:zCh w g L) (i:Nat):w.frozen? ⟨g,i,none⟩=false:=cO w g i _ _ h
theorem zCh.set (h:zCh w g L) (i x:Nat):zCh (w.setCell ⟨g,i,none⟩ (.int .u32 (x:Int))) g (L.set i x):=by
 have h1:(w.setCell ⟨g,i,none⟩ (.int .u32 (x:Int))).heap[g]?=some (.cells ((L.map u32V).toArray.setIfInBounds i (.int .u32 (x:Int))) 197 (0,0)):=by
  unfold zCh at h;simp [World.setCell,Array.getElem?_modify,h]
 unfold zCh;rw [h1,cP,List.map_set]
 rfl
theorem zCh.rd (h:zCh w g L) (k:Nat):Wds w (some ⟨g,0,none⟩) (L.take k):=fun _=>⟨g,0,rfl,fun i hi=>by
 have hi':i<L.length:=by rw [bN] at hi;omega
 rw [aQ,h.cell i hi',cQ];rfl⟩
theorem zCh.below (h:zCh w g L) (hb:Below w.heap.size w w'):zCh w' g L:=(hb.block g h.lt).trans h
theorem zCh.far (h:zCh w g L) {p:Addr} (hp:g≠p.block) (u:Value):zCh (w.setCell p u) g L:=(cR w p u g hp).trans h
theorem zCh.new (w:World) (n:Nat):zCh (w.alloc (.cells (Array.replicate n (.int .u32 0)) 197)) w.heap.size (List.replicate n 0):=by
 unfold zCh;rw [cS]
 congr 2
 apply Array.toList_inj.1
 simp [u32V]
end
theorem run_makeN1 {P:Program} (t e:TypeId) {z:Value} {bytes:Nat} (hT:ElemT P t e z 1 bytes) (n:Nat) (hb:bytes*n≤281474976710656) (h63:n≤9223372036854775807) (hz:z.cells=#[z]) (w:World) :
  (Instr.makeSlice t (.int .i64 (n:Int)) (.int .i64 (n:Int))).run P w = .ok (.slice (some ⟨w.heap.size,0,none⟩) n n) (w.alloc (.cells (Array.replicate n z) e)):=by
 obtain ⟨i,hi,hz0,hz1,hz2⟩:=info_parts hT.info
 have hb':(i.bytes:Int)*(n:Int)≤281474976710656:=by
  rw [hz2];have h:((bytes*n:Nat):Int)≤281474976710656:=za
  rwa [cT] at h
 have hr:=run_make (P:=P) w t e i z hT.ty hi hz0 .i64 .i64 n n za za hb' za;simp only [Int.toNat_natCast] at hr;rw [hz1,hz,cA] at hr
 have e1:madeCells #[z] n=Array.replicate n z:=by
  apply Array.toList_inj.1
  rw [toList_madeCells_one,Array.toList_replicate]
 rw [e1] at hr;exact hr
theorem elNat:ElemT Tryz.prog 85 197 (.int .u32 0) 1 4:=⟨Tryz.underlying85,zc,rfl,zd⟩
theorem mk_nat (n:Nat) (h:n≤1000000000) (w:World):(Instr.makeSlice 85 (.int .i64 (n:Int)) (.int .i64 (n:Int))).run Tryz.prog w = .ok (.slice (some ⟨w.heap.size,0,none⟩) n n) (w.alloc (.cells (Array.replicate n (.int .u32 0)) 197)) :=
 run_makeN1 _ _ elNat n za za rfl w
def TrimRel (w:World) (A:Option Addr) (c:Nat) (L:List Nat) (m:Nat) (a:Value) (wr:World):Prop :=
 wr=w∧∃ k:Nat,k=m∧k≤L.length∧a = .slice A k c∧zBw (L.take k)=zBw L
theorem trim_c (A:Option Addr) (c:Nat) (L:List Nat) (w:World) (hn:L.length≤1000000000) (hc:L.length≤c) (h:Wds w A L) :
  Calls Tryz.prog 172 #[.slice A L.length c] w (zAB (.slice A (zBw L).length c) w):=by
 go_enter Tryz.func172,Tryz.ntmps172
 go_wp2
 go_loopg [0] L.length (TrimRel w A c L)
 case atStart=>exact ⟨rfl,L.length,rfl,aB _,rfl,by rw [bX]⟩
 case round =>
  obtain ⟨hw,k,hm,hk,rfl,ht⟩:=hrel;subst hw;have HM:=zq hm;have HT:=zq ht;clear hm ht
  rcases bR k with h0 | h0
  ·subst h0
   go_wp2;go_ret
   refine zAB.mk ?_ rfl
   rw [←HT.o];rfl
  ·obtain ⟨j,rfl⟩:∃ j,k=j+1:=⟨k - 1,za⟩
   obtain ⟨b,o,rfl,hb,hcl⟩:=h.at_ za;have hj:j<L.length:=za;have hc0:=hcl j hj;rw [zBK] at hc0;clear hcl
   by_cases hz:L[j]=0
   ·have HZ:=zq hz
    rw [hz] at hc0;clear hz;go_wp2
    go_roundg (gk - 1)
    case measure=>have:=HM.o;omega
    case rel=>exact ⟨rfl,j,yi,za,ze,by rw [←HT.o,wtrim_take_zero hj HZ.o]⟩
   ·have hzb:(((L[j]:Nat):Int) == 0)=false:=by simpa using hz
    have HZ:=zq hz;clear hz;go_wp2;go_ret
    refine zAB.mk ?_ rfl
    have e:=HT.o;rw [zEp hj HZ.o] at e;have e2:=bH List.length e;rw [bN,bO hk] at e2;rw [←e2]
    rfl
theorem trim_n (A:Option Addr) (c:Nat) (L:List Nat) (w w0:World) (hn:L.length≤1000000000) (hc:L.length≤c) (h:Wds w A L) (hl:WLt B32 L) (hb:Below w0.heap.size w0 w) {n:Nat} (hv:zAf B32 L=n) :
  Calls Tryz.prog 172 #[.slice A L.length c] w (zDR n w0):=by
 have e:zBw L=zAc B32 n:=by rw [zCg zAu hl,hv]
 refine (trim_c A c L w hn hc h).mono ?_
 rintro _ _ ⟨rfl,rfl⟩;refine ⟨A,c,by rw [e],⟨?_,?_⟩,hb⟩
 ·rw [←e]
  intro hp;obtain ⟨b,o,rfl,hlt,hcl⟩:=h.at_ jr;refine ⟨b,o,rfl,fun i hi=>?_⟩
  have hi':i<L.length:=jr;rw [hcl i hi']
  have:(zBw L)[i]=L[i]:=by
   have h1:=zDi L;rw [cV h1 hi,cQ]
  rw [this]
 ·rw [←e];have:=wtrim_len L;omega
end Go.Proofs.YtieoifkdobcpiaaGreatDoor
namespace Dw
open Go Go.RowKit
theorem zBj {P:Program} {α:Type} {enc:α→List Value} {k:Nat} {ops:Array Oper} {rest:List Oper} {o:Oper} {a:Act} {w:World} {Q:Exit→Act→World→Prop}
  {e:TypeId} {z:Value} {bytes:Nat} (s x:Operand) (t:TypeId) (hT:ElemT P t e z k bytes) (hgd:o.guard=none) (ho:o.op = .call { callee:=.builtin .append,args:=#[s,x],argTypes:=#[t,t] })
  (base:Nat) (v:Value) (l:List α) (hs:a.eval s=v) (hown:zAT enc k w base e v l)
  (g cp:Nat) (y:α) (hx:a.eval x = .slice (some ⟨g,0,none⟩) 1 cp) (hnew:w.heap[g]?=some (.cells (enc y).toArray e (0,0)))
  (hk:(enc y).length=k) (hone:∀ u∈enc y,u.oneCell'=true) (hlen:l.length+1≤maxLen) (hbytes:(l.length+1)*bytes≤140737488355328) (hbase:base≤w.heap.size)
  (h:∀ A' c' w',zAT enc k w' base e (.slice A' (l.length+1) c') (l++[y])→w.grownBy w' v.ownBlock→Below base w w'→((Value.slice A' (l.length+1) c').ownBlock=v.ownBlock∨(Value.slice A' (l.length+1) c').ownBlock=some w.heap.size) →
   wpList P ops Q rest (a.put o.dst (.slice A' (l.length+1) c')) w'):wpList P ops Q (o::rest) a w:=by
 obtain ⟨i,hi,hz0,hz1,hz2⟩:=info_parts hT.info;refine wpList_append_own_at _ hgd s x t ho base e i z k bytes hT.ty hi hz0 hz1 hz2 hT.zs hT.pos v l.length (l.flatMap enc) hs hown ⟨g,0,none⟩ 1 cp (enc y) hx (by rw [hk];omega) ?_ hone hlen hbytes hbase ?_
 ·intro j u hj
  exact World.news_of_block hnew j u qe
 ·intro v' w' h1 h2 _ h4
  have ho':zAT enc k w' base e v' (l++[y]):=by
   unfold zAT
   simpa using h1
  obtain ⟨A',c',rfl⟩:∃ A' c',v' = .slice A' (l.length+1) c':=by
   rcases h1.2 with ⟨rfl,hn⟩ | ⟨g,cap,cur,rfl,_⟩
   ·omega
   ·exact ⟨_,_,rfl⟩
  exact h A' c' w' ho' h2 ((aS _ _).grown h2 hbase fun j hj=>(aT hown j hj).1) h4
end Dw
namespace Go.Proofs.YtieoifkdobcpiaaGreatDoor
open Go.RowKit Dw
def BT:Nat:=10000
theorem zAW:1<BT:=zd
theorem BT_pos:0<BT:=zd
theorem BT_eq:BT=10000:=rfl
abbrev i64N:Nat→Value:=fun n=>Value.int .i64 (n:Int)
abbrev Lms:=Rd1 i64N
structure Lt (w:World) (A:Option Addr) (c n:Nat):Prop where
 rd:Lms w A (zAc BT n)
 cap:(zAc BT n).length≤c
abbrev lmV (A:Option Addr) (c n:Nat):Value:=.slice A (zAc BT n).length c
theorem Lt.below {w w':World} {A:Option Addr} {c n:Nat} (h:Lt w A c n) (hb:Below w.heap.size w w'):Lt w' A c n:=⟨h.rd.below hb,h.cap⟩
theorem Lt.drew {w:World} {A:Option Addr} {c n:Nat} (h:Lt w A c n):Lt w.drew A c n:=⟨h.rd.drew,h.cap⟩
theorem Lt.drewN {w:World} {A:Option Addr} {c n:Nat} (h:Lt w A c n) (k:Nat):Lt (w.drewN k) A c n:=⟨h.rd.drewN k,h.cap⟩
def zDj (n:Nat) (w:World) (e:Ending) (w':World):Prop:=∃ A c,e = .returned (lmV A c n)∧Lt w' A c n∧Below w.heap.size w w'
abbrev encLm:Nat→List Value:=fun n=>[i64N n]
abbrev OwnI (w:World) (base:Nat) (v:Value) (l:List Nat):Prop:=zAT encLm 1 w base 3 v l
theorem elI:ElemT Tryz.prog 27 3 (.int .i64 0) 1 8:=⟨Tryz.underlying27,zc,rfl,zd⟩
def ArrI (w:World) (g:Nat) (L:List Nat):Prop:=w.heap[g]?=some (.cells (L.map i64N).toArray 3 (0,0))
section
variable {w w':World} {g:Nat} {L:List Nat}
theorem ArrI.lt (h:ArrI w g L):g<w.heap.size:=(Array.getElem?_eq_some_iff.1 h).1
theorem ArrI.cell (h:ArrI w g L) (i:Nat) (hi:i<L.length):w.cell? ⟨g,i,none⟩=some (.int .i64 ((L[i]:Nat):Int)):=by
 rw [aR w g i _ _ _ h];simp [hi]
theorem ArrI.frozen (h:ArrI w g L) (i:Nat):w.frozen? ⟨g,i,none⟩=false:=cO w g i _ _ h
theorem ArrI.set (h:ArrI w g L) (i x:Nat):ArrI (w.setCell ⟨g,i,none⟩ (.int .i64 (x:Int))) g (L.set i x):=by
 have h1:(w.setCell ⟨g,i,none⟩ (.int .i64 (x:Int))).heap[g]?=some (.cells ((L.map i64N).toArray.setIfInBounds i (.int .i64 (x:Int))) 3 (0,0)):=by
  unfold ArrI at h;simp [World.setCell,Array.getElem?_modify,h]
 unfold ArrI;rw [h1,cP,List.map_set]
theorem ArrI.rd (h:ArrI w g L):Lms w (some ⟨g,0,none⟩) L:=fun _=>⟨g,0,rfl,fun i hi=>by
 rw [aQ,h.cell i hi]⟩
theorem ArrI.below (h:ArrI w g L) (hb:Below w.heap.size w w'):ArrI w' g L:=(hb.block g h.lt).trans h
theorem ArrI.drewN (h:ArrI w g L) (n:Nat):ArrI (w.drewN n) g L:=h
theorem ArrI.new (w:World) (n:Nat):ArrI (w.alloc (.cells (Array.replicate n (.int .i64 0)) 3)) w.heap.size (List.replicate n 0):=by
 unfold ArrI;rw [cS]
 congr 2
 apply Array.toList_inj.1
 simp
end
theorem mk_ints (n:Nat) (h:n≤1000000000) (w:World):(Instr.makeSlice 27 (.int .i64 (n:Int)) (.int .i64 (n:Int))).run Tryz.prog w = .ok (.slice (some ⟨w.heap.size,0,none⟩) n n) (w.alloc (.cells (Array.replicate n (.int .i64 0)) 3)) :=
 run_makeN1 _ _ elI n za za rfl w
def TrimLRel (w:World) (L:List Nat) (m:Nat) (i:Value) (wr:World):Prop :=
 wr=w∧∃ k:Nat,k=m∧k≤L.length∧i = .int .i64 k∧zBw (L.take k)=zBw L
theorem trimL_c (A:Option Addr) (c:Nat) (L:List Nat) (w:World) (hn:L.length≤1000000000) (hc:L.length≤c) (h:Lms w A L) :
  Calls Tryz.prog 85 #[.slice A L.length c] w (zAB (.slice A (zBw L).length c) w):=by
 go_enter Tryz.func85,Tryz.ntmps85
 go_wp2
 go_loopg [3] L.length (TrimLRel w L)
 case atStart=>exact ⟨rfl,L.length,rfl,aB _,rfl,by rw [bX]⟩
 case round =>
  obtain ⟨hw,k,hm,hk,rfl,ht⟩:=hrel;subst hw;have HM:=zq hm;have HT:=zq ht;clear hm ht
  rcases bR k with h0 | h0
  ·subst h0
   go_wp2;go_ret
   refine zAB.mk ?_ rfl
   rw [←HT.o];rfl
  ·obtain ⟨j,rfl⟩:∃ j,k=j+1:=⟨k - 1,za⟩
   obtain ⟨b,o,rfl,hb,hcl⟩:=h.at_ za;have hj:j<L.length:=za;have hc0:=hcl j hj;clear hcl
   by_cases hz:L[j]=0
   ·have HZ:=zq hz
    rw [hz] at hc0;clear hz;go_wp2
    go_roundg (gk - 1)
    case measure=>have:=HM.o;omega
    case rel=>exact ⟨rfl,j,yi,za,zi,by rw [←HT.o,wtrim_take_zero hj HZ.o]⟩
   ·have hzb:(((L[j]:Nat):Int) == 0)=false:=by simpa using hz
    have HZ:=zq hz;clear hz;go_wp2;go_ret
    refine zAB.mk ?_ rfl
    have e:=HT.o;rw [zEp hj HZ.o] at e;have e2:=bH List.length e;rw [bN,bO hk] at e2;rw [←e2]
    rfl
theorem Lms.trim {w:World} {A:Option Addr} {L:List Nat} (h:Lms w A L):Lms w A (zBw L):=by
 intro hp;obtain ⟨b,o,rfl,hlt,hcl⟩:=h.at_ jr;refine ⟨b,o,rfl,fun i hi=>?_⟩
 have hi':i<L.length:=jr;rw [hcl i hi']
 have:(zBw L)[i]=L[i]:=by
  have h1:=zDi L;rw [cV h1 hi,cQ]
 rw [this]
theorem trimL_n (A:Option Addr) (c:Nat) (L:List Nat) (w w0:World) (hn:L.length≤1000000000) (hc:L.length≤c) (h:Lms w A L) (hl:WLt BT L) (hb:Below w0.heap.size w0 w) {n:Nat} (hv:zAf BT L=n) :
  Calls Tryz.prog 85 #[.slice A L.length c] w (zDj n w0):=by
 have e:zBw L=zAc BT n:=by rw [zCg zAW hl,hv]
 refine (trimL_c A c L w hn hc h).mono ?_
 rintro _ _ ⟨rfl,rfl⟩;refine ⟨A,c,by rw [e],⟨?_,?_⟩,hb⟩
 ·rw [←e];exact h.trim
 ·rw [←e];have:=wtrim_len L;omega
theorem trimL_x (A:Option Addr) (c:Nat) (L:List Nat) (w:World) (hn:L.length≤1000000000) (hc:L.length≤c) (h:Lms w A L) (hl:WLt BT L) {n:Nat} (hv:zAf BT L=n) :
  Calls Tryz.prog 85 #[.slice A L.length c] w (zAB (lmV A c n) w)∧Lt w A c n:=by
 have e:zBw L=zAc BT n:=by rw [zCg zAW hl,hv]
 refine ⟨?_,?_,?_⟩
 ·have:=trimL_c A c L w hn hc h
  rw [e] at this;exact this
 ·rw [←e];exact h.trim
 ·rw [←e];have:=wtrim_len L;omega
theorem lms_set {w:World} {A:Option Addr} {l:List Nat} (h:Lms w A l) {g i:Nat} (hg:∀ b o,A=some ⟨b,o,none⟩→b≠g) (u:Value):Lms (w.setCell ⟨g,i,none⟩ u) A l:=fun hl=>by
 obtain ⟨b,o,rfl,hc⟩:=h hl;refine ⟨b,o,rfl,fun j hj=>?_⟩
 rw [World.cell?_of_block (w:=w) (cR w ⟨g,i,none⟩ u b (hg b o rfl))];exact hc j hj
theorem own_capI {w:World} {base:Nat} {A:Option Addr} {n c:Nat} {l:List Nat} (h:OwnI w base (.slice A n c) l):l.length≤c∧n=l.length:=by
 rcases h.2 with ⟨e,hn⟩ | ⟨g,cap,cur,e,hb,hgg,hnc,_,hsz,htake⟩
 ·injection e with _ e2 e3
  omega
 ·injection e with _ e2 e3
  subst e3;exact ⟨za,e2⟩
def CmpLRel (w:World) (l r:List Nat) (m:Nat) (i:Value) (wr:World):Prop :=
 (∃ n,wr=w.drewN n)∧m≤l.length∧(∃ z:Int,z=(m:Int) - 1∧i = .int .i64 z)∧l.drop m=r.drop m
theorem cmpL_l (A A2:Option Addr) (c c2:Nat) (l r:List Nat) (w:World) (h:Lms w A l) (h2:Lms w A2 r) (hl:WLt BT l) (hr:WLt BT r) (hn:l.length≤1000000000) (he:l.length=r.length) :
  Calls Tryz.prog 41 #[.slice A l.length c,.slice A2 l.length c2] w (zBs (.int .i64 (zCZ (zAf BT l) (zAf BT r))) w):=by
 have HE:=zq he;clear he
 go_enter Tryz.func41,Tryz.ntmps41
 go_wp2
 go_loopg [5] l.length (CmpLRel w l r)
 case atStart=>exact ⟨⟨0,rfl⟩,aB _,⟨_,rfl,zi⟩,by rw [aA (aB _),aA (by rw [HE.o];omega)]⟩
 case round =>
  obtain ⟨⟨nd,hw⟩,hk,⟨z,hz,rfl⟩,hd⟩:=hrel;subst hw;have HD:=zq hd;clear hd
  rcases bR gk with h0 | h0
  ·subst h0
   obtain rfl:z = -1:=hz;go_wp2;go_ret
   refine zBs.mk ?_ ⟨_,rfl⟩
   have e:l=r:=by simpa using HD.o
   rw [e,zCx rfl]
   rfl
  ·obtain ⟨j,rfl⟩:∃ j,gk=j+1:=⟨gk - 1,za⟩
   obtain rfl:z=(j:Int):=za;clear hz;have hjr:j<r.length:=by have:=HE.o;omega
   obtain ⟨b,o,rfl,hb,hcl⟩:=h.at_ za;obtain ⟨b2,o2,rfl,hb2,hcl2⟩:=h2.at_ za;have hc0:=hcl j za;have hc1:=hcl2 j hjr;clear hcl hcl2
   by_cases hlt:l[j]<r[j]
   ·have hltb:decide (l[j]<r[j])=true:=cW hlt
    have HQ:=zq hlt;clear hlt;go_wp2
    go_quiet (fail)
    go_wp2;go_ret
    refine zBs.mk ?_ (by rw [World.drewN_drewN];exact ⟨_,rfl⟩)
    rw [zBF (wval_lt_of hl HE.o za hjr HD.o HQ.o)]
    rfl
   have hltb:decide (l[j]<r[j])=false:=cX hlt
   by_cases hgt:r[j]<l[j]
   ·have hgtb:decide (r[j]<l[j])=true:=cW hgt
    have HQ:=zq hgt;clear hlt hgt;go_wp2
    go_quiet (fail)
    go_wp2
    go_quiet (fail)
    go_wp2;go_ret
    refine zBs.mk ?_ ji
    rw [zBy (wval_lt_of hr HE.o.symm hjr za HD.o.symm HQ.o)]
    rfl
   have hgtb:decide (r[j]<l[j])=false:=cX hgt;have HQ:Hid (l[j]=r[j]):=by show _=_;omega
   clear hlt hgt;go_wp2
   go_quiet (fail)
   go_wp2
   go_quiet (fail)
   go_wp2
   go_roundg j
   case measure=>omega
   case rel =>
    refine ⟨⟨_,rfl⟩,za,⟨_,rfl,zi⟩,?_⟩
    rw [aF za,aF hjr,HQ.o,HD.o]
theorem cmpL_len (A A2:Option Addr) (c c2 n m:Nat) (w:World) (hne:n≠m) :
  Calls Tryz.prog 41 #[.slice A n c,.slice A2 m c2] w (zBs (.int .i64 (zCZ n m)) w):=by
 have hnb:((n:Int) != (m:Int))=true:=zg
 rcases aU n m with hlt | hge
 ·have hltb:decide (n<m)=true:=cW hlt
  have hv:zCZ n m = -1:=zBF hlt;rw [hv];have HV:=zq hv;clear hv
  go_enter Tryz.func41,Tryz.ntmps41
  go_wp2;go_ret
  exact zBs.mk rfl ⟨0,rfl⟩
 ·have hltb:decide (n<m)=false:=cX za
  have hv:zCZ n m=1:=zBy za;rw [hv];have HV:=zq hv;clear hv
  go_enter Tryz.func41,Tryz.ntmps41
  go_wp2;go_ret
  exact zBs.mk rfl ⟨0,rfl⟩
theorem cmpL_c (A A2:Option Addr) (c c2 a b:Nat) (w:World) (h:Lms w A (zAc BT a)) (h2:Lms w A2 (zAc BT b)) (hn:(zAc BT a).length≤1000000000) :
  Calls Tryz.prog 41 #[lmV A c a,lmV A2 c2 b] w (zBs (.int .i64 (zCZ a b)) w):=by
 by_cases he:(zAc BT a).length=(zAc BT b).length
 ·have:=cmpL_l A A2 c c2 (zAc BT a) (zAc BT b) w h h2 (zAK zAW a) (zAK zAW b) hn he
  rw [zAl zAW,zAl zAW] at this;unfold lmV;rw [←he];exact this
 ·have:=cmpL_len A A2 c c2 _ _ w he
  have e:zCZ (zAc BT a).length (zAc BT b).length=zCZ a b:=by
   rcases aU (zAc BT a).length (zAc BT b).length with h1 | h1
   ·rw [zBF h1,zBF (lt_of_len zAW h1)]
   ·rw [zBy za,zBy (lt_of_len zAW za)]
  rw [e] at this;exact this
end Go.Proofs.YtieoifkdobcpiaaGreatDoor
