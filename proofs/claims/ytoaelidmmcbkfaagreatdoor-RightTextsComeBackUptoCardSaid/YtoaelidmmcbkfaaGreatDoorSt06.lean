/- Parts of the proof, joined: A title as text, plainly; how long its parts are. Lines and zAf of a. -/
import Derived.Test.YtoaelidmmcbkfaaGreatDoorSt05
import Derived.Lib.SplitLaws
import Derived.Lib.IndexBytes
import Derived.Shelf.Strconv.Atoi
import Derived.Shelf.Strings.Split
import Derived.Shelf.Strings.Cut
import Derived.Shelf.Strings.Prefix
set_option maxRecDepth 100000
set_option maxHeartbeats 8000000
namespace Go.Proofs.YtoaelidmmcbkfaaGreatDoor
open Dw
abbrev spB:BA:=⟨#[32]⟩
def lnL (ws:List BA):List UInt8:=32::32::(Lib.join (ws.map (·.data.toList)) [32]++[10])
def ifL (b:Bool) (l:List UInt8):List UInt8:=if b=true then l else []
abbrev wThing:BA:=⟨#[116,104,105,110,103]⟩
abbrev wFrom:BA:=⟨#[102,114,111,109]⟩
abbrev wTo:BA:=⟨#[116,111]⟩
abbrev wPart:BA:=⟨#[112,97,114,116]⟩
abbrev wExcl:BA:=⟨#[101,120,99,108,117,115,105,118,101]⟩
abbrev wSub:BA:=⟨#[115,117,98]⟩
abbrev wIn:BA:=⟨#[105,110]⟩
abbrev wOut:BA:=⟨#[111,117,116]⟩
abbrev wFor:BA:=⟨#[102,111,114]⟩
abbrev wBegin:BA:=⟨#[98,101,103,105,110]⟩
abbrev wEnd:BA:=⟨#[101,110,100]⟩
abbrev wShare:BA:=⟨#[115,104,97,114,101]⟩
abbrev wEnds:BA:=⟨#[101,110,100,115]⟩
def kdS (k:Int):BA :=
 if k=1 then ⟨#[111,114,105,103,105,110]⟩ else if k=2 then ⟨#[97,115,115,105,103,110]⟩ else if k=3 then ⟨#[108,105,99,101,110,99,101]⟩
 else if k=4 then ⟨#[101,110,100]⟩ else ⟨#[112,97,115,115]⟩
abbrev ratB (nu de:BA):BA:=(nu++⟨#[47]⟩)++de
def headL (d:De):List UInt8:=(⟨#[100,101,101,100,32]⟩:BA).data.toList++d.id.data.toList++[32]++(zBc d.day).data.toList++[32]++(kdS d.kd).data.toList++[10]
def arL (a:Ar):List UInt8:=lnL [if a.out=true then wOut else wIn,a.rg]
def usL (u:BA):List UInt8:=lnL [wFor,u]
def shL (s:Sh):List UInt8:=lnL [wShare,s.pt,ratB s.nu s.de]
def zAr {α:Type} (f:α→List UInt8) (l:List α):List UInt8:=(l.map f).flatten
def preA (d:De):List UInt8 :=
 headL d++ifL (zAd d.kd || decide (d.kd=1)) (lnL [wThing,d.th])++ifL (zAd d.kd || decide (d.kd=5)) (lnL [wFrom,d.fr])++ifL (zAd d.kd) (lnL [wTo,d.to_])
  ++ifL (decide (d.kd=2)) (lnL [wPart,ratB d.nu d.de])++ifL d.ex (lnL [wExcl])++ifL d.sb (lnL [wSub])
def midA (d:De):List UInt8:=lnL [wBegin,zBc d.bg]++ifL (zAd d.kd) (lnL [wEnd,zBc d.en])
def endA (d:De):List UInt8:=ifL (decide (d.kd=4)) (lnL [wEnds,d.ot])
def zBN (d:De):List UInt8:=preA d++zAr arL d.ar++zAr usL d.us++midA d++zAr shL d.sh++endA d
def regL (r:Rg):List UInt8:=(⟨#[114,101,103,105,111,110,32]⟩:BA).data.toList++r.nm.data.toList++[32]++(if r.par=emp then [45] else r.par.data.toList)++[10]
def useL (u:BA):List UInt8:=(⟨#[117,115,101,32]⟩:BA).data.toList++u.data.toList++[10]
def txtL (rs:List Rg) (us:List BA) (ds:List De):List UInt8:=zAr regL rs++zAr useL us++zAr zBN ds
def txF (rs:List Rg) (us:List BA) (ds:List De):BA×Int :=
 if zDh rs us ds≠0 then (emp,zDh rs us ds) else if 500000<(txtL rs us ds).length then (emp,2) else (⟨(txtL rs us ds).toArray⟩,0)
theorem flatL_snoc {α:Type} (f:α→List UInt8) (l:List α) (x:α):zAr f (l++[x])=zAr f l++f x:=by simp [zAr]
theorem zCx {α:Type} (f:α→List UInt8) (l:List α) {k:Nat} (hk:k<l.length):zAr f (l.take (k+1))=zAr f (l.take k)++f l[k]:=by
 rw [bA hk,flatL_snoc]
theorem zCi {α:Type} (f:α→List UInt8) (l:List α) {k:Nat} (hk:l.length≤k):zAr f (l.take k)=zAr f l:=by rw [cH hk]
theorem flatL_len {α:Type} (f:α→List UInt8) (m:Nat):∀ (l:List α),(∀ x∈l,(f x).length≤m)→(zAr f l).length≤l.length*m
 | [],_=>by simp [zAr]
 | x::r,h=>by
  have h1:=flatL_len f m r fun y hy=>h y (aJ _ hy)
  have h2:=h x aK;have e:(zAr f (x::r)).length=(f x).length+(zAr f r).length:=by simp [zAr]
  rw [e,aM,Nat.succ_mul];omega
theorem flatL_mono {α:Type} (f:α→List UInt8) (l:List α) (k:Nat):(zAr f (l.take k)).length≤(zAr f l).length:=by
 have:zAr f l=zAr f (l.take k)++zAr f (l.drop k):=by unfold zAr;rw [←List.flatten_append,←dC,List.take_append_drop]
 rw [this,cS];omega
theorem ifL_true (l:List UInt8):ifL true l=l:=rfl
theorem ifL_false (l:List UInt8):ifL false l=[]:=rfl
theorem ifL_len (b:Bool) (l:List UInt8):(ifL b l).length≤l.length:=by cases b<;>simp [ifL]
theorem arL_two (a:Ar):ifL (!a.out) (lnL [wIn,a.rg])++ifL a.out (lnL [wOut,a.rg])=arL a:=by
 unfold arL
 cases a.out<;>simp [ifL]
structure DSz (d:De):Prop where
 id:d.id.size≤40
 day:0≤d.day∧d.day≤200000
 kd:1≤d.kd∧d.kd≤5
 th:d.th.size≤40
 fr:d.fr.size≤40
 to_:d.to_.size≤40
 nu:d.nu.size≤2001
 de:d.de.size≤2001
 arl:d.ar.length≤100
 ar:∀ a∈d.ar,a.rg.size≤40
 usl:d.us.length≤20
 us:∀ u∈d.us,u.size≤40
 bg:0≤d.bg∧d.bg≤200000
 en:0≤d.en∧d.en≤200000
 shl:d.sh.length≤20
 sh:∀ s∈d.sh,s.pt.size≤40∧s.nu.size≤2001∧s.de.size≤2001
 ot:d.ot.size≤40
theorem emp_size:emp.size≤40:=zc
theorem isNm_sizeT {s:BA} (h:zAC s=true):1≤s.size∧s.size≤40:=by
 unfold zAC at h;simp only [cU,aH] at h;exact ⟨h.1.1.1.1,h.1.1.1.2⟩
theorem zCc {s:BA} (h:zAC s=true):s.size≤40:=(isNm_sizeT h).2
theorem day_of {n:Int} (h:zCG n=true):0≤n∧n≤200000:=by unfold zCG at h;simpa using h
theorem absN_size_le (s:BA):s.size≤(zBm s).size+1:=by
 show s.size≤(absL s).toArray.size+1
 have e:s.data.toList.length=s.size:=cZ;unfold absL
 split
 ·rw [List.size_toArray,List.length_tail];omega
 ·rw [List.size_toArray];omega
theorem ratF_size {nu de:BA} (h:ratF nu de=0):nu.size≤2001∧de.size≤2001:=by
 have h1:=zDa h;have h2:=absN_size_le nu;omega
theorem area_size {rs:List Rg} {a:List Ar} (hr:∀ i (h:i<rs.length),zAC (rs[i]).nm=true) (h:chkA rs a=0):∀ x∈a,x.rg.size≤40:=by
 unfold chkA at h
 split at h
 ·cases h
 split at h
 ·next f hf =>
  exfalso
  obtain ⟨k,_,hk⟩:=List.exists_of_findSome?_eq_some hf;unfold zBr at hk
  split at hk
  ·cases hk;cases h
  ·split at hk
   ·cases hk;cases h
   ·cases hk
 next hn =>
 rw [List.findSome?_eq_none_iff] at hn;intro x hx;obtain ⟨k,hk,rfl⟩:=bL hx;have:=hn k qj;unfold zBr at this;rw [zDn hk] at this
 split at this
 ·cases this
 next h1 =>
 cases hi:idx rs (a[k]).rg with
 | none=>exact absurd hi h1
 | some j =>
  obtain ⟨hj,he⟩:=zCv hi;rw [←he];exact zCc (hr j hj)
theorem uses_size {us l:List BA} (hu:∀ u∈us,u.size≤40) (h:useF us l=0):∀ u∈l,u.size≤40:=by
 unfold useF at h
 split at h
 ·next f hf =>
  exfalso
  obtain ⟨k,_,hk⟩:=List.exists_of_findSome?_eq_some hf;unfold zBh at hk
  split at hk
  ·cases hk;cases h
  ·split at hk
   ·cases hk;cases h
   ·cases hk
 next hn =>
 rw [List.findSome?_eq_none_iff] at hn;intro x hx;obtain ⟨k,hk,rfl⟩:=bL hx;have:=hn k qj;have e1:usAt l k=l[k]:=by unfold usAt;rw [List.getD_eq_getElem?_getD,List.getElem?_eq_getElem hk];rfl
 unfold zBh at this;rw [e1] at this
 split at this
 ·cases this
 next h1=>exact hu _ (memS_true.1 yj)
theorem shs_size {k:Int} {l:List Sh} (h:shF k l=0):∀ s∈l,s.pt.size≤40∧s.nu.size≤2001∧s.de.size≤2001:=by
 unfold shF at h
 split at h
 ·cases h
 split at h
 ·cases h
 have key:∀ i f,zAW l i=some f→f≠0:=fun i f hf=>by
  unfold zAW at hf
  split at hf
  ·cases hf;simp
  ·split at hf
   ·cases hf;simp
   ·split at hf
    ·next h1=>cases hf;exact h1
    ·split at hf
     ·cases hf;simp
     ·cases hf
 split at h
 ·next f hf =>
  exfalso
  obtain ⟨i,_,hi⟩:=List.exists_of_findSome?_eq_some hf;exact key i f hi h
 next hn =>
 rw [List.findSome?_eq_none_iff] at hn;intro x hx;obtain ⟨i,hi,rfl⟩:=bL hx;have:=hn i yt;unfold zAW at this;rw [ptAt_of hi,shD_of hi] at this
 split at this
 ·cases this
 next h1 =>
 split at this
 ·cases this
 split at this
 ·cases this
 next h3=>exact ⟨zCc yj,ratF_size (by simpa using h3)⟩
theorem chkD_size {rs:List Rg} {us:List BA} {pre:List De} {d:De} (h:chkD rs us pre d=0) (hul:us.length≤20) (hr:∀ i (h:i<rs.length),zAC (rs[i]).nm=true) (hu:∀ u∈us,u.size≤40)
  (hp:∀ p∈pre,p.id.size≤40):DSz d:=by
 obtain ⟨l1,l2,l3⟩:=chkD_lens h hul;unfold chkD at h
 split at h
 ·cases h
 next h1 =>
 split at h
 ·cases h
 next h2 =>
 split at h
 ·cases h
 split at h
 ·cases h
 split at h
 ·cases h
 next h5 =>
 split at h
 ·cases h
 next hnd =>
 have hid:d.id.size≤40:=zCc yj;have hday:=day_of (n:=d.day) (by simpa using h2)
 have hkd:1≤d.kd∧d.kd≤5:=za;simp only [zAq,Bool.not_eq_true,Bool.or_eq_false_iff,Bool.and_eq_false_iff] at hnd;obtain ⟨⟨⟨⟨⟨⟨⟨⟨n1,n2⟩,n3⟩,n4⟩,n5⟩,n6⟩,n7⟩,n8⟩,n9⟩:=hnd;have e1:zAd d.kd=false→d.kd≠1→d.th=emp:=fun a b=>by rcases n1 with n | n<;>simp_all
 have e2:zAd d.kd=false→d.kd≠5→d.fr=emp:=fun a b=>by rcases n2 with n | n<;>simp_all
 have e3:zAd d.kd=false→d.to_=emp:=fun a=>by rcases n3 with n | n<;>simp_all
 have e4:d.kd≠2→d.nu=emp∧d.de=emp:=fun a=>by rcases n4 with n | n<;>simp_all
 have e6:zAd d.kd=false→d.ar=[]∧d.us=[]:=fun a=>by rcases n6 with n | n<;>simp_all
 have e7:zAd d.kd=false→d.en=0:=fun a=>by rcases n7 with n | n<;>simp_all
 have e8:d.kd≠1→d.kd≠5→d.sh=[]:=fun a b=>by rcases n8 with n | n<;>simp_all
 have e9:d.kd≠4→d.ot=emp:=fun a=>by rcases n9 with n | n<;>simp_all
 have z:=emp_size;have z2:emp.size≤2001:=zc
 split at h
 ·next hg =>
  have hk:d.kd=2∨d.kd=3:=by unfold zAd at hg;simpa using hg
  unfold giftF at h
  split at h
  ·cases h
  next g1 =>
  split at h
  ·cases h
  split at h
  ·next h1=>exact absurd h h1
  next g3 =>
  split at h
  ·next h1=>exact absurd h h1
  next g4 =>
  split at h
  ·cases h
  split at h
  ·next h1=>exact absurd h h1
  next g6 =>
  split at h
  ·cases h
  next g7 =>
  have s1:d.th.size≤40:=zCc (by cases hh:zAC d.th with | true=>rfl | false=>exact absurd (.inl hh) g1)
  have s2:d.fr.size≤40:=zCc (by cases hh:zAC d.fr with | true=>rfl | false=>exact absurd (.inr (.inl hh)) g1)
  have s3:d.to_.size≤40:=zCc (by cases hh:zAC d.to_ with | true=>rfl | false=>exact absurd (.inr (.inr hh)) g1)
  have s4:0≤d.bg∧d.bg≤200000:=day_of (by cases hh:zCG d.bg with | true=>rfl | false=>exact absurd (.inl hh) g7)
  have s5:0≤d.en∧d.en≤200000:=day_of (by cases hh:zCG d.en with | true=>rfl | false=>exact absurd (.inr hh) g7)
  have s6:d.nu.size≤2001∧d.de.size≤2001:=by
   by_cases h2:d.kd=2
   ·have g3':parF d=0:=by simpa using g3
    unfold parF at g3';rw [aC (by rw [h2];simp)] at g3'
    split at g3'
    ·next h1=>exact absurd g3' h1
    ·next h1=>exact ratF_size yj
   ·obtain ⟨a,b⟩:=e4 h2
    rw [a,b];exact ⟨z2,z2⟩
  have s7:d.sh=[]:=e8 za za;exact ⟨hid,hday,hkd,s1,s2,s3,s6.1,s6.2,l1,area_size hr (by simpa using g4),l2,uses_size hu (by simpa using g6),s4,s5,l3,by rw [s7];simp,by rw [e9 za];exact z⟩
 ·next hg =>
  have hg':zAd d.kd=false:=by simpa using hg
  have hk:¬ (d.kd=2∨d.kd=3):=fun hh=>by apply hg;unfold zAd;simpa using hh
  obtain ⟨a6,b6⟩:=e6 hg';obtain ⟨a4,b4⟩:=e4 za
  split at h
  ·next h4 =>
   unfold endF at h
   split at h
   ·cases h
   next g1 =>
   split at h
   ·cases h
   next g2 =>
   have s9:d.ot.size≤40:=by
    rw [Bool.not_eq_false,List.any_eq_true] at g2;obtain ⟨p,hpp,hq⟩:=g2;simp only [cU,aH] at hq;rw [←hq.1];exact hp p hpp
   exact ⟨hid,hday,hkd,by rw [e1 hg' za];exact z,by rw [e2 hg' za];exact z,by rw [e3 hg'];exact z,by rw [a4];exact z2,by rw [b4];exact z2,l1,by rw [a6];simp,l2,by rw [b6];simp,
    day_of (by simpa using g1),by rw [e7 hg'];omega,l3,by rw [e8 za za];simp,s9⟩
  ·next h4 =>
   unfold divF at h
   split at h
   ·cases h
   next g1 =>
   split at h
   ·cases h
   next g2 =>
   split at h
   ·next h1=>exact absurd h h1
   next g3 =>
   have s1:d.th.size≤40:=by
    by_cases h1:d.kd=1
    ·exact zCc (by cases hh:zAC d.th with | true=>rfl | false=>exact absurd (.inl ⟨h1,hh⟩) g1)
    ·rw [e1 hg' h1];exact z
   have s2:d.fr.size≤40:=by
    by_cases h1:d.kd=5
    ·exact zCc (by cases hh:zAC d.fr with | true=>rfl | false=>exact absurd (.inr ⟨h1,hh⟩) g1)
    ·rw [e2 hg' h1];exact z
   exact ⟨hid,hday,hkd,s1,s2,by rw [e3 hg'];exact z,by rw [a4];exact z2,by rw [b4];exact z2,l1,by rw [a6];simp,l2,by rw [b6];simp,
    day_of (by simpa using g2),by rw [e7 hg'];omega,l3,shs_size (by simpa using g3),by rw [e9 h4];exact z⟩
theorem uses_nm {rs:List Rg} {us:List BA} {ds:List De} (h:zDh rs us ds=0):∀ u∈us,zAC u=true:=by
 unfold zDh at h
 split at h
 ·next h1=>exact absurd h h1
 split at h
 ·cases h
 split at h
 ·cases h
 split at h
 ·next f hf =>
  exfalso
  obtain ⟨k,_,hk⟩:=List.exists_of_findSome?_eq_some hf;unfold zBu at hk
  split at hk
  ·cases hk;cases h
  ·split at hk
   ·cases hk;cases h
   ·cases hk
 ·next hn =>
  rw [List.findSome?_eq_none_iff] at hn;intro x hx;obtain ⟨k,hk,rfl⟩:=bL hx;have:=hn k qj;have e1:usAt us k=us[k]:=by unfold usAt;rw [List.getD_eq_getElem?_getD,List.getElem?_eq_getElem hk];rfl
  unfold zBu at this;rw [e1] at this
  split at this
  ·cases this
  next h1=>simpa using h1
theorem chkD_id {rs:List Rg} {us:List BA} {pre:List De} {d:De} (h:chkD rs us pre d=0):zAC d.id=true:=by
 unfold chkD at h
 split at h
 ·cases h
 next h1=>simpa using h1
theorem chkT_size {rs:List Rg} {us:List BA} {ds:List De} (h:zDh rs us ds=0) :
  (rs.length≤200∧∀ r∈rs,r.nm.size≤40∧r.par.size≤40)∧(us.length≤20∧∀ u∈us,u.size≤40)∧(ds.length≤200∧∀ d∈ds,DSz d):=by
 obtain ⟨h1,h2,h3⟩:=chkT_zero h;have hg:=good_of h1;have hu:=uses_nm h;have hd:=(chkT_deeds h).2;refine ⟨⟨hg.len,fun r hr=>?_⟩,⟨h2,fun u hu'=>zCc (hu u hu')⟩,⟨h3,fun d hd'=>?_⟩⟩
 ·obtain ⟨i,hi,rfl⟩:=bL hr
  refine ⟨zCc (hg.nm i hi),?_⟩
  by_cases hp:(rs[i]).par=emp
  ·rw [hp];exact emp_size
  ·obtain ⟨j,hj⟩:=hg.par i hi hp
   obtain ⟨hj',he⟩:=zCv hj;rw [←he];exact zCc (hg.nm j hj')
 ·obtain ⟨k,hk,rfl⟩:=bL hd'
  refine chkD_size (hd k hk) h2 hg.nm (fun u hu'=>zCc (hu u hu')) fun p hp=>?_
  rw [List.mem_take_iff_getElem] at hp;obtain ⟨j,hj,rfl⟩:=hp;exact zCc (chkD_id (hd j za))
abbrev Ln:=List UInt8
def spl (c:UInt8):Ln→List Ln
 | []=>[[]]
 | b::l=>if b=c then []::spl c l else match spl c l with
  | []=>[[b]]
  | h::t=>(b::h)::t
def joi (c:UInt8):List Ln→Ln
 | []=>[]
 | [a]=>a
 | a::b::l=>a++c::joi c (b::l)
section
variable {c:UInt8} {l a:Ln}
theorem spl_ne:∀ l:Ln,spl c l≠[]
 | []=>by simp [spl]
 | b::l=>by
  unfold spl
  split
  ·simp
  ·split<;>simp
theorem zCL {t:List Ln} (h:t≠[]):joi c (a::t)=a++c::joi c t:=by
 cases t with
 | nil=>exact absurd rfl h
 | cons b t=>rfl
theorem joi_spl:∀ l:Ln,joi c (spl c l)=l
 | []=>rfl
 | b::l=>by
  have ih:=joi_spl l;unfold spl
  by_cases h:b=c
  ·rw [aE h,zCL (spl_ne l),ih,h];rfl
  ·rw [aC h]
   cases hs:spl c l with
   | nil=>exact absurd hs (spl_ne l)
   | cons x t =>
    rw [hs] at ih
    cases t with
    | nil=>exact aV (b::·) ih
    | cons y t=>exact aV (b::·) ih
theorem spl_one:∀ {a:Ln},c∉a→spl c a=[a]
 | [],_=>rfl
 | b::a,h=>by
  have hb:b≠c:=fun e=>h (by rw [e];exact aK)
  have ih:=spl_one (a:=a) fun hm=>h (aJ _ hm)
  unfold spl;rw [aC hb,ih]
theorem spl_app:∀ {a:Ln} (l:Ln),c∉a→spl c (a++c::l)=a::spl c l
 | [],l,_=>by
  show spl c (c::l)=_
  rw [spl,aE rfl]
 | b::a,l,h=>by
  have hb:b≠c:=fun e=>h (by rw [e];exact aK)
  have ih:=spl_app (a:=a) l fun hm=>h (aJ _ hm)
  show spl c (b::(a++c::l))=_
  rw [spl,aC hb,ih]
theorem spl_joi:∀ {t:List Ln},t≠[]→(∀ p∈t,c∉p)→spl c (joi c t)=t
 | [],h,_=>absurd rfl h
 | [a],_,h=>spl_one (h a aK)
 | a::b::t,_,h=>by
  rw [zCL zg,spl_app _ (h a aK),spl_joi zg fun p hp=>h p (aJ _ hp)]
end
def unl (L:List Ln):Ln:=(L.map fun l=>l++[10]).flatten
theorem unl_cons (a:Ln) (L:List Ln):unl (a::L)=a++10::unl L:=by simp [unl]
theorem unl_app (L M:List Ln):unl (L++M)=unl L++unl M:=by simp [unl]
theorem spl_unl:∀ {L:List Ln},(∀ p∈L,(10:UInt8)∉p)→spl 10 (unl L)=L++[[]]
 | [],_=>rfl
 | a::L,h=>by rw [unl_cons,spl_app _ (h a aK),spl_unl fun p hp=>h p (aJ _ hp)];rfl
theorem unl_spl {l:Ln} (h:(spl 10 l).getLast?=some []):unl (spl 10 l).dropLast=l:=by
 have key:∀ t:List Ln,t.getLast?=some []→unl t.dropLast=joi 10 t:=fun t=>by
  induction t with
  | nil=>intro h;cases h
  | cons a t ih =>
   intro h
   cases t with
   | nil =>
    have:a=[]:=yn;subst this;rfl
   | cons b t =>
    have h2:=ih (by simpa [List.getLast?_cons_cons] using h)
    show unl (a::(b::t).dropLast)=_
    rw [unl_cons,h2];exact (zCL zg).symm
 rw [key _ h,joi_spl]
def wdF (pre first:Ln) (many:Nat):List Ln→Option (List Ln)
 | []=>none
 | l::_=>if pre.isPrefixOf l=true∧(spl 32 (l.drop pre.length)).head?=some first∧(spl 32 (l.drop pre.length)).length=many then some (spl 32 (l.drop pre.length)) else none
section
variable {pre first:Ln} {many:Nat} {L:List Ln} {w:List Ln}
theorem wdF_cons (l:Ln) (r:List Ln):wdF pre first many (l::r)=if pre.isPrefixOf l=true∧(spl 32 (l.drop pre.length)).head?=some first∧(spl 32 (l.drop pre.length)).length=many then some (spl 32 (l.drop pre.length)) else none:=rfl
theorem wdF_some (h:wdF pre first many L=some w):∃ l r,L=l::r∧l=pre++joi 32 w∧w.head?=some first∧w.length=many:=by
 cases L with
 | nil=>cases h
 | cons l r =>
  rw [wdF_cons] at h
  split at h
  ·next hc =>
   injection h with h
   subst h;refine ⟨l,r,rfl,?_,hc.2.1,hc.2.2⟩
   rw [joi_spl];obtain ⟨t,ht⟩:=List.isPrefixOf_iff_prefix.1 hc.1;rw [←ht,List.drop_left]
  ·cases h
theorem wdF_line {r:List Ln} (hw:w≠[]) (hn:∀ p∈w,(32:UInt8)∉p):wdF pre first many ((pre++joi 32 w)::r)=if w.head?=some first∧w.length=many then some w else none:=by
 rw [wdF_cons,List.drop_left,spl_joi hw hn];have:pre.isPrefixOf (pre++joi 32 w)=true:=List.isPrefixOf_iff_prefix.2 ⟨_,rfl⟩;rw [this];simp
end
def digB (n:Nat):BA:=⟨(Lib.decDigits n).toArray⟩
theorem digB_list (n:Nat):(digB n).data.toList=Lib.decDigits n:=by simp [digB]
theorem dig_one (u:Nat) (h:u<10):(UInt8.ofNat (48+u)).toNat=48+u:=by
 rw [UInt8.toNat_ofNat'];omega
theorem dig_all (n:Nat):(Lib.decDigits n).all dgB=true:=by
 induction n using Nat.strongRecOn with
 | _ n ih =>
  rw [Lib.decDigits]
  split
  ·next h=>simp [dgB];omega
  ·next h =>
   rw [List.all_append,ih (n / 10) za];simp [dgB]
   omega
theorem dig_val (n:Nat):zBL (Lib.decDigits n)=n:=by
 induction n using Nat.strongRecOn with
 | _ n ih =>
  rw [Lib.decDigits]
  split
  ·next h =>
   show 10*0+((UInt8.ofNat (48+n)).toNat - 48)=n
   rw [dig_one n h];omega
  ·next h =>
   rw [decV_snoc,ih (n / 10) za,dig_one (n % 10) za];omega
theorem dig_pos (n:Nat):1≤(Lib.decDigits n).length:=by
 rw [Lib.decDigits]
 split<;>simp
theorem dig_head (n:Nat) (h:n≠0):((Lib.decDigits n).headD 0).toNat≠48:=by
 induction n using Nat.strongRecOn with
 | _ n ih =>
  rw [Lib.decDigits]
  split
  ·next h1=>simp only [List.headD_cons,dig_one n h1];omega
  ·next h1 =>
   have h2:=dig_pos (n / 10);have h3:=ih (n / 10) za za
   cases he:Lib.decDigits (n / 10) with
   | nil=>rw [he] at h2;simp at h2
   | cons a l=>rw [he] at h3;simpa using h3
theorem dig_len (n k:Nat) (hk:1≤k):(Lib.decDigits n).length≤k↔n<10 ^ k:=by
 constructor
 ·intro h
  have h1:=decV_lt (l:=Lib.decDigits n) fun c hc=>by
   have:=(dgB_iff c).1 (List.all_eq_true.1 (dig_all n) c hc);omega
  rw [dig_val] at h1;exact cP h1 (bJ za h)
 ·exact fun h=>dec_size n k h hk
theorem dg_back {c:UInt8} (h:dgB c=true):UInt8.ofNat (48+(c.toNat - 48))=c:=by
 have:=(dgB_iff c).1 h
 apply UInt8.toNat_inj.1
 rw [UInt8.toNat_ofNat'];have:=c.toNat_lt;omega
theorem decV_pos {l:List UInt8} (h:l.all dgB=true) (hne:l≠[]) (hh:(l.headD 0).toNat≠48):0<zBL l:=by
 cases l with
 | nil=>exact absurd rfl hne
 | cons a t =>
  rw [List.all_cons,cU] at h;have h1:=(dgB_iff a).1 h.1;have e:=zDk [a] t;rw [List.singleton_append] at e;have e2:zBL [a]=a.toNat - 48:=by show 10*0+(a.toNat - 48)=_;omega
  rw [e,e2];simp only [List.headD_cons] at hh;have:0<(a.toNat - 48)*10 ^ t.length:=Nat.mul_pos za (Nat.pow_pos zc);omega
theorem dig_uniq:∀ (n:Nat) (l:List UInt8),l.length=n→l.all dgB=true→l≠[]→(l.length=1∨(l.headD 0).toNat≠48)→l=Lib.decDigits (zBL l)
 | 0,l,hn,_,hne,_=>absurd (List.length_eq_zero_iff.1 hn) hne
 | n+1,l,hn,hall,hne,hh=>by
  obtain ⟨m,c,rfl⟩:∃ m c,l=m++[c]:=⟨l.dropLast,l.getLast hne,(List.dropLast_concat_getLast hne).symm⟩;rw [List.all_append,cU] at hall;have hc:dgB c=true:=by simpa using hall.2
  have hc2:=(dgB_iff c).1 hc;rw [decV_snoc]
  cases m with
  | nil =>
   have e:zBL []=0:=rfl;rw [e,Lib.decDigits,dif_pos za];have:10*0+(c.toNat - 48)=c.toNat - 48:=za;rw [this,dg_back hc]
   rfl
  | cons a t =>
   have hhd:((a::t).headD 0).toNat≠48:=by
    rcases hh with h | h
    ·simp at h
    ·simpa using h
   have ih:=dig_uniq n (a::t) (by simpa using hn) hall.1 zg (.inr hhd)
   have hp:=decV_pos hall.1 zg hhd;rw [Lib.decDigits,dif_neg za];have e1:(10*zBL (a::t)+(c.toNat - 48)) / 10=zBL (a::t):=za;have e2:(10*zBL (a::t)+(c.toNat - 48)) % 10=c.toNat - 48:=za;rw [e1,e2,dg_back hc,←ih]
def ofL (l:Ln):BA:=⟨l.toArray⟩
theorem zAu (l:Ln):(ofL l).data.toList=l:=by simp [ofL]
theorem zBn (s:BA):ofL s.data.toList=s:=by unfold ofL;cases s;simp
abbrev sp2:Ln:=[32,32]
abbrev zBq:Ln:=[116,104,105,110,103]
abbrev zCo:Ln:=[102,114,111,109]
abbrev kTo:Ln:=[116,111]
abbrev zCR:Ln:=[112,97,114,116]
abbrev zCw:Ln:=[101,120,99,108,117,115,105,118,101]
abbrev kSub:Ln:=[115,117,98]
abbrev kIn:Ln:=[105,110]
abbrev zCV:Ln:=[111,117,116]
abbrev kFor:Ln:=[102,111,114]
abbrev zAU:Ln:=[98,101,103,105,110]
abbrev kEnd:Ln:=[101,110,100]
abbrev zBR:Ln:=[115,104,97,114,101]
abbrev kEnds:Ln:=[101,110,100,115]
abbrev kDeed:Ln:=[100,101,101,100]
abbrev zBj:Ln:=[114,101,103,105,111,110]
abbrev zCH:Ln:=[117,115,101]
def rowL (s:Ln):Bool:=decide (s≠[])&&(decide (s≠[45])&&s.all okB)
def numS (s:Ln):Option Nat:=if s≠[]∧s.all dgB=true∧s.length≤9∧(s.length=1∨(s.headD 0).toNat≠48) then some (zBL s) else none
def zCQ (s:Ln):Bool:=decide (s≠[])&&s.all dgB
def noNeg (s:Ln):Ln:=if s.head?=some 45 then s.tail else s
def ratX (s:Ln):Option (Ln×Ln):=match s.dropWhile (fun c=>decide (c≠47)) with
 | []=>none
 | _::d=>if zCQ (noNeg (s.takeWhile fun c=>decide (c≠47)))&&zCQ d then some (s.takeWhile (fun c=>decide (c≠47)),d) else none
theorem itoa_dig (l:Nat):zBc (l:Int)=digB l:=by
 unfold zBc Lib.itoa digB;rw [aC za]
 rfl
theorem numS_itoa {s:Ln} {n:Nat} (h:numS s=some n):(zBc (n:Int)).data.toList=s:=by
 unfold numS at h
 split at h
 ·next hc =>
  injection h with h
  rw [itoa_dig,digB_list,←h];exact (dig_uniq _ s rfl hc.2.1 hc.1 hc.2.2.2).symm
 ·cases h
theorem ratX_app {s n d:Ln} (h:ratX s=some (n,d)):s=n++47::d:=by
 unfold ratX at h
 cases hd:s.dropWhile (fun c=>decide (c≠47)) with
 | nil=>rw [hd] at h;cases h
 | cons c t =>
  rw [hd] at h;simp only at h
  split at h
  ·injection h with h
   injection h with h1 h2
   have hc:c=47:=by
    have:=List.head?_dropWhile_not (fun c:UInt8=>decide (c≠47)) s
    rw [hd] at this
    simpa using this
   have:=List.takeWhile_append_dropWhile (p:=fun c:UInt8=>decide (c≠47)) (l:=s)
   rw [hd,h1,h2,hc] at this;exact this.symm
  ·cases h
abbrev Rdr (α:Type):=Except (List Ln) (α×List Ln)
def zBO (first:Ln) (L:List Ln):Rdr BA:=match wdF sp2 first 2 L with
 | some [_,n]=>if rowL n=true then .ok (ofL n,L.tail) else .error L
 | _=>.error L
def numX (first:Ln) (L:List Ln):Rdr Int:=match wdF sp2 first 2 L with
 | some [_,s]=>match numS s with
  | some n=>.ok ((n:Int),L.tail)
  | none=>.error L
 | _=>.error L
def partX (L:List Ln):Rdr (BA×BA):=match wdF sp2 zCR 2 L with
 | some [_,s]=>match ratX s with
  | some (n,d)=>.ok ((ofL n,ofL d),L.tail)
  | none=>.error L
 | _=>.error L
def zBD (first:Ln) (L:List Ln):Bool×List Ln:=match wdF sp2 first 1 L with
 | some _=>(true,L.tail)
 | none=>(false,L)
def zAM:List Ln→List Ar×List Ln
 | []=>([],[])
 | l::r=>match wdF sp2 kIn 2 (l::r) with
  | some [_,n]=>if rowL n=true then (⟨ofL n,false⟩::(zAM r).1,(zAM r).2) else ([],l::r)
  | _=>match wdF sp2 zCV 2 (l::r) with
   | some [_,n]=>if rowL n=true then (⟨ofL n,true⟩::(zAM r).1,(zAM r).2) else ([],l::r)
   | _=>([],l::r)
def zAJ (pre first:Ln):List Ln→List BA×List Ln
 | []=>([],[])
 | l::r=>match wdF pre first 2 (l::r) with
  | some [_,n]=>if rowL n=true then (ofL n::(zAJ pre first r).1,(zAJ pre first r).2) else ([],l::r)
  | _=>([],l::r)
def zAy:List Ln→List Sh×List Ln
 | []=>([],[])
 | l::r=>match wdF sp2 zBR 3 (l::r) with
  | some [_,p,s]=>if rowL p=true then match ratX s with
   | some (n,d)=>(⟨ofL p,ofL n,ofL d⟩::(zAy r).1,(zAy r).2)
   | none=>([],l::r) else ([],l::r)
  | _=>([],l::r)
def zAO:List Ln→List Rg×List Ln
 | []=>([],[])
 | l::r=>match wdF [] zBj 3 (l::r) with
  | some [_,n,p]=>if rowL n=true∧(rowL p=true∨p=[45]) then (⟨ofL n,if p=[45] then emp else ofL p⟩::(zAO r).1,(zAO r).2) else ([],l::r)
  | _=>([],l::r)
def kdX (s:Ln):Int:=if s=[111,114,105,103,105,110] then 1 else if s=[97,115,115,105,103,110] then 2 else if s=[108,105,99,101,110,99,101] then 3 else if s=kEnd then 4 else if s=[112,97,115,115] then 5 else 0
def optX {α:Type} (b:Bool) (d:α) (f:List Ln→Rdr α) (L:List Ln):Rdr α:=if b=true then f L else .ok (d,L)
def zAG {α:Type} (b:Bool) (d:α) (f:List Ln→α×List Ln) (L:List Ln):α×List Ln:=if b=true then f L else (d,L)
def bodyX (id:BA) (day k:Int) (L:List Ln):Except (List Ln) (De×List Ln):=do
 let (th,L)←optX (zAd k || decide (k=1)) emp (zBO zBq) L
 let (fr,L)←optX (zAd k || decide (k=5)) emp (zBO zCo) L
 let (to2,L)←optX (zAd k) emp (zBO kTo) L
 let (pt,L)←optX (decide (k=2)) (emp,emp) partX L
 let (ex,L):=zAG (decide (k=3)) false (zBD zCw) L
 let (sb,L):=zAG (decide (k=3)) false (zBD kSub) L
 let (ar,L):=zAG (zAd k) [] zAM L
 let (us,L):=zAG (zAd k) [] (zAJ sp2 kFor) L
 let (bg,L)←numX zAU L
 let (en,L)←optX (zAd k) 0 (numX kEnd) L
 let (sh,L):=zAG (divB k) [] zAy L
 let (ot,L)←optX (decide (k=4)) emp (zBO kEnds) L
 .ok (⟨id,day,k,th,fr,to2,pt.1,pt.2,ex,sb,none,ar,0,none,us,0,bg,en,none,sh,0,ot⟩,L)
def zCt (L:List Ln):Rdr De:=match wdF [] kDeed 4 L with
 | some [_,i,dy,kw]=>match numS dy with
  | some n=>if rowL i=true∧0<kdX kw then bodyX (ofL i) n (kdX kw) L.tail else .error L
  | none=>.error L
 | _=>.error L
def zCa:Nat→List Ln→Except (List Ln) (List De)
 | 0,_=>.ok []
 | f+1,L=>if L=[] then .ok [] else match zCt L with
  | .error e=>.error e
  | .ok (d,R)=>match zCa f R with
   | .error e=>.error e
   | .ok l=>.ok (d::l)
def readF (t:Ln):(List Rg×List BA×List De)×Int×Int :=
 if 500000<t.length then (([],[],[]),0,2) else
 match zCa (zAJ [] zCH (zAO (spl 10 t).dropLast).2).2.length (zAJ [] zCH (zAO (spl 10 t).dropLast).2).2 with
 | .error e=>(([],[],[]),((spl 10 t).dropLast.length - e.length:Nat)+1,10)
 | .ok ds=>if (spl 10 t).getLast?≠some [] then (([],[],[]),((spl 10 t).dropLast.length:Int)+1,10)
  else if zDh (zAO (spl 10 t).dropLast).1 (zAJ [] zCH (zAO (spl 10 t).dropLast).2).1 ds≠0 then (([],[],[]),0,zDh (zAO (spl 10 t).dropLast).1 (zAJ [] zCH (zAO (spl 10 t).dropLast).2).1 ds)
  else (((zAO (spl 10 t).dropLast).1,(zAJ [] zCH (zAO (spl 10 t).dropLast).2).1,ds),0,0)
abbrev lnW (ws:List Ln):Ln:=sp2++joi 32 ws
theorem joi_join:∀ ws:List Ln,Lib.join ws [32]=joi 32 ws
 | []=>rfl
 | [a]=>by rw [Lib.join_one];rfl
 | a::b::l=>by
  have ih:=joi_join (b::l);unfold Lib.join at *;rw [zCL zg,←ih];simp [List.intercalate,List.intersperse]
theorem lnL_unl (ws:List BA):lnL ws=unl [lnW (ws.map (·.data.toList))]:=by
 unfold lnL;rw [joi_join];simp [unl,lnW]
def optL (b:Bool) (L:List Ln):List Ln:=if b=true then L else []
theorem optL_unl (b:Bool) (L:List Ln):unl (optL b L)=ifL b (unl L):=by cases b<;>rfl
def arW (a:Ar):Ln:=lnW [if a.out=true then zCV else kIn,a.rg.data.toList]
def usW (u:BA):Ln:=lnW [kFor,u.data.toList]
def shW (s:Sh):Ln:=lnW [zBR,s.pt.data.toList,s.nu.data.toList++47::s.de.data.toList]
def hdW (d:De):Ln:=joi 32 [kDeed,d.id.data.toList,(zBc d.day).data.toList,(kdS d.kd).data.toList]
def dLn (d:De):List Ln :=
 [hdW d]++optL (zAd d.kd || decide (d.kd=1)) [lnW [zBq,d.th.data.toList]]++optL (zAd d.kd || decide (d.kd=5)) [lnW [zCo,d.fr.data.toList]]++optL (zAd d.kd) [lnW [kTo,d.to_.data.toList]]
  ++optL (decide (d.kd=2)) [lnW [zCR,d.nu.data.toList++47::d.de.data.toList]]++optL d.ex [lnW [zCw]]++optL d.sb [lnW [kSub]]++d.ar.map arW++d.us.map usW
  ++[lnW [zAU,(zBc d.bg).data.toList]]++optL (zAd d.kd) [lnW [kEnd,(zBc d.en).data.toList]]++d.sh.map shW++optL (decide (d.kd=4)) [lnW [kEnds,d.ot.data.toList]]
def rgW (r:Rg):Ln:=joi 32 [zBj,r.nm.data.toList,if r.par=emp then [45] else r.par.data.toList]
def uW (u:BA):Ln:=joi 32 [zCH,u.data.toList]
theorem flat_unl {α:Type} (f:α→List UInt8) (g:α→Ln) (h:∀ x,f x=unl [g x]) (l:List α):zAr f l=unl (l.map g):=by
 induction l with
 | nil=>rfl
 | cons a l ih =>
  have e:zAr f (a::l)=f a++zAr f l:=rfl;rw [e,ih,h,dD,←unl_app];rfl
theorem ratB_list (n d:BA):(ratB n d).data.toList=n.data.toList++47::d.data.toList:=by
 show (n++⟨#[47]⟩++d).data.toList=_
 rw [zDj,zDj];simp
theorem deedL_unl (d:De):zBN d=unl (dLn d):=by
 have hh:headL d=unl [hdW d]:=by unfold headL hdW;simp [unl,joi]
 have ha:zAr arL d.ar=unl (d.ar.map arW):=flat_unl arL arW (fun a=>by unfold arL arW;rw [lnL_unl];cases a.out<;>rfl) _
 have hu:zAr usL d.us=unl (d.us.map usW):=flat_unl usL usW (fun a=>by unfold usL usW;rw [lnL_unl];rfl) _
 have hs:zAr shL d.sh=unl (d.sh.map shW):=flat_unl shL shW (fun s=>by unfold shL shW;rw [lnL_unl,dD,dD,dD,ratB_list];rfl) _
 unfold zBN preA midA endA dLn;rw [hh,ha,hu,hs];simp only [unl_app,optL_unl,lnL_unl,dD,List.map_nil,ratB_list,bT]
theorem regL_unl (r:Rg):regL r=unl [rgW r]:=by unfold regL rgW;simp [unl,joi]
theorem useL_unl (u:BA):useL u=unl [uW u]:=by unfold useL uW;simp [unl,joi]
def tLn (rs:List Rg) (us:List BA) (ds:List De):List Ln:=rs.map rgW++us.map uW++(ds.map dLn).flatten
theorem txtL_unl (rs:List Rg) (us:List BA) (ds:List De):txtL rs us ds=unl (tLn rs us ds):=by
 have hd:zAr zBN ds=unl (ds.map dLn).flatten:=by
  induction ds with
  | nil=>rfl
  | cons a l ih =>
   have e:zAr zBN (a::l)=zBN a++zAr zBN l:=rfl;rw [e,ih,deedL_unl,dD,List.flatten_cons,unl_app]
 unfold txtL tLn;rw [flat_unl regL rgW regL_unl,flat_unl useL uW useL_unl,hd,unl_app,unl_app]
theorem splitK_one (c:UInt8):∀ (n:Nat) (s:Ln),s.length≤n→Lib.splitK [c] 0 (s.count c) s=spl c s
 | n,s,hn=>by
  rcases Int.lt_or_le (Lib.indexByte s c) 0 with h | h
  ·have h1:Lib.indexByte s c = -1:=by have:=Lib.indexByte_ge s c;omega
   have hno:=Lib.indexByte_none h1
   have hm:c∉s:=fun hm=>by
    obtain ⟨k,hk,e⟩:=bL hm;exact hno k (by rw [List.getElem?_eq_getElem hk,e])
   rw [List.count_eq_zero.2 hm,spl_one hm];rfl
  ·obtain ⟨o,ho⟩:=Int.eq_ofNat_of_zero_le h
   obtain ⟨h1,h2⟩:=Lib.indexByte_some ho;obtain ⟨hol,hoc⟩:=List.getElem?_eq_some_iff.1 h1
   have hs:s=s.take o++c::s.drop (o+1):=by
    rw [←hoc,←aF hol,List.take_append_drop]
   have hm:c∉s.take o:=fun hm=>by
    obtain ⟨k,hk,e⟩:=bL hm;rw [bB] at hk;rw [bW] at e;exact h2 k za (by rw [List.getElem?_eq_getElem za,e])
   have hc:s.count c=(s.drop (o+1)).count c+1:=by
    have:=aV (List.count c) hs;rw [List.count_append,List.count_eq_zero.2 hm,List.count_cons_self] at this;omega
   have ix:Lib.index s [c]=(o:Int):=by rw [Lib.index_one];exact ho
   cases n with
   | zero=>omega
   | succ n =>
    have ih:=splitK_one c n (s.drop (o+1)) (by rw [bG];omega)
    have e2:spl c s=s.take o::spl c (s.drop (o+1)):=by
     have:=spl_app (s.drop (o+1)) hm;rw [←hs] at this;exact this
    have hne:¬ (Lib.index s [c] == -1)=true:=fun e=>by have:=beq_iff_eq.1 e;omega
    have hn2:(Lib.index s [c]).toNat=o:=za;rw [hc,Lib.splitK,aC hne,hn2,e2,←ih];rfl
theorem splitB_one (c:UInt8) (s:BA):Lib.splitB ⟨#[c]⟩ 0 (Lib.countB s ⟨#[c]⟩) s=(spl c s.data.toList).map ofL:=by
 have h1:=Lib.splitB_data ⟨#[c]⟩ 0 (Lib.countB s ⟨#[c]⟩) s;have h2:Lib.countB s ⟨#[c]⟩=s.data.toList.count c:=Lib.count_one c s.data.toList;rw [h2] at h1 ⊢;have h3:(Lib.splitB ⟨#[c]⟩ 0 (s.data.toList.count c) s).map (fun x=>x.data.toList)=spl c s.data.toList:=h1.trans (splitK_one c _ _ (aB _))
 rw [←h3,List.map_map];have:(ofL ∘ fun x:BA=>x.data.toList)=id:=by funext x;exact zBn x
 rw [this,List.map_id]
theorem countB_one (c:UInt8) (s:BA):Lib.countB s ⟨#[c]⟩+1=(spl c s.data.toList).length:=by
 have h:=aV List.length (splitB_one c s);rw [Lib.splitB_all ⟨#[c]⟩ (aB 1) 0 _ s rfl,cO] at h;exact h
theorem spl_len (c:UInt8):∀ l:Ln,(spl c l).length≤l.length+1
 | []=>by simp [spl]
 | b::l=>by
  have ih:=spl_len c l;unfold spl
  split
  ·simp only [aM];omega
  ·cases hs:spl c l with
   | nil=>simp
   | cons x t=>rw [hs] at ih;simp only [aM] at ih ⊢;omega
def cutP (pre l:Ln):Ln:=if pre.isPrefixOf l=true then l.drop pre.length else l
theorem wdF_asks (pre first l:Ln) (r:List Ln) (many:Nat):wdF pre first many (l::r)=if pre.isPrefixOf l=true then (if (spl 32 (cutP pre l)).head?=some first then (if (spl 32 (cutP pre l)).length=many then some (spl 32 (cutP pre l)) else none) else none) else none:=by
 rw [wdF_cons];unfold cutP
 by_cases h:pre.isPrefixOf l=true
 ·rw [aE h,aE h]
  by_cases h1:(spl 32 (l.drop pre.length)).head?=some first
  ·rw [aE h1]
   by_cases h2:(spl 32 (l.drop pre.length)).length=many
   ·rw [aE h2,aE ⟨h,h1,h2⟩]
   ·rw [aC h2,aC fun x=>h2 x.2.2]
  ·rw [aC h1,aC fun x=>h1 x.2.1]
 ·rw [aC h,aC fun x=>h x.1]
section
variable {pre first:Ln} {L R:List Ln} {w:List Ln}
theorem wd_len {n:Nat} (h:wdF pre first n L=some w):L=(pre++joi 32 w)::L.tail∧w.head?=some first∧w.length=n:=by
 obtain ⟨l,r,rfl,rfl,h1,h2⟩:=wdF_some h;exact ⟨rfl,h1,h2⟩
theorem zCN (h:wdF pre first 2 L=some w):∃ n,w=[first,n]∧L=(pre++joi 32 [first,n])::L.tail:=by
 obtain ⟨h1,h2,h3⟩:=wd_len h
 match w,h2,h3 with
 | [a,n],h2,_ =>
  have:a=first:=by simpa using h2
  subst this;exact ⟨n,rfl,h1⟩
theorem wd_three (h:wdF pre first 3 L=some w):∃ m n,w=[first,m,n]∧L=(pre++joi 32 [first,m,n])::L.tail:=by
 obtain ⟨h1,h2,h3⟩:=wd_len h
 match w,h2,h3 with
 | [a,m,n],h2,_ =>
  have:a=first:=by simpa using h2
  subst this;exact ⟨m,n,rfl,h1⟩
theorem wd_four (h:wdF pre first 4 L=some w):∃ m n o,w=[first,m,n,o]∧L=(pre++joi 32 [first,m,n,o])::L.tail:=by
 obtain ⟨h1,h2,h3⟩:=wd_len h
 match w,h2,h3 with
 | [a,m,n,o],h2,_ =>
  have:a=first:=by simpa using h2
  subst this;exact ⟨m,n,o,rfl,h1⟩
theorem wd_one (h:wdF pre first 1 L=some w):w=[first]∧L=(pre++joi 32 [first])::L.tail:=by
 obtain ⟨h1,h2,h3⟩:=wd_len h
 match w,h2,h3 with
 | [a],h2,_ =>
  have:a=first:=by simpa using h2
  subst this;exact ⟨rfl,h1⟩
theorem nameX_ok {v:BA} (h:zBO first L = .ok (v,R)):L=[lnW [first,v.data.toList]]++R:=by
 unfold zBO at h
 cases hw:wdF sp2 first 2 L with
 | none=>rw [hw] at h;cases h
 | some w =>
  obtain ⟨n,rfl,hL⟩:=zCN hw;rw [hw] at h;simp only at h
  split at h
  ·injection h with h
   injection h with h1 h2
   rw [←h1,←h2,zAu];exact hL
  ·cases h
theorem numX_ok {v:Int} (h:numX first L = .ok (v,R)):L=[lnW [first,(zBc v).data.toList]]++R:=by
 unfold numX at h
 cases hw:wdF sp2 first 2 L with
 | none=>rw [hw] at h;cases h
 | some w =>
  obtain ⟨s,rfl,hL⟩:=zCN hw;rw [hw] at h;simp only at h
  cases hn:numS s with
  | none=>rw [hn] at h;cases h
  | some n =>
   rw [hn] at h
   injection h with h
   injection h with h1 h2
   rw [←h1,←h2,numS_itoa hn];exact hL
theorem partX_ok {v:BA×BA} (h:partX L = .ok (v,R)):L=[lnW [zCR,v.1.data.toList++47::v.2.data.toList]]++R:=by
 unfold partX at h
 cases hw:wdF sp2 zCR 2 L with
 | none=>rw [hw] at h;cases h
 | some w =>
  obtain ⟨s,rfl,hL⟩:=zCN hw;rw [hw] at h;simp only at h
  cases hn:ratX s with
  | none=>rw [hn] at h;cases h
  | some p =>
   obtain ⟨n,d⟩:=p;rw [hn] at h
   injection h with h
   injection h with h1 h2
   rw [←h1,←h2];simp only [zAu];rw [←ratX_app hn];exact hL
theorem flagX_ok {b:Bool} (h:zBD first L=(b,R)):L=optL b [lnW [first]]++R:=by
 unfold zBD at h
 cases hw:wdF sp2 first 1 L with
 | none =>
  rw [hw] at h
  injection h with h1 h2
  rw [←h1,←h2];rfl
 | some w =>
  obtain ⟨_,hL⟩:=wd_one hw;rw [hw] at h
  injection h with h1 h2
  rw [←h1,←h2];exact hL
theorem areasX_ok:∀ L:List Ln,L=(zAM L).1.map arW++(zAM L).2
 | []=>rfl
 | l::r=>by
  have ih:=areasX_ok r;unfold zAM
  cases hw:wdF sp2 kIn 2 (l::r) with
  | some w =>
   obtain ⟨n,rfl,hL⟩:=zCN hw;simp only
   split
   ·injection hL with hL _
    rw [dD,aL,←ih,hL];unfold arW;simp only [zAu]
    rfl
   ·rfl
  | none =>
   simp only
   cases hw2:wdF sp2 zCV 2 (l::r) with
   | some w =>
    obtain ⟨n,rfl,hL⟩:=zCN hw2;simp only
    split
    ·injection hL with hL _
     rw [dD,aL,←ih,hL];unfold arW;simp only [zAu]
     rfl
    ·rfl
   | none=>rfl
theorem usesX_ok:∀ L:List Ln,L=(zAJ pre first L).1.map (fun u=>pre++joi 32 [first,u.data.toList])++(zAJ pre first L).2
 | []=>rfl
 | l::r=>by
  have ih:=usesX_ok r;unfold zAJ
  cases hw:wdF pre first 2 (l::r) with
  | some w =>
   obtain ⟨n,rfl,hL⟩:=zCN hw;simp only
   split
   ·injection hL with hL _
    rw [dD,aL,←ih,hL,zAu]
   ·rfl
  | none=>rfl
theorem sharesX_ok:∀ L:List Ln,L=(zAy L).1.map shW++(zAy L).2
 | []=>rfl
 | l::r=>by
  have ih:=sharesX_ok r;unfold zAy
  cases hw:wdF sp2 zBR 3 (l::r) with
  | some w =>
   obtain ⟨p,s,rfl,hL⟩:=wd_three hw;simp only
   split
   ·cases hn:ratX s with
    | none=>rfl
    | some q =>
     obtain ⟨n,d⟩:=q
     injection hL with hL _
     simp only;rw [dD,aL,←ih,hL,ratX_app hn];unfold shW;simp only [zAu]
   ·rfl
  | none=>rfl
theorem regsX_ok:∀ L:List Ln,L=(zAO L).1.map rgW++(zAO L).2
 | []=>rfl
 | l::r=>by
  have ih:=regsX_ok r;unfold zAO
  cases hw:wdF [] zBj 3 (l::r) with
  | some w =>
   obtain ⟨n,p,rfl,hL⟩:=wd_three hw;simp only
   split
   ·next hc =>
    injection hL with hL _
    rw [dD,aL,←ih,hL];unfold rgW;simp only [zAu,List.nil_append]
    by_cases hp:p=[45]
    ·rw [aE hp,aE rfl,hp]
    ·have hne:ofL p≠emp:=fun e=>by
      have h2:=hc.2.resolve_right hp;have:p=[]:=by rw [←zAu p,e];rfl
      rw [this] at h2
      cases h2
     rw [aC hp,aC hne,zAu]
   ·rfl
  | none=>rfl
theorem optX_ok {α:Type} {b:Bool} {d v:α} {f:List Ln→Rdr α} {pr:α→List Ln} (hf:∀ v R,f L = .ok (v,R)→L=pr v++R) (h:optX b d f L = .ok (v,R)):L=optL b (pr v)++R:=by
 unfold optX at h
 cases b with
 | false=>cases h;rfl
 | true=>exact hf v R h
theorem zBT {α β:Type} {x:Except (List Ln) α} {f:α→Except (List Ln) β} {y:β} (h:(x >>= f) = .ok y):∃ a,x = .ok a∧f a = .ok y:=by
 cases x with
 | error e=>cases h
 | ok a=>exact ⟨a,rfl,h⟩
theorem kdX_ok {s:Ln} (h:0<kdX s):(kdS (kdX s)).data.toList=s:=by
 unfold kdX at *
 split
 ·next e=>subst e;rfl
 split
 ·next e=>subst e;rfl
 split
 ·next e=>subst e;rfl
 split
 ·next e=>subst e;rfl
 split
 ·next e=>subst e;rfl
 ·next a b c d e=>rw [aC a,aC b,aC c,aC d,aC e] at h;exact absurd h zc
theorem bodyX_ok {id:BA} {day k:Int} {d:De} (h:bodyX id day k L = .ok (d,R)):hdW d::L=dLn d++R∧d.id=id∧d.day=day∧d.kd=k:=by
 unfold bodyX at h;obtain ⟨⟨th,L1⟩,h1,h⟩:=zBT h;obtain ⟨⟨fr,L2⟩,h2,h⟩:=zBT h;obtain ⟨⟨to2,L3⟩,h3,h⟩:=zBT h;obtain ⟨⟨pt,L4⟩,h4,h⟩:=zBT h;simp only at h;obtain ⟨⟨bg,L9⟩,h9,h⟩:=zBT h;obtain ⟨⟨en,L10⟩,h10,h⟩:=zBT h;simp only at h;obtain ⟨⟨ot,L12⟩,h12,h⟩:=zBT h
 injection h with h
 injection h with hd hR
 have e1:=optX_ok (pr:=fun v=>[lnW [zBq,v.data.toList]]) (fun v R=>nameX_ok) h1
 have e2:=optX_ok (pr:=fun v=>[lnW [zCo,v.data.toList]]) (fun v R=>nameX_ok) h2
 have e3:=optX_ok (pr:=fun v=>[lnW [kTo,v.data.toList]]) (fun v R=>nameX_ok) h3
 have e4:=optX_ok (pr:=fun v=>[lnW [zCR,v.1.data.toList++47::v.2.data.toList]]) (fun v R=>partX_ok) h4
 have e9:=numX_ok h9;have e10:L9=optL (zAd k) [lnW [kEnd,(zBc en).data.toList]]++L10:=optX_ok (pr:=fun v=>[lnW [kEnd,(zBc v).data.toList]]) (fun v R=>numX_ok) h10
 have e12:=optX_ok (pr:=fun v=>[lnW [kEnds,v.data.toList]]) (fun v R=>nameX_ok) h12
 have key:∀ (b:Bool) (f:Ln) (M:List Ln),M=optL (zAG b false (zBD f) M).1 [lnW [f]]++(zAG b false (zBD f) M).2:=fun b f M=>by
  cases b with
  | false=>rfl
  | true=>exact flagX_ok rfl
 have keyA:∀ (b:Bool) (M:List Ln),M=(zAG b [] zAM M).1.map arW++(zAG b [] zAM M).2:=fun b M=>by
  cases b with
  | false=>rfl
  | true=>exact areasX_ok M
 have keyU:∀ (b:Bool) (M:List Ln),M=(zAG b [] (zAJ sp2 kFor) M).1.map usW++(zAG b [] (zAJ sp2 kFor) M).2:=fun b M=>by
  cases b with
  | false=>rfl
  | true=>exact usesX_ok M
 have keyS:∀ (b:Bool) (M:List Ln),M=(zAG b [] zAy M).1.map shW++(zAG b [] zAy M).2:=fun b M=>by
  cases b with
  | false=>rfl
  | true=>exact sharesX_ok M
 have e5:=key (decide (k=3)) zCw L4;generalize zAG (decide (k=3)) false (zBD zCw) L4=p5 at *;have e6:=key (decide (k=3)) kSub p5.2;generalize zAG (decide (k=3)) false (zBD kSub) p5.2=p6 at *;have e7:=keyA (zAd k) p6.2;generalize zAG (zAd k) [] zAM p6.2=p7 at *;have e8:=keyU (zAd k) p7.2;generalize zAG (zAd k) [] (zAJ sp2 kFor) p7.2=p8 at *;have e11:=keyS (divB k) L10;generalize zAG (divB k) [] zAy L10=p11 at *;subst hd;subst hR;refine ⟨?_,rfl,rfl,rfl⟩
 unfold dLn;simp only [bT];rw [e1,e2,e3,e4,e5,e6,e7,e8,e9,e10,e11,e12]
 rfl
theorem deedX_ok {d:De} (h:zCt L = .ok (d,R)):L=dLn d++R:=by
 unfold zCt at h
 cases hw:wdF [] kDeed 4 L with
 | none=>rw [hw] at h;cases h
 | some w =>
  obtain ⟨i,dy,kw,rfl,hL⟩:=wd_four hw;rw [hw] at h;simp only at h
  cases hn:numS dy with
  | none=>rw [hn] at h;cases h
  | some n =>
   rw [hn] at h;simp only at h
   split at h
   ·next hc =>
    obtain ⟨h1,h2,h3,h4⟩:=bodyX_ok h;rw [←h1,hL];unfold hdW;rw [h2,h3,h4,zAu,numS_itoa hn,kdX_ok hc.2]
    rfl
   ·cases h
theorem dLn_pos (d:De):0<(dLn d).length:=by
 unfold dLn;simp only [cS,List.length_singleton];omega
theorem deedsX_ok:∀ (f:Nat) {L:List Ln} {ds:List De},L.length≤f→zCa f L = .ok ds→L=(ds.map dLn).flatten
 | 0,L,ds,hl,h=>by
  injection h with h
  subst h;exact cT za
 | f+1,L,ds,hl,h=>by
  unfold zCa at h
  by_cases h0:L=[]
  ·rw [aE h0] at h
   injection h with h
   subst h;rw [h0];rfl
  ·rw [aC h0] at h
   cases hd:zCt L with
   | error e=>rw [hd] at h;cases h
   | ok p =>
    obtain ⟨d,R⟩:=p;rw [hd] at h;simp only at h
    cases hs:zCa f R with
    | error e=>rw [hs] at h;cases h
    | ok l =>
     rw [hs] at h
     injection h with h
     subst h;have e1:=deedX_ok hd;have e2:=dLn_pos d;have e3:=deedsX_ok f (L:=R) (by rw [e1,cS] at hl;omega) hs
     rw [dD,List.flatten_cons,←e3];exact e1
end
theorem readF_ok {t:Ln} {rs:List Rg} {us:List BA} {ds:List De} {n:Int} (h:readF t=((rs,us,ds),n,0)):txtL rs us ds=t∧t.length≤500000∧zDh rs us ds=0∧n=0:=by
 unfold readF at h
 by_cases hl:500000<t.length
 ·rw [aE hl] at h;cases h
 rw [aC hl] at h;have e1:=regsX_ok (spl 10 t).dropLast;have e2:=usesX_ok (pre:=[]) (first:=zCH) (zAO (spl 10 t).dropLast).2
 cases hd:zCa (zAJ [] zCH (zAO (spl 10 t).dropLast).2).2.length (zAJ [] zCH (zAO (spl 10 t).dropLast).2).2 with
 | error e=>rw [hd] at h;simp at h
 | ok l =>
  have e3:=deedsX_ok _ (aB _) hd;rw [hd] at h;simp only at h
  by_cases h1:(spl 10 t).getLast?≠some []
  ·rw [aE h1] at h;simp at h
  rw [aC h1] at h;have h1:=Classical.not_not.1 h1
  by_cases h2:zDh (zAO (spl 10 t).dropLast).1 (zAJ [] zCH (zAO (spl 10 t).dropLast).2).1 l≠0
  ·rw [aE h2] at h
   exact absurd (aV (fun p=>p.2.2) h) h2
  rw [aC h2] at h;have h2:=Classical.not_not.1 h2
  injection h with h3 h4
  injection h3 with h5 h6
  injection h6 with h7 h8
  injection h4 with h9 _
  subst h5;subst h7;subst h8;refine ⟨?_,za,h2,h9.symm⟩
  rw [txtL_unl]
  have:tLn (zAO (spl 10 t).dropLast).1 (zAJ [] zCH (zAO (spl 10 t).dropLast).2).1 l=(spl 10 t).dropLast:=by
   unfold tLn;rw [←e3,bT];have e4:(zAJ [] zCH (zAO (spl 10 t).dropLast).2).1.map uW++(zAJ [] zCH (zAO (spl 10 t).dropLast).2).2=(zAO (spl 10 t).dropLast).2:=e2.symm;rw [e4];exact e1.symm
  rw [this];exact unl_spl h1
def st12 (d:De) (L:List Ln):Except (List Ln) (De×List Ln):=do
 let (v,L)←optX (decide (d.kd=4)) emp (zBO kEnds) L
 .ok ({ d with ot:=v },L)
def st11 (d:De) (L:List Ln):Except (List Ln) (De×List Ln):=st12 { d with sh:=(zAG (divB d.kd) [] zAy L).1 } (zAG (divB d.kd) [] zAy L).2
def st10 (d:De) (L:List Ln):Except (List Ln) (De×List Ln):=do
 let (v,L)←optX (zAd d.kd) 0 (numX kEnd) L
 st11 { d with en:=v } L
def st9 (d:De) (L:List Ln):Except (List Ln) (De×List Ln):=do
 let (v,L)←numX zAU L
 st10 { d with bg:=v } L
def st8 (d:De) (L:List Ln):Except (List Ln) (De×List Ln):=st9 { d with us:=(zAG (zAd d.kd) [] (zAJ sp2 kFor) L).1 } (zAG (zAd d.kd) [] (zAJ sp2 kFor) L).2
def st7 (d:De) (L:List Ln):Except (List Ln) (De×List Ln):=st8 { d with ar:=(zAG (zAd d.kd) [] zAM L).1 } (zAG (zAd d.kd) [] zAM L).2
def st6 (d:De) (L:List Ln):Except (List Ln) (De×List Ln):=st7 { d with sb:=(zAG (decide (d.kd=3)) false (zBD kSub) L).1 } (zAG (decide (d.kd=3)) false (zBD kSub) L).2
def st5 (d:De) (L:List Ln):Except (List Ln) (De×List Ln):=st6 { d with ex:=(zAG (decide (d.kd=3)) false (zBD zCw) L).1 } (zAG (decide (d.kd=3)) false (zBD zCw) L).2
def st4 (d:De) (L:List Ln):Except (List Ln) (De×List Ln):=do
 let (v,L)←optX (decide (d.kd=2)) (emp,emp) partX L
 st5 { d with nu:=v.1,de:=v.2 } L
def st3 (d:De) (L:List Ln):Except (List Ln) (De×List Ln):=do
 let (v,L)←optX (zAd d.kd) emp (zBO kTo) L
 st4 { d with to_:=v } L
def st2 (d:De) (L:List Ln):Except (List Ln) (De×List Ln):=do
 let (v,L)←optX (zAd d.kd || decide (d.kd=5)) emp (zBO zCo) L
 st3 { d with fr:=v } L
def st1 (d:De) (L:List Ln):Except (List Ln) (De×List Ln):=do
 let (v,L)←optX (zAd d.kd || decide (d.kd=1)) emp (zBO zBq) L
 st2 { d with th:=v } L
abbrev newD (id:BA) (day k:Int):De:=⟨id,day,k,emp,emp,emp,emp,emp,false,false,none,[],0,none,[],0,0,0,none,[],0,emp⟩
theorem bodyX_st (id:BA) (day k:Int) (L:List Ln):bodyX id day k L=st1 (newD id day k) L:=rfl
section
variable {first:Ln} {M:List Ln}
theorem areasX_rest (M:List Ln):(zAM M).2=M.drop (zAM M).1.length:=by
 have h:=aV (List.drop (zAM M).1.length) (areasX_ok M);rw [List.drop_left' (by rw [cO])] at h
 exact h.symm
theorem usesX_rest (pre first:Ln) (M:List Ln):(zAJ pre first M).2=M.drop (zAJ pre first M).1.length:=by
 have h:=aV (List.drop (zAJ pre first M).1.length) (usesX_ok (pre:=pre) (first:=first) M)
 rw [List.drop_left' (by rw [cO])] at h
 exact h.symm
theorem sharesX_rest (M:List Ln):(zAy M).2=M.drop (zAy M).1.length:=by
 have h:=aV (List.drop (zAy M).1.length) (sharesX_ok M);rw [List.drop_left' (by rw [cO])] at h
 exact h.symm
theorem regsX_rest (M:List Ln):(zAO M).2=M.drop (zAO M).1.length:=by
 have h:=aV (List.drop (zAO M).1.length) (regsX_ok M);rw [List.drop_left' (by rw [cO])] at h
 exact h.symm
def tryX (pre s:Ln) (M:List Ln):Option Ln:=match wdF pre s 2 M with
 | some [_,n]=>if rowL n=true then some n else none
 | _=>none
def zCq:List Ln→List Ln→List (Ln×Ln)×List Ln
 | [],M=>([],M)
 | s::fs,M=>match tryX sp2 s M with
  | some n=>((s,n)::(zCq fs M.tail).1,(zCq fs M.tail).2)
  | none=>zCq fs M
def zCY (fs:List Ln):Nat→List Ln→List (Ln×Ln)×List Ln
 | 0,M=>([],M)
 | f+1,M=>if (zCq fs M).1=[] then ([],M) else ((zCq fs M).1++(zCY fs f (zCq fs M).2).1,(zCY fs f (zCq fs M).2).2)
theorem areasX_try (l:Ln) (r:List Ln):zAM (l::r)=match tryX sp2 kIn (l::r) with
  | some n=>(⟨ofL n,false⟩::(zAM r).1,(zAM r).2)
  | none=>match tryX sp2 zCV (l::r) with
   | some n=>(⟨ofL n,true⟩::(zAM r).1,(zAM r).2)
   | none=>([],l::r):=by
 rw [zAM];unfold tryX
 cases h1:wdF sp2 kIn 2 (l::r) with
 | some w =>
  obtain ⟨n,rfl,hL⟩:=zCN h1;simp only
  cases hr:rowL n with
  | true=>rfl
  | false =>
   simp only [dE,if_false]
   have h2:wdF sp2 zCV 2 (l::r)=none:=by
    cases h3:wdF sp2 zCV 2 (l::r) with
    | none=>rfl
    | some w2 =>
     exfalso
     obtain ⟨m,rfl,hM⟩:=zCN h3;rw [wdF_cons] at h1 h3
     split at h1
     ·split at h3
      ·next a b=>rw [a.2.1] at b;exact absurd b.2.1 zc
      ·cases h3
     ·cases h1
   rw [h2]
 | none =>
  simp only
  cases h3:wdF sp2 zCV 2 (l::r) with
  | none=>rfl
  | some w2 =>
   obtain ⟨m,rfl,hM⟩:=zCN h3;simp only
   cases hr:rowL m with
   | true=>rfl
   | false=>rfl
theorem usesX_try (pre first l:Ln) (r:List Ln):zAJ pre first (l::r)=match tryX pre first (l::r) with
  | some n=>(ofL n::(zAJ pre first r).1,(zAJ pre first r).2)
  | none=>([],l::r):=by
 rw [zAJ];unfold tryX
 cases h1:wdF pre first 2 (l::r) with
 | none=>rfl
 | some w =>
  obtain ⟨n,rfl,hL⟩:=zCN h1;simp only
  cases hr:rowL n<;>rfl
def arP (p:Ln×Ln):Ar:=⟨ofL p.2,decide (p.1=zCV)⟩
theorem names_areas:∀ (f:Nat) (M:List Ln),M.length<f→zAM M=((zCY [kIn,zCV] f M).1.map arP,(zCY [kIn,zCV] f M).2)
 | 0,M,h=>absurd h (Nat.not_lt_zero _)
 | f+1,[],_=>rfl
 | f+1,l::r,h=>by
  have ih:=names_areas f;simp only [aM] at h;rw [areasX_try,zCY]
  have hp:zCq [kIn,zCV] (l::r)=match tryX sp2 kIn (l::r) with
    | some n=>(match tryX sp2 zCV r with
     | some m=>([(kIn,n),(zCV,m)],r.tail)
     | none=>([(kIn,n)],r))
    | none=>match tryX sp2 zCV (l::r) with
     | some m=>([(zCV,m)],r)
     | none=>([],l::r):=by
   rw [zCq]
   cases tryX sp2 kIn (l::r) with
   | some n =>
    simp only [List.tail_cons];rw [zCq]
    cases tryX sp2 zCV r<;>rfl
   | none =>
    simp only;rw [zCq]
    cases tryX sp2 zCV (l::r)<;>rfl
  rw [hp]
  cases tryX sp2 kIn (l::r) with
  | some n =>
   simp only
   cases ho:tryX sp2 zCV r with
   | none =>
    simp only;rw [aC zg,ih r za]
    rfl
   | some m =>
    simp only;rw [aC zg]
    cases r with
    | nil=>cases ho
    | cons l2 r2 =>
     simp only [aM,List.tail_cons] at h ⊢
     have hin:tryX sp2 kIn (l2::r2)=none:=by
      unfold tryX at ho ⊢
      cases h3:wdF sp2 zCV 2 (l2::r2) with
      | none=>rw [h3] at ho;cases ho
      | some w2 =>
       cases h1:wdF sp2 kIn 2 (l2::r2) with
       | none=>rfl
       | some w =>
        exfalso
        rw [wdF_cons] at h1 h3
        split at h1
        ·split at h3
         ·next a b=>rw [a.2.1] at b;exact absurd b.2.1 zc
         ·cases h3
        ·cases h1
     rw [areasX_try,hin,ho];simp only;rw [ih r2 za]
     rfl
  | none =>
   simp only
   cases tryX sp2 zCV (l::r) with
   | some m =>
    simp only;rw [aC zg,ih r za]
    rfl
   | none=>rfl
theorem names_uses:∀ (f:Nat) (M:List Ln),M.length<f→zAJ sp2 kFor M=((zCY [kFor] f M).1.map fun p=>ofL p.2,(zCY [kFor] f M).2)
 | 0,M,h=>absurd h (Nat.not_lt_zero _)
 | f+1,[],_=>rfl
 | f+1,l::r,h=>by
  have ih:=names_uses f;simp only [aM] at h;rw [usesX_try,zCY]
  have hp:zCq [kFor] (l::r)=match tryX sp2 kFor (l::r) with
    | some n=>([(kFor,n)],r)
    | none=>([],l::r):=by
   rw [zCq]
   cases tryX sp2 kFor (l::r)<;>rfl
  rw [hp]
  cases tryX sp2 kFor (l::r) with
  | some n =>
   simp only;rw [aC zg,ih r za]
   rfl
  | none=>rfl
end
end Go.Proofs.YtoaelidmmcbkfaaGreatDoor
namespace Go.Proofs
open Go.Shelf
def Tryz.lays172_ren:Go.Shelf.Ren:=⟨fun | 172=>69 | 244=>103 | 245=>104 | 247=>135 | 279=>136 | 280=>137 | 281=>138 | 282=>139 | 287=>177 | 316=>178 | 171=>62 | 205=>179 | 321=>199 | 322=>200 | 243=>90 | 246=>126 | 283=>169 | 284=>170 | 285=>171 | 286=>172 | 129=>193 | 317=>192 | 318=>194 | 319=>195 | 320=>196 | 337=>211 | 338=>212 | n=>n,fun | 9=>9 | 3=>3 | 75=>71 | 76=>72 | 4=>4 | 5=>5 | 167=>178 | 37=>67 | 0=>0 | 85=>179 | 2=>2 | 168=>181 | 53=>198 | 175=>217 | 46=>175 | 210=>220 | 127=>120 | 145=>240 | 143=>238 | 21=>21 | 171=>204 | 173=>207 | 212=>233 | 51=>213 | 20=>20 | 213=>234 | 232=>254 | 233=>255 | 80=>76 | n=>n,fun | 15=>3 | 16=>4 | 17=>5 | 18=>6 | 19=>7 | n=>n⟩
theorem Tryz.lays172:Go.Proofs.Lays.n172 Tryz.prog Tryz.lays172_ren:={
 mixed:=zb
 f129:=Tryz.func193.trans (aV some zb)
 f171:=Tryz.func62.trans (aV some zb)
 f172:=Tryz.func69.trans (aV some zb)
 f205:=Tryz.func179.trans (aV some zb)
 f243:=Tryz.func90.trans (aV some zb)
 f244:=Tryz.func103.trans (aV some zb)
 f245:=Tryz.func104.trans (aV some zb)
 f246:=Tryz.func126.trans (aV some zb)
 f247:=Tryz.func135.trans (aV some zb)
 f279:=Tryz.func136.trans (aV some zb)
 f280:=Tryz.func137.trans (aV some zb)
 f281:=Tryz.func138.trans (aV some zb)
 f282:=Tryz.func139.trans (aV some zb)
 f283:=Tryz.func169.trans (aV some zb)
 f284:=Tryz.func170.trans (aV some zb)
 f285:=Tryz.func171.trans (aV some zb)
 f286:=Tryz.func172.trans (aV some zb)
 f287:=Tryz.func177.trans (aV some zb)
 f316:=Tryz.func178.trans (aV some zb)
 f317:=Tryz.func192.trans (aV some zb)
 f318:=Tryz.func194.trans (aV some zb)
 f319:=Tryz.func195.trans (aV some zb)
 f320:=Tryz.func196.trans (aV some zb)
 f321:=Tryz.func199.trans (aV some zb)
 f322:=Tryz.func200.trans (aV some zb)
 f337:=Tryz.func211.trans (aV some zb)
 f338:=Tryz.func212.trans (aV some zb)
 t0:=Tryz.underlying0
 a0:=Tryz.isAgg0
 z0:=Tryz.sizeOf0
 v0:=Tryz.zeroValue0
 t2:=Tryz.underlying2
 a2:=Tryz.isAgg2
 z2:=Tryz.sizeOf2
 v2:=Tryz.zeroValue2
 t3:=Tryz.underlying3
 a3:=Tryz.isAgg3
 z3:=Tryz.sizeOf3
 v3:=Tryz.zeroValue3
 t4:=Tryz.underlying4
 a4:=Tryz.isAgg4
 z4:=Tryz.sizeOf4
 v4:=Tryz.zeroValue4
 t5:=Tryz.underlying5
 a5:=Tryz.isAgg5
 z5:=Tryz.sizeOf5
 v5:=Tryz.zeroValue5
 t9:=Tryz.underlying9
 a9:=Tryz.isAgg9
 z9:=Tryz.sizeOf9
 v9:=Tryz.zeroValue9
 t20:=Tryz.underlying20
 a20:=Tryz.isAgg20
 z20:=Tryz.sizeOf20
 v20:=Tryz.zeroValue20
 t21:=Tryz.underlying21
 a21:=Tryz.isAgg21
 z21:=Tryz.sizeOf21
 v21:=Tryz.zeroValue21
 t37:=Tryz.underlying67
 a37:=Tryz.isAgg67
 z37:=Tryz.sizeOf67
 v37:=Tryz.zeroValue67
 t46:=Tryz.underlying175
 a46:=Tryz.isAgg175
 z46:=Tryz.sizeOf175
 v46:=Tryz.zeroValue175
 t51:=Tryz.underlying213
 a51:=Tryz.isAgg213
 z51:=Tryz.sizeOf213
 v51:=Tryz.zeroValue213
 t53:=Tryz.underlying198
 a53:=Tryz.isAgg198
 z53:=Tryz.sizeOf198
 v53:=Tryz.zeroValue198
 t75:=Tryz.underlying71
 a75:=Tryz.isAgg71
 z75:=Tryz.sizeOf71
 v75:=Tryz.zeroValue71
 t76:=Tryz.underlying72
 a76:=Tryz.isAgg72
 z76:=Tryz.sizeOf72
 v76:=Tryz.zeroValue72
 t85:=Tryz.underlying179
 a85:=Tryz.isAgg179
 z85:=Tryz.sizeOf179
 v85:=Tryz.zeroValue179
 t127:=Tryz.underlying120
 a127:=Tryz.isAgg120
 z127:=Tryz.sizeOf120
 v127:=Tryz.zeroValue120
 t143:=Tryz.underlying238
 a143:=Tryz.isAgg238
 z143:=Tryz.sizeOf238
 v143:=Tryz.zeroValue238
 t145:=Tryz.underlying240
 a145:=Tryz.isAgg240
 z145:=Tryz.sizeOf240
 v145:=Tryz.zeroValue240
 t167:=Tryz.underlying178
 a167:=Tryz.isAgg178
 z167:=Tryz.sizeOf178
 v167:=Tryz.zeroValue178
 t168:=Tryz.underlying181
 a168:=Tryz.isAgg181
 z168:=Tryz.sizeOf181
 v168:=Tryz.zeroValue181
 t171:=Tryz.underlying204
 a171:=Tryz.isAgg204
 z171:=Tryz.sizeOf204
 v171:=Tryz.zeroValue204
 t173:=Tryz.underlying207
 a173:=Tryz.isAgg207
 z173:=Tryz.sizeOf207
 v173:=Tryz.zeroValue207
 t175:=Tryz.underlying217
 a175:=Tryz.isAgg217
 z175:=Tryz.sizeOf217
 v175:=Tryz.zeroValue217
 t210:=Tryz.underlying220
 a210:=Tryz.isAgg220
 z210:=Tryz.sizeOf220
 v210:=Tryz.zeroValue220
 t212:=Tryz.underlying233
 a212:=Tryz.isAgg233
 z212:=Tryz.sizeOf233
 v212:=Tryz.zeroValue233
 t213:=Tryz.underlying234
 a213:=Tryz.isAgg234
 z213:=Tryz.sizeOf234
 t232:=Tryz.underlying254
 a232:=Tryz.isAgg254
 z232:=Tryz.sizeOf254
 v232:=Tryz.zeroValue254
 t233:=Tryz.underlying255
 a233:=Tryz.isAgg255
 z233:=Tryz.sizeOf255
 v233:=Tryz.zeroValue255
 g15:=zb
 g16:=zb
 g17:=zb
 g18:=zb
 g19:=by kernel_rfl }
end Go.Proofs
namespace Go.Proofs.YtoaelidmmcbkfaaGreatDoor
open Go.Shelf Go.RowKit Go.Lib Dw
theorem decFrom_dec:∀ (l:List UInt8) (n:Nat),l.all dgB=true→Lib.decFrom n l=some (l.foldl (fun n c=>10*n+(c.toNat - 48)) n)
 | [],n,_=>rfl
 | c::l,n,h=>by
  simp only [List.all_cons,cU] at h;have hd:Lib.digitVal c=some (c.toNat - 48):=by unfold Lib.digitVal;rw [aE ((dgB_iff c).1 h.1)]
  unfold Lib.decFrom;rw [hd]
  show Lib.decFrom (n*10+(c.toNat - 48)) l=_
  rw [decFrom_dec l _ h.2,List.foldl_cons,aP n 10]
theorem atoi_dec {l:List UInt8} (hl:l≠[]) (h:l.all dgB=true):Lib.atoi l=some ((zBL l:Nat):Int):=by
 cases l with
 | nil=>exact absurd rfl hl
 | cons c l =>
  have hc:48≤c.toNat∧c.toNat≤57:=by
   simp only [List.all_cons,cU] at h;exact (dgB_iff c).1 h.1
  have e1:(c == 45)=false:=by
   rw [aG];intro e;rw [e] at hc;have h2:=hc.1;simp at h2
  have e2:(c == 43)=false:=by
   rw [aG];intro e;rw [e] at hc;have h2:=hc.1;simp at h2
  show (if (c == 45)=true then _ else if (c == 43)=true then _ else (Lib.decNat (c::l)).map fun (m:Nat)=>(m:Int))=_
  rw [e1,e2];have e3:Lib.decNat (c::l)=some (zBL (c::l)):=decFrom_dec (c::l) 0 h;simp [e3]
theorem below_bytes (w:World) (e:TypeId) (t:BA):Below w.heap.size w (Lib.bytesWorld w e t) :=
 ⟨rfl,rfl,rfl,by simp [Lib.bytesWorld,World.freeze,World.alloc,World.drew,-World.alloc_eq,-World.drew_eq],fun k hk=>Lib.bytesWorld_at_old w e t k hk⟩
theorem atoi_c (s:BA) (w:World) (h0:0<s.size) (h1:s.size≤18) (h:s.data.toList.all dgB=true) :
  Calls Tryz.prog 69 #[.string s] w (zAe (.tuple #[.int .i64 ((zBL s.data.toList:Nat):Int),.nilIface]) w):=by
 have hn:s.data.toList≠[]:=fun e=>by
  have:=Lib.size_eq s;rw [e,dA] at this;omega
 have hA:=Any.strconv_Atoi Tryz.lays172 s _ h1 (atoi_dec hn h) w
 change Calls Tryz.prog 69 _ _ _ at hA
 refine hA.mono fun e w' ⟨he,t,hw⟩=>⟨he,?_⟩
 rw [hw];exact below_bytes w _ t
end Go.Proofs.YtoaelidmmcbkfaaGreatDoor
namespace Go.Proofs
open Go.Shelf
def Tryz.lays146_ren:Go.Shelf.Ren:=⟨fun | 146=>10 | 221=>26 | 268=>63 | 138=>64 | 143=>65 | 195=>91 | 197=>92 | 218=>93 | 219=>94 | 260=>127 | 217=>128 | 225=>129 | 224=>130 | 267=>131 | 266=>173 | 314=>174 | n=>n,fun | 9=>9 | 31=>23 | 3=>3 | 4=>4 | 0=>0 | 105=>139 | 21=>21 | 5=>5 | 46=>175 | 119=>209 | 139=>212 | 138=>211 | 146=>214 | 51=>213 | n=>n,fun | 1=>0 | 3=>1 | 4=>2 | n=>n⟩
theorem Tryz.lays146:Go.Proofs.Lays.n146 Tryz.prog Tryz.lays146_ren:={
 mixed:=zb
 f138:=Tryz.func64.trans (aV some zb)
 f143:=Tryz.func65.trans (aV some zb)
 f146:=Tryz.func10.trans (aV some zb)
 f195:=Tryz.func91.trans (aV some zb)
 f197:=Tryz.func92.trans (aV some zb)
 f217:=Tryz.func128.trans (aV some zb)
 f218:=Tryz.func93.trans (aV some zb)
 f219:=Tryz.func94.trans (aV some zb)
 f221:=Tryz.func26.trans (aV some zb)
 f224:=Tryz.func130.trans (aV some zb)
 f225:=Tryz.func129.trans (aV some zb)
 f260:=Tryz.func127.trans (aV some zb)
 f266:=Tryz.func173.trans (aV some zb)
 f267:=Tryz.func131.trans (aV some zb)
 f268:=Tryz.func63.trans (aV some zb)
 f314:=Tryz.func174.trans (aV some zb)
 t0:=Tryz.underlying0
 a0:=Tryz.isAgg0
 z0:=Tryz.sizeOf0
 v0:=Tryz.zeroValue0
 t3:=Tryz.underlying3
 a3:=Tryz.isAgg3
 z3:=Tryz.sizeOf3
 v3:=Tryz.zeroValue3
 t4:=Tryz.underlying4
 a4:=Tryz.isAgg4
 z4:=Tryz.sizeOf4
 v4:=Tryz.zeroValue4
 t5:=Tryz.underlying5
 a5:=Tryz.isAgg5
 z5:=Tryz.sizeOf5
 v5:=Tryz.zeroValue5
 t9:=Tryz.underlying9
 a9:=Tryz.isAgg9
 z9:=Tryz.sizeOf9
 v9:=Tryz.zeroValue9
 t21:=Tryz.underlying21
 a21:=Tryz.isAgg21
 z21:=Tryz.sizeOf21
 v21:=Tryz.zeroValue21
 t31:=Tryz.underlying23
 a31:=Tryz.isAgg23
 z31:=Tryz.sizeOf23
 v31:=Tryz.zeroValue23
 t46:=Tryz.underlying175
 a46:=Tryz.isAgg175
 z46:=Tryz.sizeOf175
 v46:=Tryz.zeroValue175
 t51:=Tryz.underlying213
 a51:=Tryz.isAgg213
 z51:=Tryz.sizeOf213
 v51:=Tryz.zeroValue213
 t105:=Tryz.underlying139
 a105:=Tryz.isAgg139
 z105:=Tryz.sizeOf139
 v105:=Tryz.zeroValue139
 t119:=Tryz.underlying209
 a119:=Tryz.isAgg209
 z119:=Tryz.sizeOf209
 t138:=Tryz.underlying211
 a138:=Tryz.isAgg211
 z138:=Tryz.sizeOf211
 v138:=Tryz.zeroValue211
 t139:=Tryz.underlying212
 a139:=Tryz.isAgg212
 z139:=Tryz.sizeOf212
 v139:=Tryz.zeroValue212
 t146:=Tryz.underlying214
 a146:=Tryz.isAgg214
 z146:=Tryz.sizeOf214
 v146:=Tryz.zeroValue214
 g1:=zb
 g3:=zb
 g4:=by kernel_rfl }
def Tryz.lays145_ren:Go.Shelf.Ren:=⟨fun | 145=>78 | 220=>115 | 219=>94 | 217=>128 | 225=>129 | 224=>130 | 267=>131 | 266=>173 | 314=>174 | n=>n,fun | 9=>9 | 4=>4 | 59=>129 | 3=>3 | 5=>5 | 46=>175 | 146=>214 | 51=>213 | n=>n,fun | 1=>0 | n=>n⟩
theorem Tryz.lays145:Go.Proofs.Lays.n145 Tryz.prog Tryz.lays145_ren:={
 mixed:=zb
 f145:=Tryz.func78.trans (aV some zb)
 f217:=Tryz.func128.trans (aV some zb)
 f219:=Tryz.func94.trans (aV some zb)
 f220:=Tryz.func115.trans (aV some zb)
 f224:=Tryz.func130.trans (aV some zb)
 f225:=Tryz.func129.trans (aV some zb)
 f266:=Tryz.func173.trans (aV some zb)
 f267:=Tryz.func131.trans (aV some zb)
 f314:=Tryz.func174.trans (aV some zb)
 t3:=Tryz.underlying3
 a3:=Tryz.isAgg3
 z3:=Tryz.sizeOf3
 v3:=Tryz.zeroValue3
 t4:=Tryz.underlying4
 a4:=Tryz.isAgg4
 z4:=Tryz.sizeOf4
 v4:=Tryz.zeroValue4
 t5:=Tryz.underlying5
 a5:=Tryz.isAgg5
 z5:=Tryz.sizeOf5
 v5:=Tryz.zeroValue5
 t9:=Tryz.underlying9
 a9:=Tryz.isAgg9
 z9:=Tryz.sizeOf9
 v9:=Tryz.zeroValue9
 t46:=Tryz.underlying175
 a46:=Tryz.isAgg175
 z46:=Tryz.sizeOf175
 v46:=Tryz.zeroValue175
 t51:=Tryz.underlying213
 a51:=Tryz.isAgg213
 z51:=Tryz.sizeOf213
 v51:=Tryz.zeroValue213
 t59:=Tryz.underlying129
 a59:=Tryz.isAgg129
 z59:=Tryz.sizeOf129
 v59:=Tryz.zeroValue129
 t146:=Tryz.underlying214
 a146:=Tryz.isAgg214
 z146:=Tryz.sizeOf214
 v146:=Tryz.zeroValue214
 g1:=by kernel_rfl }
def Tryz.lays101_ren:Go.Shelf.Ren:=⟨fun | 101=>80 | 208=>116 | 206=>77 | n=>n,fun | 9=>9 | 4=>4 | 3=>3 | n=>n,fun | n=>n⟩
theorem Tryz.lays101:Go.Proofs.Lays.n101 Tryz.prog Tryz.lays101_ren:={
 mixed:=zb
 f101:=Tryz.func80.trans (aV some zb)
 f206:=Tryz.func77.trans (aV some zb)
 f208:=Tryz.func116.trans (aV some zb)
 t3:=Tryz.underlying3
 a3:=Tryz.isAgg3
 z3:=Tryz.sizeOf3
 v3:=Tryz.zeroValue3
 t4:=Tryz.underlying4
 a4:=Tryz.isAgg4
 z4:=Tryz.sizeOf4
 v4:=Tryz.zeroValue4
 t9:=Tryz.underlying9
 a9:=Tryz.isAgg9
 z9:=Tryz.sizeOf9
 v9:=Tryz.zeroValue9 }
def Tryz.laysp103_ren:Go.Shelf.Ren:=⟨fun | 103=>66 | 210=>95 | 206=>77 | n=>n,fun | 9=>9 | 4=>4 | 24=>57 | 3=>3 | n=>n,fun | n=>n⟩
theorem Tryz.laysp103:Go.Proofs.Lays.n103 Tryz.prog Tryz.laysp103_ren:={
 mixed:=zb
 f103:=Tryz.func66.trans (aV some zb)
 f206:=Tryz.func77.trans (aV some zb)
 f210:=Tryz.func95.trans (aV some zb)
 t3:=Tryz.underlying3
 a3:=Tryz.isAgg3
 z3:=Tryz.sizeOf3
 v3:=Tryz.zeroValue3
 t4:=Tryz.underlying4
 a4:=Tryz.isAgg4
 z4:=Tryz.sizeOf4
 v4:=Tryz.zeroValue4
 t9:=Tryz.underlying9
 a9:=Tryz.isAgg9
 z9:=Tryz.sizeOf9
 v9:=Tryz.zeroValue9
 t24:=Tryz.underlying57
 a24:=Tryz.isAgg57
 z24:=Tryz.sizeOf57
 v24:=Tryz.zeroValue57 }
end Go.Proofs
