/- Parts of the proof, joined: Who has which part, plainly: parts as quotients, what a deed does with. -/
import Derived.Test.YtieoifkdobcpiaaGreatDoorSs25
import Derived.Lib.ItoaNum
import Derived.Shelf.Strings.Builder1
import Derived.Shelf.Strings.OnBuilder
import Derived.Shelf.Strings.BuilderF
import Derived.Shelf.Strings.BuilderK
import Derived.Shelf.LaysM
import Derived.Shelf.Strconv.Itoa3
import Derived.Lib.Join
import Derived.Laws.IdiomStrings
import Derived.Lib.QuietBelow
import Derived.Shelf.Strings.Repeat
set_option maxRecDepth 100000
set_option maxHeartbeats 8000000
namespace Go.Proofs.YtieoifkdobcpiaaGreatDoor
open Dw
abbrev zBp:=ByteArray→Rat
def upH (f:zBp) (p:ByteArray) (x:Rat):zBp:=fun q=>if q=p then x else f q
theorem zBD (f:zBp) (p:ByteArray) (x:Rat):upH f p x p=x:=if_pos rfl
theorem zAN (f:zBp) {p q:ByteArray} (x:Rat) (h:q≠p):upH f p x q=f q:=if_neg h
def zCT (nu de:ByteArray):Rat:=mkRat (zAy (zAX nu):Int) (zAy de)
def shQ (s:Sh):Rat:=zCT s.nu s.de
def zAj (l:List Sh) (f:zBp):zBp:=l.foldl (fun g s=>upH g s.pt (shQ s)) f
def orgB (th:ByteArray) (day:Int) (d:De):Bool:=decide (d.kd=1)&&(decide (d.th=th)&&decide (d.bg≤day))
def orgF (th:ByteArray) (day:Int) (f:zBp) (d:De):zBp:=if orgB th day d=true then zAj d.sh f else f
def zBA (has:Rat) (l:List Sh) (f:zBp):zBp:=l.foldl (fun g s=>upH g s.pt (g s.pt+has*shQ s)) f
def giveF (d:De) (f:zBp):zBp:=upH (upH f d.fr (f d.fr - f d.fr*zCT d.nu d.de)) d.to_ (upH f d.fr (f d.fr - f d.fr*zCT d.nu d.de) d.to_+f d.fr*zCT d.nu d.de)
def zCR (d:De) (f:zBp):zBp:=if d.kd=5 then zBA (f d.fr) d.sh (upH f d.fr 0) else giveF d f
def zDE (rs:List Rg) (ds:List De) (i:Nat) (th use:ByteArray) (day:Int) (d:De):Bool :=
 if d.kd=2 then decide (d.th=th)&&vB rs ds i use day d else if d.kd=5 then decide (d.bg≤day) else false
def stepF (mv:De→Bool) (f:zBp) (d:De):zBp:=if mv d=true then zCR d f else f
def zDo (th:ByteArray) (day:Int) (ds:List De):zBp:=ds.foldl (orgF th day) (fun _=>0)
def zAD (rs:List Rg) (ds:List De) (i:Nat) (th use:ByteArray) (day:Int) (n:Nat):zBp:=(ds.take n).foldl (stepF (zDE rs ds i th use day)) (zDo th day ds)
def zCF (q:Rat):Bool:=decide (10 ^ 2000≤q.num.natAbs) || decide (10 ^ 2000≤q.den)
def sumF (N:List ByteArray) (f:zBp):Rat:=N.foldr (fun p s=>f p+s) 0
theorem sumF_nil (f:zBp):sumF [] f=0:=rfl
theorem zCZ (p:ByteArray) (N:List ByteArray) (f:zBp):sumF (p::N) f=f p+sumF N f:=rfl
theorem sumF_congr {N:List ByteArray} {f g:zBp} (h:∀ p∈N,f p=g p):sumF N f=sumF N g:=by
 induction N with
 | nil=>rfl
 | cons p N ih=>rw [zCZ,zCZ,h p List.mem_cons_self,ih fun q hq=>h q (List.mem_cons_of_mem _ hq)]
theorem sumF_up {N:List ByteArray} (hn:N.Nodup) {p:ByteArray} (hp:p∈N) (f:zBp) (x:Rat):sumF N (upH f p x)=sumF N f - f p+x:=by
 induction N with
 | nil=>cases hp
 | cons a N ih =>
  obtain ⟨h1,h2⟩:=List.nodup_cons.1 hn;rw [zCZ,zCZ]
  by_cases ha:a=p
  ·subst ha
   rw [zBD,sumF_congr (f:=upH f a x) (g:=f) fun q hq=>zAN f x (fun e=>h1 (by rw [←e];exact hq))]
   grind
  ·rw [zAN f x ha,ih h2 ((List.mem_cons.1 hp).resolve_left fun e=>ha e.symm)]
   grind
theorem sumF_zero (N:List ByteArray):sumF N (fun _=>0)=0:=by
 induction N with
 | nil=>rfl
 | cons p N ih=>rw [zCZ,ih];grind
def zBT (l:List Sh):Rat:=l.foldr (fun s t=>shQ s+t) 0
theorem sumF_pass {N:List ByteArray} (hn:N.Nodup) (has:Rat):∀ (l:List Sh) (f:zBp),(∀ s∈l,s.pt∈N)→sumF N (zBA has l f)=sumF N f+has*zBT l
 | [],f,_=>by show sumF N f=sumF N f+has*0;grind
 | s::l,f,h=>by
  have ih:=sumF_pass hn has l (upH f s.pt (f s.pt+has*shQ s)) fun t ht=>h t (List.mem_cons_of_mem _ ht)
  show sumF N (zBA has l (upH f s.pt (f s.pt+has*shQ s)))=_
  rw [ih,sumF_up hn (h s List.mem_cons_self)]
  show _=sumF N f+has*(shQ s+zBT l)
  grind
theorem sumF_give {N:List ByteArray} (hn:N.Nodup) (d:De) (f:zBp) (h1:d.fr∈N) (h2:d.to_∈N):sumF N (giveF d f)=sumF N f:=by
 unfold giveF;rw [sumF_up hn h2,sumF_up hn h1]
 grind
theorem sumF_take {N:List ByteArray} (hn:N.Nodup) (d:De) (f:zBp) (h1:d.fr∈N) (h2:d.kd≠5→d.to_∈N) (h3:d.kd=5→∀ s∈d.sh,s.pt∈N) (h4:d.kd=5→zBT d.sh=1):sumF N (zCR d f)=sumF N f:=by
 unfold zCR
 by_cases hk:d.kd=5
 ·rw [if_pos hk,sumF_pass hn _ _ _ (h3 hk),sumF_up hn h1,h4 hk]
  grind
 ·rw [if_neg hk,sumF_give hn d f h1 (h2 hk)]
theorem sumF_put {N:List ByteArray} (hn:N.Nodup):∀ (l:List Sh) (f:zBp),(∀ s∈l,s.pt∈N)→(l.map Sh.pt).Nodup→(∀ s∈l,f s.pt=0)→sumF N (zAj l f)=sumF N f+zBT l
 | [],f,_,_,_=>by show sumF N f=sumF N f+0;grind
 | s::l,f,h,hd,h0=>by
  rw [List.map_cons] at hd;obtain ⟨h1,h2⟩:=List.nodup_cons.1 hd
  have ih:=sumF_put hn l (upH f s.pt (shQ s)) (fun t ht=>h t (List.mem_cons_of_mem _ ht)) h2 (fun t ht=>by
   rw [zAN _ _ (fun e=>h1 (by rw [←e];exact List.mem_map_of_mem ht))]
   exact h0 t (List.mem_cons_of_mem _ ht))
  show sumF N (zAj l (upH f s.pt (shQ s)))=_
  rw [ih,sumF_up hn (h s List.mem_cons_self),h0 s List.mem_cons_self]
  show _=sumF N f+(shQ s+zBT l)
  grind
structure HoldOk (N:List ByteArray) (f:zBp):Prop where
 pos:∀ p,0≤f p
 out:∀ p,p∉N→f p=0
theorem zEd (nu de:ByteArray):0≤zCT nu de:=by
 unfold zCT;rw [←Rat.num_nonneg,Rat.num_mkRat]
 split
 ·exact Int.le_refl _
 ·exact Int.ediv_nonneg (Int.natCast_nonneg _) (Int.natCast_nonneg _)
theorem shQ_pos (s:Sh):0≤shQ s:=zEd _ _
section
variable {N:List ByteArray} {f:zBp}
theorem HoldOk.up (h:HoldOk N f) {p:ByteArray} {x:Rat} (hp:p∈N) (hx:0≤x):HoldOk N (upH f p x) :=
 ⟨fun q=>by
  by_cases hq:q=p
  ·subst hq;rw [zBD];exact hx
  ·rw [zAN _ _ hq];exact h.pos q,
  fun q hq=>by rw [zAN _ _ (fun e=>hq (by rw [e];exact hp))];exact h.out q hq⟩
theorem HoldOk.put:∀ (l:List Sh) (f:zBp),HoldOk N f→(∀ s∈l,s.pt∈N)→HoldOk N (zAj l f)
 | [],_,h,_=>h
 | s::l,f,h,hs=>HoldOk.put l (upH f s.pt (shQ s)) (h.up (hs s List.mem_cons_self) (shQ_pos s)) fun t ht=>hs t (List.mem_cons_of_mem _ ht)
theorem HoldOk.pass {has:Rat} (hh:0≤has):∀ (l:List Sh) (f:zBp),HoldOk N f→(∀ s∈l,s.pt∈N)→HoldOk N (zBA has l f)
 | [],_,h,_=>h
 | s::l,f,h,hs=>HoldOk.pass hh l (upH f s.pt (f s.pt+has*shQ s)) (h.up (hs s List.mem_cons_self) (by
   have:=h.pos s.pt;have:=Rat.mul_nonneg hh (shQ_pos s)
   grind)) fun t ht=>hs t (List.mem_cons_of_mem _ ht)
theorem part_le {a q:Rat} (ha:0≤a) (hq:q≤1):0≤a - a*q:=by
 have:=Rat.mul_le_mul_of_nonneg_left hq ha
 grind
theorem HoldOk.give (h:HoldOk N f) (d:De) (h1:d.fr∈N) (h2:d.to_∈N) (hq:zCT d.nu d.de≤1):HoldOk N (giveF d f):=by
 unfold giveF;have k1:HoldOk N (upH f d.fr (f d.fr - f d.fr*zCT d.nu d.de)):=h.up h1 (part_le (h.pos _) hq);refine k1.up h2 ?_
 have a:=k1.pos d.to_;have b:=Rat.mul_nonneg (h.pos d.fr) (zEd d.nu d.de)
 grind
theorem HoldOk.take (h:HoldOk N f) (d:De) (h1:d.fr∈N) (h2:d.kd≠5→d.to_∈N) (h3:d.kd=5→∀ s∈d.sh,s.pt∈N) (hq:d.kd≠5→zCT d.nu d.de≤1):HoldOk N (zCR d f):=by
 unfold zCR
 by_cases hk:d.kd=5
 ·rw [if_pos hk];exact HoldOk.pass (h.pos _) _ _ (h.up h1 (by grind)) (h3 hk)
 ·rw [if_neg hk];exact h.give d h1 (h2 hk) (hq hk)
end
def zDV (p:ByteArray):List ByteArray→List ByteArray
 | []=>[p]
 | a::l=>if a=p then a::l else if slt p a=true then p::a::l else a::zDV p l
def IncN (l:List ByteArray):Prop:=l.Pairwise fun a b=>slt a b=true
theorem zAP {p q:ByteArray}:∀ {l:List ByteArray},q∈zDV p l↔q=p∨q∈l
 | []=>by simp [zDV]
 | a::l=>by
  unfold zDV
  split
  ·next h=>subst h;simp
  ·split
   ·simp
   ·rw [List.mem_cons,zAP (l:=l),List.mem_cons]
    constructor
    ·rintro (h | h | h)<;>simp [h]
    ·rintro (h | h | h)<;>simp [h]
theorem slt_of_ne {a b:ByteArray} (h:a≠b) (h2:slt b a=false):slt a b=true:=by
 cases hs:sle b a with
 | false=>exact zBG hs
 | true =>
  exfalso
  have h3:(slt b a || b.toList == a.toList)=true:=hs
  rw [h2,Bool.false_or] at h3;exact h (str_eq h3).symm
theorem IncN.ins {p:ByteArray}:∀ {l:List ByteArray},IncN l→IncN (zDV p l)
 | [],_=>by simp [zDV,IncN]
 | a::l,h=>by
  obtain ⟨h1,h2⟩:=List.pairwise_cons.1 h;unfold zDV
  split
  ·exact h
  ·next hne =>
   split
   ·next hlt =>
    refine List.pairwise_cons.2 ⟨fun b hb=>?_,h⟩
    rcases List.mem_cons.1 hb with rfl | hb
    ·exact hlt
    ·exact zDO hlt (h1 b hb)
   ·next hlt =>
    refine List.pairwise_cons.2 ⟨fun b hb=>?_,IncN.ins h2⟩
    rcases zAP.1 hb with rfl | hb
    ·exact slt_of_ne hne (by simpa using hlt)
    ·exact h1 b hb
theorem IncN.nodup {l:List ByteArray} (h:IncN l):l.Nodup:=h.imp fun h=>zDa h
theorem slt_irr (a:ByteArray):slt a a=false:=by
 cases h:slt a a with
 | false=>rfl
 | true=>exact absurd rfl (zDa h)
theorem incN_ext:∀ {l m:List ByteArray},IncN l→IncN m→(∀ x,x∈l↔x∈m)→l=m
 | [],[],_,_,_=>rfl
 | [],b::m,_,_,h=>absurd ((h b).2 List.mem_cons_self) ze
 | a::l,[],_,_,h=>absurd ((h a).1 List.mem_cons_self) ze
 | a::l,b::m,h1,h2,h=>by
  obtain ⟨k1,k2⟩:=List.pairwise_cons.1 h1;obtain ⟨k3,k4⟩:=List.pairwise_cons.1 h2
  have hab:a=b:=by
   rcases List.mem_cons.1 ((h a).1 List.mem_cons_self) with e | e
   ·exact e
   ·rcases List.mem_cons.1 ((h b).2 List.mem_cons_self) with e2 | e2
    ·exact e2.symm
    ·have:=zDO (k1 b e2) (k3 a e)
     rw [slt_irr] at this
     cases this
  subst hab
  congr 1
  refine incN_ext k2 k4 fun x=>?_
  have hx:=h x;rw [List.mem_cons,List.mem_cons] at hx
  constructor
  ·intro hm
   rcases hx.1 (.inr hm) with e | e
   ·subst e;exact absurd rfl (zDa (k1 x hm))
   ·exact e
  ·intro hm
   rcases hx.2 (.inr hm) with e | e
   ·subst e;exact absurd rfl (zDa (k3 x hm))
   ·exact e
def zBi (l:List Sh) (K:List ByteArray):List ByteArray:=l.foldl (fun K s=>zDV s.pt K) K
def zAK (th:ByteArray) (day:Int) (K:List ByteArray) (d:De):List ByteArray:=if orgB th day d=true then zBi d.sh K else K
def zAu (d:De) (K:List ByteArray):List ByteArray:=if d.kd=5 then zBi d.sh (zDV d.fr K) else zDV d.to_ (zDV d.fr K)
def zBb (mv:De→Bool) (K:List ByteArray) (d:De):List ByteArray:=if mv d=true then zAu d K else K
def zDK (th:ByteArray) (day:Int) (ds:List De):List ByteArray:=ds.foldl (zAK th day) []
def zBz (rs:List Rg) (ds:List De) (i:Nat) (th use:ByteArray) (day:Int) (n:Nat):List ByteArray:=(ds.take n).foldl (zBb (zDE rs ds i th use day)) (zDK th day ds)
theorem zDx:∀ (l:List Sh) {K:List ByteArray},IncN K→IncN (zBi l K)
 | [],_,h=>h
 | _::l,_,h=>zDx l h.ins
theorem zAV:∀ (l:List Sh) {K:List ByteArray} {q:ByteArray},q∈zBi l K↔(∃ s∈l,s.pt=q)∨q∈K
 | [],K,q=>by simp [zBi]
 | s::l,K,q=>by
  show q∈zBi l (zDV s.pt K)↔_
  rw [zAV l,zAP]
  constructor
  ·rintro (⟨t,ht,e⟩ | e | h)
   ·exact .inl ⟨t,List.mem_cons_of_mem _ ht,e⟩
   ·exact .inl ⟨s,List.mem_cons_self,e.symm⟩
   ·exact .inr h
  ·rintro (⟨t,ht,e⟩ | h)
   ·rcases List.mem_cons.1 ht with rfl | ht
    ·exact .inr (.inl e.symm)
    ·exact .inl ⟨t,ht,e⟩
   ·exact .inr (.inr h)
theorem zCY (d:De) {K:List ByteArray} (h:IncN K):IncN (zAu d K):=by
 unfold zAu
 split
 ·exact zDx _ h.ins
 ·exact h.ins.ins
theorem HoldOk.mono {N M:List ByteArray} {f:zBp} (h:HoldOk N f) (hs:∀ p∈N,p∈M):HoldOk M f:=⟨h.pos,fun p hp=>h.out p fun hm=>hp (hs p hm)⟩
theorem HoldOk.takeK {K:List ByteArray} {f:zBp} (h:HoldOk K f) (d:De) (hq:d.kd≠5→zCT d.nu d.de≤1):HoldOk (zAu d K) (zCR d f):=by
 have hs:∀ p∈K,p∈zAu d K:=fun p hp=>by
  unfold zAu
  split
  ·exact (zAV _).2 (.inr (zAP.2 (.inr hp)))
  ·exact zAP.2 (.inr (zAP.2 (.inr hp)))
 have h1:d.fr∈zAu d K:=by
  unfold zAu
  split
  ·exact (zAV _).2 (.inr (zAP.2 (.inl rfl)))
  ·exact zAP.2 (.inr (zAP.2 (.inl rfl)))
 refine (h.mono hs).take d h1 (fun hk=>?_) (fun hk s hs=>?_) hq
 ·unfold zAu
  rw [if_neg hk];exact zAP.2 (.inl rfl)
 ·unfold zAu
  rw [if_pos hk];exact (zAV _).2 (.inl ⟨s,hs,rfl⟩)
theorem HoldOk.orgK {K:List ByteArray} {f:zBp} (h:HoldOk K f) (th:ByteArray) (day:Int) (d:De):HoldOk (zAK th day K d) (orgF th day f d):=by
 unfold zAK orgF
 split
 ·exact HoldOk.put _ _ (h.mono fun p hp=>(zAV _).2 (.inr hp)) fun s hs=>(zAV _).2 (.inl ⟨s,hs,rfl⟩)
 ·exact h
theorem keysOrg_inc (th:ByteArray) (day:Int) (d:De) {K:List ByteArray} (h:IncN K):IncN (zAK th day K d):=by
 unfold zAK
 split
 ·exact zDx _ h
 ·exact h
theorem start_ok (th:ByteArray) (day:Int):∀ (ds:List De) (K:List ByteArray) (f:zBp),IncN K→HoldOk K f→IncN (ds.foldl (zAK th day) K)∧HoldOk (ds.foldl (zAK th day) K) (ds.foldl (orgF th day) f)
 | [],_,_,h1,h2=>⟨h1,h2⟩
 | d::ds,K,f,h1,h2=>start_ok th day ds (zAK th day K d) (orgF th day f d) (keysOrg_inc th day d h1) (h2.orgK th day d)
theorem steps_ok (mv:De→Bool):∀ (ds:List De) (K:List ByteArray) (f:zBp),(∀ d∈ds,mv d=true→d.kd≠5→zCT d.nu d.de≤1)→IncN K→HoldOk K f →
  IncN (ds.foldl (zBb mv) K)∧HoldOk (ds.foldl (zBb mv) K) (ds.foldl (stepF mv) f)
 | [],_,_,_,h1,h2=>⟨h1,h2⟩
 | d::ds,K,f,hq,h1,h2=>by
  refine steps_ok mv ds (zBb mv K d) (stepF mv f d) (fun e he=>hq e (List.mem_cons_of_mem _ he)) ?_ ?_
  ·unfold zBb
   split
   ·exact zCY d h1
   ·exact h1
  ·unfold zBb stepF
   split
   ·next hm=>exact h2.takeK d (hq d List.mem_cons_self hm)
   ·exact h2
theorem hold_none:HoldOk [] (fun _=>0):=⟨fun _=>zd,fun _ _=>rfl⟩
def holL (K:List ByteArray) (f:zBp):List ByteArray:=K.filter fun p=>decide (f p≠0)
theorem holL_inc {K:List ByteArray} {f:zBp} (h:IncN K):IncN (holL K f):=List.Pairwise.filter _ h
theorem holL_mem {K:List ByteArray} {f:zBp} (h:HoldOk K f) {p:ByteArray}:p∈holL K f↔f p≠0:=by
 unfold holL;rw [List.mem_filter]
 constructor
 ·exact fun hp=>by simpa using hp.2
 ·intro hp
  refine ⟨?_,by simpa using hp⟩
  refine Classical.byContradiction fun hn=>hp (h.out p hn)
def toQ (p:Nat×Nat):Rat:=mkRat (p.1:Int) p.2
theorem toQ_low {n d:Nat} (hd:0<d):toQ (zBV n d)=mkRat (n:Int) d:=by
 have hg:0<Nat.gcd n d:=Nat.gcd_pos_of_pos_right _ hd;have h1:=Nat.div_mul_cancel (Nat.gcd_dvd_left n d);have h2:=Nat.div_mul_cancel (Nat.gcd_dvd_right n d)
 have h3:d / Nat.gcd n d≠0:=by
  intro h;rw [h] at h2;omega
 unfold toQ zBV;rw [Rat.mkRat_eq_iff h3 za]
 have:n / Nat.gcd n d*d=n*(d / Nat.gcd n d):=by
  clear h3;generalize Nat.gcd n d=g at *
  calc n / g*d=n / g*(d / g*g):=by rw [h2]
   _=(n / g*g)*(d / g):=by rw [Nat.mul_assoc,Nat.mul_comm g]
   _=n*(d / g):=by rw [h1]
 exact_mod_cast this
theorem toQ_add {p q:Nat×Nat} (hp:0<p.2) (hq:0<q.2):toQ (addP p q)=toQ p+toQ q:=by
 unfold addP;rw [toQ_low (Nat.mul_pos hp hq)];unfold toQ;rw [Rat.mkRat_add_mkRat _ _ za za];simp
theorem addP_pos {p q:Nat×Nat} (hp:0<p.2) (hq:0<q.2):0<(addP p q).2:=by
 have hd:=Nat.mul_pos hp hq;exact Nat.div_pos (Nat.le_of_dvd hd (Nat.gcd_dvd_right _ _)) (Nat.gcd_pos_of_pos_right _ hd)
theorem sumP_toQ {l:List Sh} (h:∀ s∈l,0<zAy s.de):∀ k,k≤l.length→0<(zCO l k).2∧toQ (zCO l k)=zBT (l.take k)
 | 0,_=>⟨ji,by rw [sumP_zero];rfl⟩
 | k+1,hk=>by
  obtain ⟨h1,h2⟩:=sumP_toQ h k za;have hs:=h _ (List.getElem_mem (show k<l.length by omega))
  rw [sumP_succ (show k<l.length by omega)]
  refine ⟨addP_pos h1 hs,?_⟩
  rw [toQ_add h1 hs,h2,List.take_succ_eq_append_getElem (show k<l.length by omega)]
  have e:∀ (m:List Sh) (s:Sh),zBT (m++[s])=zBT m+shQ s:=fun m s=>by
   induction m with
   | nil=>show shQ s+0=0+shQ s;grind
   | cons a m ih=>show shQ a+zBT (m++[s])=shQ a+zBT m+shQ s;rw [ih];grind
  rw [e]
  rfl
structure ShsOk (l:List Sh):Prop where
 nd:(l.map Sh.pt).Nodup
 nm:∀ s∈l,zBj s.pt=true
 rat:∀ s∈l,zDm s.nu s.de=0
 pos:∀ s∈l,posB s.nu=true
theorem pts_inc {l:List Sh} (h:∀ i (hi:i+1<l.length),slt l[i].pt l[i+1].pt=true):(l.map Sh.pt).Nodup:=by
 have:=inc_pair (l:=l.map Sh.pt) (fun i hi=>by
  have h9:=h i yw
  simpa using h9)
 exact this.imp fun h=>zDa h
theorem shF_ok {k:Int} {l:List Sh} (h:shF k l=0):ShsOk l∧(zCO l l.length).1≤(zCO l l.length).2∧(k=5→(zCO l l.length).1=(zCO l l.length).2):=by
 unfold shF at h
 split at h
 ·cases h
 split at h
 ·cases h
 have key:∀ i f,zAS l i=some f→f≠0:=fun i f hf=>by
  unfold zAS at hf
  split at hf
  ·cases hf;simp
  ·split at hf
   ·cases hf;simp
   ·split at hf
    ·next h1=>cases hf;exact h1
    ·split at hf
     ·cases hf;simp
     ·cases hf
 split at h
 ·next f hf =>
  exfalso
  obtain ⟨i,_,hi⟩:=List.exists_of_findSome?_eq_some hf;exact key i f hi h
 next hn =>
 rw [List.findSome?_eq_none_iff] at hn
 have hall:∀ i (hi:i<l.length),zBj l[i].pt=true∧(0<i→sle l[i].pt (l[i - 1]'(by omega)).pt=false)∧zDm l[i].nu l[i].de=0∧posB l[i].nu=true:=fun i hi=>by
  have:=hn i yw;unfold zAS at this;rw [zDl hi,zDl (show i - 1<l.length by omega),shD_of hi] at this
  split at this
  ·cases this
  next h1 =>
  split at this
  ·cases this
  next h2 =>
  split at this
  ·cases this
  next h3 =>
  split at this
  ·cases this
  next h4 =>
  refine ⟨by simpa using h1,fun h0=>?_,by simpa using h3,by simpa using h4⟩
  cases hs:sle l[i].pt (l[i - 1]'(by omega)).pt with
  | false=>rfl
  | true=>exact absurd ⟨h0,hs⟩ h2
 refine ⟨⟨pts_inc fun i hi=>zBG ?_,fun s hs=>?_,fun s hs=>?_,fun s hs=>?_⟩,?_,?_⟩
 ·have:=(hall (i+1) hi).2.1 za
  simpa using this
 ·obtain ⟨i,hi,rfl⟩:=List.getElem_of_mem hs;exact (hall i hi).1
 ·obtain ⟨i,hi,rfl⟩:=List.getElem_of_mem hs;exact (hall i hi).2.2.1
 ·obtain ⟨i,hi,rfl⟩:=List.getElem_of_mem hs;exact (hall i hi).2.2.2
 ·split at h
  ·cases h
  ·omega
 ·split at h
  ·cases h
  ·next h9=>intro hk;omega
theorem zBL {nu de:ByteArray} (h:zDm nu de=0):0<zAy de:=by
 obtain ⟨_,h2,h3,_,_⟩:=zBY h;exact den_pos h2 h3
theorem toQ_one {p:Nat×Nat} (hp:0<p.2) (h:p.1=p.2):toQ p=1:=by
 unfold toQ;rw [h,show (1:Rat)=mkRat 1 1 from by decide,Rat.mkRat_eq_iff za za]
 simp
theorem toQ_le {p:Nat×Nat} (hp:0<p.2) (h:p.1≤p.2):toQ p≤1:=by
 have h1:toQ p+toQ (p.2 - p.1,p.2)=1:=by
  unfold toQ;rw [Rat.mkRat_add_mkRat _ _ za za,show (1:Rat)=mkRat 1 1 from by decide,Rat.mkRat_eq_iff (Nat.ne_of_gt (Nat.mul_pos hp hp)) za]
  have:((p.2 - p.1:Nat):Int)=(p.2:Int) - p.1:=za;simp only [this]
  push_cast
  grind
 have h2:0≤toQ (p.2 - p.1,p.2):=by
  unfold toQ;rw [←Rat.num_nonneg,Rat.num_mkRat]
  split
  ·exact Int.le_refl _
  ·exact Int.ediv_nonneg (Int.natCast_nonneg _) (Int.natCast_nonneg _)
 grind
theorem shs_sum {k:Int} {l:List Sh} (h:shF k l=0) (hk:k=5):zBT l=1:=by
 obtain ⟨h1,_,h3⟩:=shF_ok h;obtain ⟨p1,p2⟩:=sumP_toQ (fun s hs=>zBL (h1.rat s hs)) l.length (Nat.le_refl _)
 rw [List.take_length] at p2;rw [←p2,toQ_one p1 (h3 hk)]
theorem parF_ok {d:De} (h:parF d=0) (hk:d.kd=2):zDm d.nu d.de=0∧posB d.nu=true∧zCT d.nu d.de≤1:=by
 unfold parF at h;rw [if_neg (by rw [hk];simp)] at h
 split at h
 ·next h1=>exact absurd h h1
 next h1 =>
 have h1':zDm d.nu d.de=0:=by simpa using h1
 split at h
 ·cases h
 next h2 =>
 refine ⟨h1',?_,?_⟩
 ·cases hp:posB d.nu with
  | true=>rfl
  | false=>exact absurd (.inl hp) h2
 ·exact toQ_le (p:=(zAy (zAX d.nu),zAy d.de)) (zBL h1') (Nat.not_lt.1 fun hl=>h2 (.inr hl))
structure ParOk (d:De):Prop where
 kd:1≤d.kd∧d.kd≤5
 org:d.kd=1→ShsOk d.sh∧d.fr=emp
 asg:d.kd=2→zDm d.nu d.de=0∧posB d.nu=true∧zCT d.nu d.de≤1∧d.fr≠d.to_
 pas:d.kd=5→ShsOk d.sh∧zBT d.sh=1∧∀ s∈d.sh,s.pt≠d.fr
theorem chkD_par {rs:List Rg} {us:List ByteArray} {pre:List De} {d:De} (h:chkD rs us pre d=0):ParOk d:=by
 unfold chkD at h
 split at h
 ·cases h
 split at h
 ·cases h
 split at h
 ·cases h
 split at h
 ·cases h
 split at h
 ·cases h
 next h5 =>
 split at h
 ·cases h
 next hnd =>
 simp only [zAx,Bool.not_eq_true,Bool.or_eq_false_iff,Bool.and_eq_false_iff] at hnd;obtain ⟨⟨⟨⟨⟨⟨⟨⟨_,n2⟩,_⟩,_⟩,_⟩,_⟩,_⟩,_⟩,_⟩:=hnd;have hkd:1≤d.kd∧d.kd≤5:=za
 split at h
 ·next hg =>
  have hk:d.kd=2∨d.kd=3:=by unfold zAh at hg;simpa using hg
  unfold giftF at h
  split at h
  ·cases h
  split at h
  ·cases h
  next hc =>
  split at h
  ·next h1=>exact absurd h h1
  next g3 =>
  refine ⟨hkd,fun hh=>za,fun hh=>?_,fun hh=>za⟩
  obtain ⟨a,b,c⟩:=parF_ok (by simpa using g3) hh
  exact ⟨a,b,c,hc⟩
 ·next hg =>
  split at h
  ·next h4=>exact ⟨hkd,fun hh=>za,fun hh=>za,fun hh=>za⟩
  ·next h4 =>
   have hk:¬ (d.kd=2∨d.kd=3):=fun hh=>by apply hg;unfold zAh;simpa using hh
   unfold divF at h
   split at h
   ·cases h
   split at h
   ·cases h
   split at h
   ·next h1=>exact absurd h h1
   next g3 =>
   have g3':shF d.kd d.sh=0:=by simpa using g3
   split at h
   ·cases h
   next g4 =>
   refine ⟨hkd,fun hh=>⟨(shF_ok g3').1,?_⟩,fun hh=>za,fun hh=>⟨(shF_ok g3').1,shs_sum g3' hh,fun s hs he=>?_⟩⟩
   ·have hg0:zAh d.kd=false:=by simpa using hg
    rcases n2 with n | n
    ·rw [hg0,hh] at n;simp at n
    ·simpa using n
   ·exact g4 ⟨hh,List.any_eq_true.2 ⟨s,hs,by simpa using he⟩⟩
theorem chkD_org {rs:List Rg} {us:List ByteArray} {pre:List De} {d:De} (h:chkD rs us pre d=0) (hk:d.kd=1∨d.kd=5):∀ p∈pre,¬ (p.kd=d.kd∧p.th=d.th∧p.fr=d.fr):=by
 unfold chkD at h
 have hg:zAh d.kd=false:=by
  unfold zAh
  rcases hk with e | e<;>rw [e]<;>rfl
 rw [hg] at h
 split at h
 ·cases h
 split at h
 ·cases h
 split at h
 ·cases h
 split at h
 ·cases h
 split at h
 ·cases h
 split at h
 ·cases h
 split at h
 ·next h1=>cases h1
 split at h
 ·omega
 unfold divF at h
 split at h
 ·cases h
 split at h
 ·cases h
 split at h
 ·next h1=>exact absurd h h1
 split at h
 ·cases h
 split at h
 ·cases h
 next h9 =>
 intro p hp hc;exact h9 (List.any_eq_true.2 ⟨p,hp,by simp [hc]⟩)
theorem zBO {rs:List Rg} {us:List ByteArray} {ds:List De} (h:zCD rs us ds=0):∀ d∈ds,ParOk d:=fun d hd=>by
 obtain ⟨k,hk,rfl⟩:=List.getElem_of_mem hd;exact chkD_par ((zBa h).2 k hk)
theorem title_org {rs:List Rg} {us:List ByteArray} {ds:List De} (h:zCD rs us ds=0):ds.Pairwise fun a b=>¬ (a.kd=1∧b.kd=1∧a.th=b.th):=by
 have hc:=(zBa h).2;refine List.pairwise_iff_getElem.2 fun i j hi hj hij=>?_
 rintro ⟨k1,k2,k3⟩;refine chkD_org (hc j hj) (.inl k2) ds[i] ?_ ⟨k1.trans k2.symm,k3,?_⟩
 ·rw [List.mem_take_iff_getElem]
  exact ⟨i,za,rfl⟩
 ·rw [(zBO h _ (List.getElem_mem hi)).org k1 |>.2,(zBO h _ (List.getElem_mem hj)).org k2 |>.2]
def orgSum (th:ByteArray) (day:Int) (ds:List De):Rat:=ds.foldr (fun d s=>(if orgB th day d=true then zBT d.sh else 0)+s) 0
theorem zDf {th:ByteArray} {day:Int} {d:De}:orgB th day d=true↔d.kd=1∧d.th=th∧d.bg≤day:=by unfold orgB;simp
theorem org_none {th:ByteArray} {day:Int}:∀ (ds:List De) (f:zBp),(∀ d∈ds,orgB th day d=false)→ds.foldl (orgF th day) f=f∧orgSum th day ds=0
 | [],_,_=>⟨rfl,rfl⟩
 | d::ds,f,h=>by
  have hd:=h d List.mem_cons_self;obtain ⟨h1,h2⟩:=org_none (th:=th) (day:=day) ds f fun e he=>h e (List.mem_cons_of_mem _ he)
  constructor
  ·rw [List.foldl_cons]
   have:orgF th day f d=f:=by unfold orgF;rw [hd];rfl
   rw [this,h1]
  ·show (if orgB th day d=true then zBT d.sh else 0)+orgSum th day ds=0
   rw [hd,h2];simp
   grind
theorem start_one {th:ByteArray} {day:Int}:∀ (ds:List De),ds.Pairwise (fun a b=>¬ (a.kd=1∧b.kd=1∧a.th=b.th)) →
  (zDo th day ds=(fun _=>0)∧orgSum th day ds=0)∨∃ d∈ds,orgB th day d=true∧zDo th day ds=zAj d.sh (fun _=>0)∧orgSum th day ds=zBT d.sh
 | [],_=>.inl ⟨rfl,rfl⟩
 | d::ds,h=>by
  obtain ⟨h1,h2⟩:=List.pairwise_cons.1 h
  cases hd:orgB th day d with
  | true =>
   obtain ⟨k1,k2,_⟩:=zDf.1 hd
   have hn:∀ e∈ds,orgB th day e=false:=fun e he=>by
    cases hh:orgB th day e with
    | false=>rfl
    | true =>
     obtain ⟨k3,k4,_⟩:=zDf.1 hh;exact absurd ⟨k1,k3,k2.trans k4.symm⟩ (h1 e he)
   obtain ⟨e1,e2⟩:=org_none (th:=th) (day:=day) ds (zAj d.sh (fun _=>0)) hn
   refine .inr ⟨d,List.mem_cons_self,hd,?_,?_⟩
   ·unfold zDo
    rw [List.foldl_cons];have:orgF th day (fun _=>0) d=zAj d.sh (fun _=>0):=by unfold orgF;rw [hd];rfl
    rw [this,e1]
   ·show (if orgB th day d=true then zBT d.sh else 0)+orgSum th day ds=_
    rw [hd,e2,if_pos rfl]
    grind
  | false =>
   have e:zDo th day (d::ds)=zDo th day ds:=by
    unfold zDo;rw [List.foldl_cons];have:orgF th day (fun _=>0) d=(fun _=>0):=by unfold orgF;rw [hd];rfl
    rw [this]
   have e2:orgSum th day (d::ds)=orgSum th day ds:=by
    show (if orgB th day d=true then zBT d.sh else 0)+orgSum th day ds=_
    rw [hd];simp
    grind
   rcases start_one (th:=th) (day:=day) ds h2 with ⟨a,b⟩ | ⟨x,hx,a,b,c⟩
   ·exact .inl ⟨by rw [e,a],by rw [e2,b]⟩
   ·exact .inr ⟨x,List.mem_cons_of_mem _ hx,a,by rw [e,b],by rw [e2,c]⟩
theorem keys_start {th:ByteArray} {day:Int}:∀ (ds:List De) (K:List ByteArray),(∀ q∈K,q∈ds.foldl (zAK th day) K)∧∀ d∈ds,orgB th day d=true→∀ s∈d.sh,s.pt∈ds.foldl (zAK th day) K
 | [],_=>⟨fun _ h=>h,fun _ h=>jx⟩
 | d::ds,K=>by
  obtain ⟨h1,h2⟩:=keys_start (th:=th) (day:=day) ds (zAK th day K d)
  have hm:∀ q∈K,q∈zAK th day K d:=fun q hq=>by
   unfold zAK
   split
   ·exact (zAV _).2 (.inr hq)
   ·exact hq
  refine ⟨fun q hq=>h1 q (hm q hq),fun e he ho s hs=>?_⟩
  rcases List.mem_cons.1 he with rfl | he
  ·refine h1 _ ?_
   unfold zAK;rw [if_pos ho];exact (zAV _).2 (.inl ⟨s,hs,rfl⟩)
  ·exact h2 e he ho s hs
theorem sum_mono {N M:List ByteArray} {f:zBp} (hn:N.Nodup) (hm:M.Nodup) (h1:HoldOk N f) (h2:HoldOk M f):sumF N f=sumF M f:=by
 induction N generalizing M f with
 | nil =>
  have:∀ p,f p=0:=fun p=>h1.out p ze
  rw [sumF_congr (N:=M) (g:=fun _=>0) (fun p _=>this p),sumF_zero,sumF_nil]
 | cons a N ih =>
  obtain ⟨k1,k2⟩:=List.nodup_cons.1 hn
  have g1:HoldOk N (upH f a 0):=⟨fun p=>by
   by_cases hp:p=a
   ·subst hp;rw [zBD];exact Rat.le_refl
   ·rw [zAN _ _ hp];exact h1.pos p,fun p hp=>by
   by_cases hpa:p=a
   ·subst hpa;rw [zBD]
   ·rw [zAN _ _ hpa]
    exact h1.out p (by simp [hpa,hp])⟩
  have g2:HoldOk M (upH f a 0):=⟨g1.pos,fun p hp=>by
   by_cases hpa:p=a
   ·subst hpa;rw [zBD]
   ·rw [zAN _ _ hpa];exact h2.out p hp⟩
  have e1:sumF N (upH f a 0)=sumF N f:=sumF_congr fun p hp=>zAN _ _ (fun e=>k1 (by rw [←e];exact hp))
  have e2:=ih k2 hm g1 g2;rw [zCZ,←e1,e2]
  by_cases ha:a∈M
  ·rw [sumF_up hm ha];grind
  ·have h0:=h2.out a ha
   rw [sumF_congr (N:=M) (g:=f) (fun p hp=>zAN _ _ (fun e=>ha (by rw [←e];exact hp))),h0]
   grind
theorem steps_sum (mv:De→Bool):∀ (ds:List De) (K:List ByteArray) (f:zBp),(∀ d∈ds,mv d=true→d.kd≠5→zCT d.nu d.de≤1)→(∀ d∈ds,mv d=true→d.kd=5→zBT d.sh=1)→IncN K→HoldOk K f →
  sumF (ds.foldl (zBb mv) K) (ds.foldl (stepF mv) f)=sumF K f
 | [],_,_,_,_,_,_=>rfl
 | d::ds,K,f,hq,h5,h1,h2=>by
  rw [List.foldl_cons,List.foldl_cons]
  cases hm:mv d with
  | false =>
   have e1:zBb mv K d=K:=by unfold zBb;rw [hm];rfl
   have e2:stepF mv f d=f:=by unfold stepF;rw [hm];rfl
   rw [e1,e2];exact steps_sum mv ds K f (fun e he=>hq e (List.mem_cons_of_mem _ he)) (fun e he=>h5 e (List.mem_cons_of_mem _ he)) h1 h2
  | true =>
   have e1:zBb mv K d=zAu d K:=by unfold zBb;rw [hm];rfl
   have e2:stepF mv f d=zCR d f:=by unfold stepF;rw [hm];rfl
   have g1:=zCY d h1;have g2:=h2.takeK d (hq d List.mem_cons_self hm);rw [e1,e2,steps_sum mv ds _ _ (fun e he=>hq e (List.mem_cons_of_mem _ he)) (fun e he=>h5 e (List.mem_cons_of_mem _ he)) g1 g2]
   have hs:∀ p∈K,p∈zAu d K:=fun p hp=>by
    unfold zAu
    split
    ·exact (zAV _).2 (.inr (zAP.2 (.inr hp)))
    ·exact zAP.2 (.inr (zAP.2 (.inr hp)))
   rw [sumF_take g1.nodup d f ?_ ?_ ?_ (fun h=>h5 d List.mem_cons_self hm h)]
   ·exact sum_mono g1.nodup h1.nodup (h2.mono hs) h2
   ·unfold zAu
    split
    ·exact (zAV _).2 (.inr (zAP.2 (.inl rfl)))
    ·exact zAP.2 (.inr (zAP.2 (.inl rfl)))
   ·intro hk
    unfold zAu;rw [if_neg hk];exact zAP.2 (.inl rfl)
   ·intro hk s hs
    unfold zAu;rw [if_pos hk];exact (zAV _).2 (.inl ⟨s,hs,rfl⟩)
theorem zDS {rs:List Rg} {us:List ByteArray} {ds:List De} (h:zCD rs us ds=0) (i:Nat) (th use:ByteArray) (day:Int) (n:Nat) :
  IncN (zBz rs ds i th use day n)∧HoldOk (zBz rs ds i th use day n) (zAD rs ds i th use day n)∧sumF (zBz rs ds i th use day n) (zAD rs ds i th use day n)=orgSum th day ds:=by
 have hpar:=zBO h;obtain ⟨s1,s2⟩:=start_ok th day ds [] (fun _=>0) List.Pairwise.nil hold_none
 have hmv:∀ d∈ds.take n,zDE rs ds i th use day d=true→d.kd≠5→zCT d.nu d.de≤1:=fun d hd hm h5=>by
  have hd':=List.mem_of_mem_take hd;unfold zDE at hm
  by_cases h2:d.kd=2
  ·exact ((hpar d hd').asg h2).2.2.1
  ·rw [if_neg h2,if_neg h5] at hm;cases hm
 have h5s:∀ d∈ds.take n,zDE rs ds i th use day d=true→d.kd=5→zBT d.sh=1:=fun d hd _ h5=>((hpar d (List.mem_of_mem_take hd)).pas h5).2.1
 obtain ⟨t1,t2⟩:=steps_ok (zDE rs ds i th use day) (ds.take n) (zDK th day ds) (zDo th day ds) hmv s1 s2;refine ⟨t1,t2,?_⟩
 have e:=steps_sum (zDE rs ds i th use day) (ds.take n) (zDK th day ds) (zDo th day ds) hmv h5s s1 s2
 show sumF (zBz rs ds i th use day n) (zAD rs ds i th use day n)=_
 unfold zBz zAD;rw [e]
 rcases start_one (th:=th) (day:=day) ds (title_org h) with ⟨a,b⟩ | ⟨d,hd,a,b,c⟩
 ·rw [a,b,sumF_zero]
 ·obtain ⟨k1,_,_⟩:=zDf.1 a
  have ho:=((hpar d hd).org k1).1
  show sumF (ds.foldl (zAK th day) []) (zDo th day ds)=orgSum th day ds
  rw [b,c,sumF_put s1.nodup d.sh (fun _=>0) (fun s hs=>(keys_start ds []).2 d hd a s hs) ho.nd (fun _ _=>rfl),sumF_zero]
  grind
end Go.Proofs.YtieoifkdobcpiaaGreatDoor
namespace Go.Proofs
open Go.Shelf
def Tryz.laysM171_ren:Go.Shelf.Ren:=⟨fun | 171=>144 | 243=>198 | 246=>246 | 283=>125 | 284=>126 | 285=>127 | 286=>128 | 129=>161 | 317=>187 | 318=>188 | 319=>189 | 320=>190 | 337=>235 | 338=>236 | n=>n,fun | 3=>3 | 9=>9 | 2=>2 | 4=>4 | 171=>202 | 0=>0 | 53=>95 | 37=>131 | 5=>5 | 173=>205 | 212=>261 | 51=>197 | 20=>20 | 213=>262 | 46=>188 | 232=>323 | 233=>324 | n=>n,fun | 17=>0 | 18=>3 | 19=>4 | n=>n⟩
theorem Tryz.laysM171:Go.Proofs.LaysM.n171 Tryz.prog Tryz.laysM171_ren:={
 mixed:=zc
 f129:=Tryz.func161.trans (congrArg some zc)
 f171:=Tryz.func144.trans (congrArg some zc)
 f243:=Tryz.func198.trans (congrArg some zc)
 f246:=Tryz.func246.trans (congrArg some zc)
 f283:=Tryz.func125.trans (congrArg some zc)
 f284:=Tryz.func126.trans (congrArg some zc)
 f285:=Tryz.func127.trans (congrArg some zc)
 f286:=Tryz.func128.trans (congrArg some zc)
 f317:=Tryz.func187.trans (congrArg some zc)
 f318:=Tryz.func188.trans (congrArg some zc)
 f319:=Tryz.func189.trans (congrArg some zc)
 f320:=Tryz.func190.trans (congrArg some zc)
 f337:=Tryz.func235.trans (congrArg some zc)
 f338:=Tryz.func236.trans (congrArg some zc)
 t0:=Tryz.underlying0
 a0:=Tryz.isAgg0
 z0:=Tryz.sizeOf0
 v0:=Tryz.zeroValue0
 t2:=Tryz.underlying2
 a2:=Tryz.isAgg2
 z2:=Tryz.sizeOf2
 v2:=Tryz.zeroValue2
 t3:=Tryz.underlying3
 a3:=Tryz.isAgg3
 z3:=Tryz.sizeOf3
 v3:=Tryz.zeroValue3
 t4:=Tryz.underlying4
 a4:=Tryz.isAgg4
 z4:=Tryz.sizeOf4
 v4:=Tryz.zeroValue4
 t5:=Tryz.underlying5
 a5:=Tryz.isAgg5
 z5:=Tryz.sizeOf5
 v5:=Tryz.zeroValue5
 t9:=Tryz.underlying9
 a9:=Tryz.isAgg9
 z9:=Tryz.sizeOf9
 v9:=Tryz.zeroValue9
 t20:=Tryz.underlying20
 a20:=Tryz.isAgg20
 z20:=Tryz.sizeOf20
 v20:=Tryz.zeroValue20
 t37:=Tryz.underlying131
 a37:=Tryz.isAgg131
 z37:=Tryz.sizeOf131
 v37:=Tryz.zeroValue131
 t46:=Tryz.underlying188
 a46:=Tryz.isAgg188
 z46:=Tryz.sizeOf188
 v46:=Tryz.zeroValue188
 t51:=Tryz.underlying197
 a51:=Tryz.isAgg197
 z51:=Tryz.sizeOf197
 v51:=Tryz.zeroValue197
 t53:=Tryz.underlying95
 a53:=Tryz.isAgg95
 z53:=Tryz.sizeOf95
 v53:=Tryz.zeroValue95
 t171:=Tryz.underlying202
 a171:=Tryz.isAgg202
 z171:=Tryz.sizeOf202
 v171:=Tryz.zeroValue202
 t173:=Tryz.underlying205
 a173:=Tryz.isAgg205
 z173:=Tryz.sizeOf205
 v173:=Tryz.zeroValue205
 t212:=Tryz.underlying261
 a212:=Tryz.isAgg261
 z212:=Tryz.sizeOf261
 v212:=Tryz.zeroValue261
 t213:=Tryz.underlying262
 a213:=Tryz.isAgg262
 z213:=Tryz.sizeOf262
 t232:=Tryz.underlying323
 a232:=Tryz.isAgg323
 z232:=Tryz.sizeOf323
 v232:=Tryz.zeroValue323
 t233:=Tryz.underlying324
 a233:=Tryz.isAgg324
 z233:=Tryz.sizeOf324
 v233:=Tryz.zeroValue324
 g17:=zc
 g18:=zc
 g19:=zc
 i0:=zc
 i2:=zc
 i3:=zc
 i4:=zc
 i5:=zc
 i9:=zc
 i20:=zc
 i37:=zc
 i46:=zc
 i51:=zc
 i53:=zc
 i171:=zc
 i173:=zc
 i212:=zc
 i232:=zc
 i233:=zc
 m17:=zc
 m18:=zc
 m19:=by kernel_rfl }
end Go.Proofs
namespace Go.Proofs.YtieoifkdobcpiaaGreatDoor
open Go.RowKit Dw
def itoaB (n:Int):ByteArray:=⟨(Lib.itoa n).toArray⟩
theorem dec_size (u:Nat) (k:Nat) (h:u<10 ^ k) (h1:1≤k):(Lib.decDigits u).length≤k:=by
 induction u using Nat.strongRecOn generalizing k with
 | _ u ih =>
  rw [Lib.decDigits]
  by_cases hu:u<10
  ·rw [dif_pos hu];simpa using h1
  ·rw [dif_neg hu,List.length_append]
   have hk:2≤k:=by
    rcases Nat.lt_or_ge k 2 with h2 | h2
    ·have:k=1:=by omega
     subst this;omega
    ·exact h2
   have:=ih (u / 10) za (k - 1) (by
    have e:10 ^ k=10 ^ (k - 1)*10:=by rw [←Nat.pow_succ];congr 1;omega
    rw [e] at h;exact Nat.div_lt_of_lt_mul (by rwa [Nat.mul_comm])) za
   simp only [List.length_cons,List.length_nil];omega
theorem data_app (a b:ByteArray):(a++b).data.toList=a.data.toList++b.data.toList:=by simp [ByteArray.data_append]
def POK (w:World):Prop:=Lib.TabIs Tryz.prog w "internal/strconv.uint64pow10" .u64 Lib.pow10Tab
theorem POK.below {w w':World} (h:POK w) (hb:Below w.heap.size w w'):POK w':=by
 unfold POK Lib.TabIs World.var? at *;have hg:Tryz.prog.globalNamed "internal/strconv.uint64pow10" = some 0:=zc;rw [hg] at h ⊢;simp only [Option.bind_some] at h ⊢
 have hlt:0<w.heap.size:=by
  rcases Nat.lt_or_ge 0 w.heap.size with h1 | h1
  ·exact h1
  ·rw [Array.getElem?_eq_none h1] at h;cases h
 rw [hb.block _ hlt];exact h
theorem itoa_c (n:Int) (w:World) (h0 : -9223372036854775808≤n) (h1:n≤9223372036854775807) (hP:POK w):Calls Tryz.prog 144 #[.int .i64 n] w (zAe (.string (itoaB n)) w) :=
 (Any.strconv_Itoa Tryz.laysM171 n h0 h1 w hP).mono fun _ _ ⟨he,k,os,hw⟩=>⟨he,by rw [hw];exact below_regrown w (w.drawn+k) os⟩
theorem cat_big (a b:ByteArray) (h:a.size+b.size≤1000000000):∀ W,(Op.stringOp .add a b).run Tryz.prog W = .ok (.string (a++b)) W:=fun W=>run_string_add_sum W _ _ za
end Go.Proofs.YtieoifkdobcpiaaGreatDoor
namespace Go.Proofs.YtieoifkdobcpiaaGreatDoor
open Dw
def zCm (n:Nat):ByteArray:=⟨(Lib.decDigits n).toArray⟩
theorem digB_list (n:Nat):(zCm n).data.toList=Lib.decDigits n:=by simp [zCm]
theorem dig_one (u:Nat) (h:u<10):(UInt8.ofNat (48+u)).toNat=48+u:=by
 rw [UInt8.toNat_ofNat'];omega
theorem dig_all (n:Nat):(Lib.decDigits n).all dgB=true:=by
 induction n using Nat.strongRecOn with
 | _ n ih =>
  rw [Lib.decDigits]
  split
  ·next h=>simp [dgB];omega
  ·next h =>
   rw [List.all_append,ih (n / 10) za];simp [dgB]
   omega
theorem dig_val (n:Nat):zBI (Lib.decDigits n)=n:=by
 induction n using Nat.strongRecOn with
 | _ n ih =>
  rw [Lib.decDigits]
  split
  ·next h =>
   show 10*0+((UInt8.ofNat (48+n)).toNat - 48)=n
   rw [dig_one n h];omega
  ·next h =>
   rw [decV_snoc,ih (n / 10) za,dig_one (n % 10) za];omega
theorem dig_pos (n:Nat):1≤(Lib.decDigits n).length:=by
 rw [Lib.decDigits]
 split<;>simp
theorem dig_head (n:Nat) (h:n≠0):((Lib.decDigits n).headD 0).toNat≠48:=by
 induction n using Nat.strongRecOn with
 | _ n ih =>
  rw [Lib.decDigits]
  split
  ·next h1=>simp only [List.headD_cons,dig_one n h1];omega
  ·next h1 =>
   have h2:=dig_pos (n / 10);have h3:=ih (n / 10) za za
   cases he:Lib.decDigits (n / 10) with
   | nil=>rw [he] at h2;simp at h2
   | cons a l=>rw [he] at h3;simpa using h3
theorem dig_len (n k:Nat) (hk:1≤k):(Lib.decDigits n).length≤k↔n<10 ^ k:=by
 constructor
 ·intro h
  have h1:=decV_lt (l:=Lib.decDigits n) fun c hc=>by
   have:=(zDG c).1 (List.all_eq_true.1 (dig_all n) c hc);omega
  rw [dig_val] at h1;exact Nat.lt_of_lt_of_le h1 (Nat.pow_le_pow_right za h)
 ·exact fun h=>dec_size n k h hk
theorem zDs (n:Nat):(zCm n).size=(Lib.decDigits n).length:=by
 show (Lib.decDigits n).toArray.size=_
 simp
theorem digB_zero:zCm 0=zCC:=by
 unfold zCm;rw [Lib.decDigits]
 rfl
def outQ (q:Rat):ByteArray×ByteArray:=(zCm q.num.natAbs,zCm q.den)
theorem dg_back {c:UInt8} (h:dgB c=true):UInt8.ofNat (48+(c.toNat - 48))=c:=by
 have:=(zDG c).1 h
 apply UInt8.toNat_inj.1
 rw [UInt8.toNat_ofNat'];have:=c.toNat_lt;omega
theorem decV_pos {l:List UInt8} (h:l.all dgB=true) (hne:l≠[]) (hh:(l.headD 0).toNat≠48):0<zBI l:=by
 cases l with
 | nil=>exact absurd rfl hne
 | cons a t =>
  rw [List.all_cons,Bool.and_eq_true] at h;have h1:=(zDG a).1 h.1;have e:=zBX [a] t;rw [List.singleton_append] at e;have e2:zBI [a]=a.toNat - 48:=by show 10*0+(a.toNat - 48)=_;omega
  rw [e,e2];simp only [List.headD_cons] at hh;have:0<(a.toNat - 48)*10 ^ t.length:=Nat.mul_pos za (Nat.pow_pos zd);omega
theorem dig_uniq:∀ (n:Nat) (l:List UInt8),l.length=n→l.all dgB=true→l≠[]→(l.length=1∨(l.headD 0).toNat≠48)→l=Lib.decDigits (zBI l)
 | 0,l,hn,_,hne,_=>absurd (List.length_eq_zero_iff.1 hn) hne
 | n+1,l,hn,hall,hne,hh=>by
  obtain ⟨m,c,rfl⟩:∃ m c,l=m++[c]:=⟨l.dropLast,l.getLast hne,(List.dropLast_concat_getLast hne).symm⟩;rw [List.all_append,Bool.and_eq_true] at hall;have hc:dgB c=true:=by simpa using hall.2
  have hc2:=(zDG c).1 hc;rw [decV_snoc]
  cases m with
  | nil =>
   have e:zBI []=0:=rfl;rw [e,Lib.decDigits,dif_pos za];have:10*0+(c.toNat - 48)=c.toNat - 48:=za;rw [this,dg_back hc]
   rfl
  | cons a t =>
   have hhd:((a::t).headD 0).toNat≠48:=by
    rcases hh with h | h
    ·simp at h
    ·simpa using h
   have ih:=dig_uniq n (a::t) (by simpa using hn) hall.1 ze (.inr hhd)
   have hp:=decV_pos hall.1 ze hhd;rw [Lib.decDigits,dif_neg za];have e1:(10*zBI (a::t)+(c.toNat - 48)) / 10=zBI (a::t):=za;have e2:(10*zBI (a::t)+(c.toNat - 48)) % 10=c.toNat - 48:=za;rw [e1,e2,dg_back hc,←ih]
structure RevD (n0 a:Nat) (r:List UInt8):Prop where
 all:r.all dgB=true
 val:n0=a*10 ^ r.length+zBI r.reverse
theorem RevD.start (n:Nat):RevD n n []:=⟨rfl,by simp [zBI]⟩
theorem RevD.step {n0 a:Nat} {r:List UInt8} (h:RevD n0 a r):RevD n0 (a / 10) (r++[UInt8.ofNat (48+a % 10)]):=by
 have hd:=dig_one (a % 10) za;refine ⟨?_,?_⟩
 ·rw [List.all_append,h.all]
  simp [dgB]
  omega
 ·rw [List.length_append,List.reverse_append,List.reverse_singleton,List.length_singleton,zBX,List.length_reverse]
  have e:zBI [UInt8.ofNat (48+a % 10)]=a % 10:=by
   show 10*0+((UInt8.ofNat (48+a % 10)).toNat - 48)=_
   rw [hd];omega
  rw [e,h.val,Nat.pow_succ];have h3:a=a / 10*10+a % 10:=za;generalize hp:10 ^ r.length=p
  have e4:a / 10*(p*10)+(a % 10*p+zBI r.reverse)=(a / 10*10+a % 10)*p+zBI r.reverse:=by
   rw [Nat.add_mul,Nat.mul_assoc,Nat.mul_comm 10 p];omega
  rw [e4,←h3]
theorem RevD.done {n0:Nat} {r:List UInt8} (h:RevD n0 0 r) (hne:r≠[]) (hl:r.length=1∨(r.getLast hne).toNat≠48):r.reverse=Lib.decDigits n0:=by
 have e:n0=zBI r.reverse:=by rw [h.val];omega
 rw [e];refine dig_uniq r.reverse.length r.reverse rfl (by rw [List.all_reverse];exact h.all) (by simpa using hne) ?_
 rcases hl with h1 | h1
 ·exact .inl (by simpa using h1)
 ·right
  have:r.reverse.headD 0=r.getLast hne:=by
   rw [List.headD_eq_head?_getD,List.head?_reverse,List.getLast?_eq_some_getLast hne]
   rfl
  rw [this];exact h1
def zer (k:Nat):List UInt8:=List.replicate k 48
theorem zer_dg (k:Nat):(zer k).all dgB=true:=by
 unfold zer;rw [List.all_eq_true];intro x hx;rw [(List.mem_replicate.1 hx).2]
 decide
theorem zer_val:∀ k,zBI (zer k)=0
 | 0=>rfl
 | k+1=>by
  have e:zer (k+1)=[48]++zer k:=rfl;rw [e,zBX,zer_val k]
  show (10*0+(48 - 48))*_+0=0
  simp
def pad4 (l:Nat):List UInt8:=zer (4 - (Lib.decDigits l).length)++Lib.decDigits l
theorem dig4 {l:Nat} (h:l<10000):(Lib.decDigits l).length≤4:=dec_size l 4 za za
theorem pad4_len {l:Nat} (h:l<10000):(pad4 l).length=4:=by
 have:=dig4 h;unfold pad4 zer;rw [List.length_append,List.length_replicate];omega
theorem dig_snoc4 {v l:Nat} (hv:v≠0) (hl:l<10000):Lib.decDigits (v*10000+l)=Lib.decDigits v++pad4 l:=by
 have hp:=dig_pos v
 have e:zBI (Lib.decDigits v++pad4 l)=v*10000+l:=by
  rw [zBX,pad4_len hl,dig_val];unfold pad4;rw [zBX,zer_val,dig_val];omega
 rw [←e];refine (dig_uniq _ (Lib.decDigits v++pad4 l) rfl ?_ ?_ (.inr ?_)).symm
 ·rw [List.all_append,dig_all]
  unfold pad4;rw [List.all_append,zer_dg,dig_all]
  rfl
 ·intro h
  rw [(List.append_eq_nil_iff.1 h).1] at hp;simp at hp
 ·have h9:=dig_head v hv
  cases hc:Lib.decDigits v with
  | nil=>rw [hc] at hp;simp at hp
  | cons a t=>rw [hc] at h9;simpa using h9
theorem last_wordsT {n:Nat}:zAc BT n=[]∨BT ^ ((zAc BT n).length - 1)≤n:=by
 rcases Nat.eq_zero_or_pos (zAc BT n).length with h0 | h0
 ·exact .inl (List.eq_nil_of_length_eq_zero h0)
 ·have:=zEg (B:=BT) h0 (zCj zAU h0)
  rw [zAl zAU] at this;exact .inr this
theorem drop_pos {n i:Nat} (hi:i<(zAc BT n).length):zAg BT ((zAc BT n).drop i)≠0:=by
 intro h0;have h1:=zCd BT i (zAc BT n) za;rw [h0,Nat.mul_zero,Nat.add_zero,zAl zAU] at h1;have h2:=zDk (WLt.take (zAJ zAU n) i)
 have h3:(zAc BT n).length≤i:=by
  rcases last_wordsT (n:=n) with e | e
  ·rw [e];simp
  ·rw [List.length_take,Nat.min_eq_left za,←h1] at h2
   refine Nat.le_of_not_lt fun hk=>?_
   have h4:BT ^ i≤BT ^ ((zAc BT n).length - 1):=Nat.pow_le_pow_right BT_pos za;omega
 omega
end Go.Proofs.YtieoifkdobcpiaaGreatDoor
namespace Go.Proofs
open Go.Shelf
def Tryz.lays105_ren:Go.Shelf.Ren:=⟨fun | 105=>145 | 212=>199 | 99=>200 | 165=>201 | 166=>202 | 170=>203 | 169=>204 | 263=>247 | 264=>171 | 206=>248 | 240=>249 | 241=>250 | 276=>269 | 277=>270 | n=>n,fun | 9=>9 | 3=>3 | 4=>4 | 20=>20 | 0=>0 | 46=>188 | 109=>267 | 5=>5 | 72=>271 | 76=>163 | 51=>197 | 146=>306 | 53=>95 | 148=>245 | 70=>269 | 37=>131 | 75=>162 | 127=>308 | 164=>327 | 80=>192 | n=>n,fun | n=>n⟩
theorem Tryz.lays105:Go.Proofs.Lays.n105 Tryz.prog Tryz.lays105_ren:={
 mixed:=zc
 f99:=Tryz.func200.trans (congrArg some zc)
 f105:=Tryz.func145.trans (congrArg some zc)
 f165:=Tryz.func201.trans (congrArg some zc)
 f166:=Tryz.func202.trans (congrArg some zc)
 f169:=Tryz.func204.trans (congrArg some zc)
 f170:=Tryz.func203.trans (congrArg some zc)
 f206:=Tryz.func248.trans (congrArg some zc)
 f212:=Tryz.func199.trans (congrArg some zc)
 f240:=Tryz.func249.trans (congrArg some zc)
 f241:=Tryz.func250.trans (congrArg some zc)
 f263:=Tryz.func247.trans (congrArg some zc)
 f264:=Tryz.func171.trans (congrArg some zc)
 f276:=Tryz.func269.trans (congrArg some zc)
 f277:=Tryz.func270.trans (congrArg some zc)
 t0:=Tryz.underlying0
 a0:=Tryz.isAgg0
 z0:=Tryz.sizeOf0
 v0:=Tryz.zeroValue0
 t3:=Tryz.underlying3
 a3:=Tryz.isAgg3
 z3:=Tryz.sizeOf3
 v3:=Tryz.zeroValue3
 t4:=Tryz.underlying4
 a4:=Tryz.isAgg4
 z4:=Tryz.sizeOf4
 v4:=Tryz.zeroValue4
 t5:=Tryz.underlying5
 a5:=Tryz.isAgg5
 z5:=Tryz.sizeOf5
 v5:=Tryz.zeroValue5
 t9:=Tryz.underlying9
 a9:=Tryz.isAgg9
 z9:=Tryz.sizeOf9
 v9:=Tryz.zeroValue9
 t20:=Tryz.underlying20
 a20:=Tryz.isAgg20
 z20:=Tryz.sizeOf20
 v20:=Tryz.zeroValue20
 t37:=Tryz.underlying131
 a37:=Tryz.isAgg131
 z37:=Tryz.sizeOf131
 v37:=Tryz.zeroValue131
 t46:=Tryz.underlying188
 a46:=Tryz.isAgg188
 z46:=Tryz.sizeOf188
 v46:=Tryz.zeroValue188
 t51:=Tryz.underlying197
 a51:=Tryz.isAgg197
 z51:=Tryz.sizeOf197
 v51:=Tryz.zeroValue197
 t53:=Tryz.underlying95
 a53:=Tryz.isAgg95
 z53:=Tryz.sizeOf95
 v53:=Tryz.zeroValue95
 t70:=Tryz.underlying269
 a70:=Tryz.isAgg269
 z70:=Tryz.sizeOf269
 v70:=Tryz.zeroValue269
 t72:=Tryz.underlying271
 a72:=Tryz.isAgg271
 z72:=Tryz.sizeOf271
 v72:=Tryz.zeroValue271
 t75:=Tryz.underlying162
 a75:=Tryz.isAgg162
 z75:=Tryz.sizeOf162
 v75:=Tryz.zeroValue162
 t76:=Tryz.underlying163
 a76:=Tryz.isAgg163
 z76:=Tryz.sizeOf163
 v76:=Tryz.zeroValue163
 t109:=Tryz.underlying267
 a109:=Tryz.isAgg267
 z109:=Tryz.sizeOf267
 v109:=Tryz.zeroValue267
 t127:=Tryz.underlying308
 a127:=Tryz.isAgg308
 z127:=Tryz.sizeOf308
 v127:=Tryz.zeroValue308
 t146:=Tryz.underlying306
 a146:=Tryz.isAgg306
 z146:=Tryz.sizeOf306
 v146:=Tryz.zeroValue306
 t148:=Tryz.underlying245
 a148:=Tryz.isAgg245
 z148:=Tryz.sizeOf245
 v148:=Tryz.zeroValue245
 t164:=Tryz.underlying327
 a164:=Tryz.isAgg327
 z164:=Tryz.sizeOf327
 v164:=Tryz.zeroValue327 }
theorem Tryz.Builder_Extra_105:Builder.Extra Tryz.prog Tryz.lays105_ren:={
 sizeBuilder:=zc
 liesBuilder:=zc
 t5:=Tryz.underlying5
 a5:=Tryz.isAgg5
 z5:=Tryz.sizeOf5
 v5:=Tryz.zeroValue5
 infoByte:=zc
 cellsByte:=zc
 sizeByte:=zc
 neB5:=by decide }
end Go.Proofs
