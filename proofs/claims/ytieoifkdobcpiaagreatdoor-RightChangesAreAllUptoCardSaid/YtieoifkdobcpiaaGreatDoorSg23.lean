/- Parts of the proof, joined: Who has which part, plainly: parts as quotients, what a deed does with. -/
import Derived.Test.YtieoifkdobcpiaaGreatDoorSg22
import Derived.Lib.ItoaNum
import Derived.Shelf.Strings.Builder1
import Derived.Shelf.Strings.OnBuilder
import Derived.Shelf.Strings.BuilderF
import Derived.Shelf.Strings.BuilderK
import Derived.Shelf.LaysM
import Derived.Shelf.Strconv.Itoa3
import Derived.Lib.Join
import Derived.Laws.IdiomStrings
import Derived.Lib.QuietBelow
set_option maxRecDepth 100000
set_option maxHeartbeats 8000000
namespace Go.Proofs.YtieoifkdobcpiaaGreatDoor
open Dw
abbrev zBa:=BA→Rat
def upH (f:zBa) (p:BA) (x:Rat):zBa:=fun q=>if q=p then x else f q
theorem zBy (f:zBa) (p:BA) (x:Rat):upH f p x p=x:=aF rfl
theorem zAJ (f:zBa) {p q:BA} (x:Rat) (h:q≠p):upH f p x q=f q:=aD h
def zCX (nu de:BA):Rat:=mkRat (zAF (zBj nu):Int) (zAF de)
def shQ (s:Sh):Rat:=zCX s.nu s.de
def zAi (l:List Sh) (f:zBa):zBa:=l.foldl (fun g s=>upH g s.pt (shQ s)) f
def orgB (th:BA) (day:Int) (d:De):Bool:=decide (d.kd=1)&&(decide (d.th=th)&&decide (d.bg≤day))
def orgF (th:BA) (day:Int) (f:zBa) (d:De):zBa:=if orgB th day d=true then zAi d.sh f else f
def zBN (has:Rat) (l:List Sh) (f:zBa):zBa:=l.foldl (fun g s=>upH g s.pt (g s.pt+has*shQ s)) f
def giveF (d:De) (f:zBa):zBa:=upH (upH f d.fr (f d.fr - f d.fr*zCX d.nu d.de)) d.to_ (upH f d.fr (f d.fr - f d.fr*zCX d.nu d.de) d.to_+f d.fr*zCX d.nu d.de)
def zDt (d:De) (f:zBa):zBa:=if d.kd=5 then zBN (f d.fr) d.sh (upH f d.fr 0) else giveF d f
def zCO (rs:List Rg) (ds:List De) (i:Nat) (th use:BA) (day:Int) (d:De):Bool :=
 if d.kd=2 then decide (d.th=th)&&vB rs ds i use day d else if d.kd=5 then decide (d.bg≤day) else false
def zCQ (mv:De→Bool) (f:zBa) (d:De):zBa:=if mv d=true then zDt d f else f
def zCv (th:BA) (day:Int) (ds:List De):zBa:=ds.foldl (orgF th day) (fun _=>0)
def zAp (rs:List Rg) (ds:List De) (i:Nat) (th use:BA) (day:Int) (n:Nat):zBa:=(ds.take n).foldl (zCQ (zCO rs ds i th use day)) (zCv th day ds)
def zDd (q:Rat):Bool:=decide (10 ^ 2000≤q.num.natAbs) || decide (10 ^ 2000≤q.den)
def zCi (N:List BA) (f:zBa):Rat:=N.foldr (fun p s=>f p+s) 0
theorem sumF_nil (f:zBa):zCi [] f=0:=rfl
theorem zAS (p:BA) (N:List BA) (f:zBa):zCi (p::N) f=f p+zCi N f:=rfl
theorem sumF_congr {N:List BA} {f g:zBa} (h:∀ p∈N,f p=g p):zCi N f=zCi N g:=by
 induction N with
 | nil=>rfl
 | cons p N ih=>rw [zAS,zAS,h p aQ,ih fun q hq=>h q (aP _ hq)]
theorem sumF_up {N:List BA} (hn:N.Nodup) {p:BA} (hp:p∈N) (f:zBa) (x:Rat):zCi N (upH f p x)=zCi N f - f p+x:=by
 induction N with
 | nil=>cases hp
 | cons a N ih =>
  obtain ⟨h1,h2⟩:=List.nodup_cons.1 hn;rw [zAS,zAS]
  by_cases ha:a=p
  ·subst ha
   rw [zBy,sumF_congr (f:=upH f a x) (g:=f) fun q hq=>zAJ f x (fun e=>h1 (by rw [←e];exact hq))]
   grind
  ·rw [zAJ f x ha,ih h2 ((List.mem_cons.1 hp).resolve_left fun e=>ha e.symm)]
   grind
theorem sumF_zero (N:List BA):zCi N (fun _=>0)=0:=by
 induction N with
 | nil=>rfl
 | cons p N ih=>rw [zAS,ih];grind
def zBw (l:List Sh):Rat:=l.foldr (fun s t=>shQ s+t) 0
theorem sumF_pass {N:List BA} (hn:N.Nodup) (has:Rat):∀ (l:List Sh) (f:zBa),(∀ s∈l,s.pt∈N)→zCi N (zBN has l f)=zCi N f+has*zBw l
 | [],f,_=>by show zCi N f=zCi N f+has*0;grind
 | s::l,f,h=>by
  have ih:=sumF_pass hn has l (upH f s.pt (f s.pt+has*shQ s)) fun t ht=>h t (aP _ ht)
  show zCi N (zBN has l (upH f s.pt (f s.pt+has*shQ s)))=_
  rw [ih,sumF_up hn (h s aQ)]
  show _=zCi N f+has*(shQ s+zBw l)
  grind
theorem sumF_give {N:List BA} (hn:N.Nodup) (d:De) (f:zBa) (h1:d.fr∈N) (h2:d.to_∈N):zCi N (giveF d f)=zCi N f:=by
 unfold giveF;rw [sumF_up hn h2,sumF_up hn h1]
 grind
theorem sumF_take {N:List BA} (hn:N.Nodup) (d:De) (f:zBa) (h1:d.fr∈N) (h2:d.kd≠5→d.to_∈N) (h3:d.kd=5→∀ s∈d.sh,s.pt∈N) (h4:d.kd=5→zBw d.sh=1):zCi N (zDt d f)=zCi N f:=by
 unfold zDt
 by_cases hk:d.kd=5
 ·rw [aF hk,sumF_pass hn _ _ _ (h3 hk),sumF_up hn h1,h4 hk]
  grind
 ·rw [aD hk,sumF_give hn d f h1 (h2 hk)]
theorem sumF_put {N:List BA} (hn:N.Nodup):∀ (l:List Sh) (f:zBa),(∀ s∈l,s.pt∈N)→(l.map Sh.pt).Nodup→(∀ s∈l,f s.pt=0)→zCi N (zAi l f)=zCi N f+zBw l
 | [],f,_,_,_=>by show zCi N f=zCi N f+0;grind
 | s::l,f,h,hd,h0=>by
  rw [dT] at hd;obtain ⟨h1,h2⟩:=List.nodup_cons.1 hd
  have ih:=sumF_put hn l (upH f s.pt (shQ s)) (fun t ht=>h t (aP _ ht)) h2 (fun t ht=>by
   rw [zAJ _ _ (fun e=>h1 (by rw [←e];exact eN ht))]
   exact h0 t (aP _ ht))
  show zCi N (zAi l (upH f s.pt (shQ s)))=_
  rw [ih,sumF_up hn (h s aQ),h0 s aQ]
  show _=zCi N f+(shQ s+zBw l)
  grind
structure HoldOk (N:List BA) (f:zBa):Prop where
 pos:∀ p,0≤f p
 out:∀ p,p∉N→f p=0
theorem ratQ_pos (nu de:BA):0≤zCX nu de:=by
 unfold zCX;rw [←Rat.num_nonneg,Rat.num_mkRat]
 split
 ·exact Int.le_refl _
 ·exact Int.ediv_nonneg (cS _) (cS _)
theorem shQ_pos (s:Sh):0≤shQ s:=ratQ_pos _ _
section
variable {N:List BA} {f:zBa}
theorem HoldOk.up (h:HoldOk N f) {p:BA} {x:Rat} (hp:p∈N) (hx:0≤x):HoldOk N (upH f p x) :=
 ⟨fun q=>by
  by_cases hq:q=p
  ·subst hq;rw [zBy];exact hx
  ·rw [zAJ _ _ hq];exact h.pos q,
  fun q hq=>by rw [zAJ _ _ (fun e=>hq (by rw [e];exact hp))];exact h.out q hq⟩
theorem HoldOk.put:∀ (l:List Sh) (f:zBa),HoldOk N f→(∀ s∈l,s.pt∈N)→HoldOk N (zAi l f)
 | [],_,h,_=>h
 | s::l,f,h,hs=>HoldOk.put l (upH f s.pt (shQ s)) (h.up (hs s aQ) (shQ_pos s)) fun t ht=>hs t (aP _ ht)
theorem HoldOk.pass {has:Rat} (hh:0≤has):∀ (l:List Sh) (f:zBa),HoldOk N f→(∀ s∈l,s.pt∈N)→HoldOk N (zBN has l f)
 | [],_,h,_=>h
 | s::l,f,h,hs=>HoldOk.pass hh l (upH f s.pt (f s.pt+has*shQ s)) (h.up (hs s aQ) (by
   have:=h.pos s.pt;have:=Rat.mul_nonneg hh (shQ_pos s)
   grind)) fun t ht=>hs t (aP _ ht)
theorem part_le {a q:Rat} (ha:0≤a) (hq:q≤1):0≤a - a*q:=by
 have:=Rat.mul_le_mul_of_nonneg_left hq ha
 grind
theorem HoldOk.give (h:HoldOk N f) (d:De) (h1:d.fr∈N) (h2:d.to_∈N) (hq:zCX d.nu d.de≤1):HoldOk N (giveF d f):=by
 unfold giveF;have k1:HoldOk N (upH f d.fr (f d.fr - f d.fr*zCX d.nu d.de)):=h.up h1 (part_le (h.pos _) hq);refine k1.up h2 ?_
 have a:=k1.pos d.to_;have b:=Rat.mul_nonneg (h.pos d.fr) (ratQ_pos d.nu d.de)
 grind
theorem HoldOk.take (h:HoldOk N f) (d:De) (h1:d.fr∈N) (h2:d.kd≠5→d.to_∈N) (h3:d.kd=5→∀ s∈d.sh,s.pt∈N) (hq:d.kd≠5→zCX d.nu d.de≤1):HoldOk N (zDt d f):=by
 unfold zDt
 by_cases hk:d.kd=5
 ·rw [aF hk];exact HoldOk.pass (h.pos _) _ _ (h.up h1 (by grind)) (h3 hk)
 ·rw [aD hk];exact h.give d h1 (h2 hk) (hq hk)
end
def insN (p:BA):List BA→List BA
 | []=>[p]
 | a::l=>if a=p then a::l else if slt p a=true then p::a::l else a::insN p l
def IncN (l:List BA):Prop:=l.Pairwise fun a b=>slt a b=true
theorem zAL {p q:BA}:∀ {l:List BA},q∈insN p l↔q=p∨q∈l
 | []=>by simp [insN]
 | a::l=>by
  unfold insN
  split
  ·next h=>subst h;simp
  ·split
   ·simp
   ·rw [List.mem_cons,zAL (l:=l),List.mem_cons]
    constructor
    ·rintro (h | h | h)<;>simp [h]
    ·rintro (h | h | h)<;>simp [h]
theorem slt_of_ne {a b:BA} (h:a≠b) (h2:slt b a=false):slt a b=true:=by
 cases hs:sle b a with
 | false=>exact zBT hs
 | true =>
  exfalso
  have h3:(slt b a || b.toList == a.toList)=true:=hs
  rw [h2,Bool.false_or] at h3;exact h (str_eq h3).symm
theorem IncN.ins {p:BA}:∀ {l:List BA},IncN l→IncN (insN p l)
 | [],_=>by simp [insN,IncN]
 | a::l,h=>by
  obtain ⟨h1,h2⟩:=List.pairwise_cons.1 h;unfold insN
  split
  ·exact h
  ·next hne =>
   split
   ·next hlt =>
    refine List.pairwise_cons.2 ⟨fun b hb=>?_,h⟩
    rcases List.mem_cons.1 hb with rfl | hb
    ·exact hlt
    ·exact slt_trans hlt (h1 b hb)
   ·next hlt =>
    refine List.pairwise_cons.2 ⟨fun b hb=>?_,IncN.ins h2⟩
    rcases zAL.1 hb with rfl | hb
    ·exact slt_of_ne hne (by simpa using hlt)
    ·exact h1 b hb
theorem IncN.nodup {l:List BA} (h:IncN l):l.Nodup:=h.imp fun h=>zCr h
theorem slt_irr (a:BA):slt a a=false:=by
 cases h:slt a a with
 | false=>rfl
 | true=>exact absurd rfl (zCr h)
theorem incN_ext:∀ {l m:List BA},IncN l→IncN m→(∀ x,x∈l↔x∈m)→l=m
 | [],[],_,_,_=>rfl
 | [],b::m,_,_,h=>absurd ((h b).2 aQ) zd
 | a::l,[],_,_,h=>absurd ((h a).1 aQ) zd
 | a::l,b::m,h1,h2,h=>by
  obtain ⟨k1,k2⟩:=List.pairwise_cons.1 h1;obtain ⟨k3,k4⟩:=List.pairwise_cons.1 h2
  have hab:a=b:=by
   rcases List.mem_cons.1 ((h a).1 aQ) with e | e
   ·exact e
   ·rcases List.mem_cons.1 ((h b).2 aQ) with e2 | e2
    ·exact e2.symm
    ·have:=slt_trans (k1 b e2) (k3 a e)
     rw [slt_irr] at this
     cases this
  subst hab
  congr 1
  refine incN_ext k2 k4 fun x=>?_
  have hx:=h x;rw [List.mem_cons,List.mem_cons] at hx
  constructor
  ·intro hm
   rcases hx.1 (.inr hm) with e | e
   ·subst e;exact absurd rfl (zCr (k1 x hm))
   ·exact e
  ·intro hm
   rcases hx.2 (.inr hm) with e | e
   ·subst e;exact absurd rfl (zCr (k3 x hm))
   ·exact e
def keysAll (l:List Sh) (K:List BA):List BA:=l.foldl (fun K s=>insN s.pt K) K
def zBg (th:BA) (day:Int) (K:List BA) (d:De):List BA:=if orgB th day d=true then keysAll d.sh K else K
def zAG (d:De) (K:List BA):List BA:=if d.kd=5 then keysAll d.sh (insN d.fr K) else insN d.to_ (insN d.fr K)
def zAO (mv:De→Bool) (K:List BA) (d:De):List BA:=if mv d=true then zAG d K else K
def zDc (th:BA) (day:Int) (ds:List De):List BA:=ds.foldl (zBg th day) []
def zBr (rs:List Rg) (ds:List De) (i:Nat) (th use:BA) (day:Int) (n:Nat):List BA:=(ds.take n).foldl (zAO (zCO rs ds i th use day)) (zDc th day ds)
theorem keysAll_inc:∀ (l:List Sh) {K:List BA},IncN K→IncN (keysAll l K)
 | [],_,h=>h
 | _::l,_,h=>keysAll_inc l h.ins
theorem zAN:∀ (l:List Sh) {K:List BA} {q:BA},q∈keysAll l K↔(∃ s∈l,s.pt=q)∨q∈K
 | [],K,q=>by simp [keysAll]
 | s::l,K,q=>by
  show q∈keysAll l (insN s.pt K)↔_
  rw [zAN l,zAL]
  constructor
  ·rintro (⟨t,ht,e⟩ | e | h)
   ·exact .inl ⟨t,aP _ ht,e⟩
   ·exact .inl ⟨s,aQ,e.symm⟩
   ·exact .inr h
  ·rintro (⟨t,ht,e⟩ | h)
   ·rcases List.mem_cons.1 ht with rfl | ht
    ·exact .inr (.inl e.symm)
    ·exact .inl ⟨t,ht,e⟩
   ·exact .inr (.inr h)
theorem zCS (d:De) {K:List BA} (h:IncN K):IncN (zAG d K):=by
 unfold zAG
 split
 ·exact keysAll_inc _ h.ins
 ·exact h.ins.ins
theorem HoldOk.mono {N M:List BA} {f:zBa} (h:HoldOk N f) (hs:∀ p∈N,p∈M):HoldOk M f:=⟨h.pos,fun p hp=>h.out p fun hm=>hp (hs p hm)⟩
theorem HoldOk.takeK {K:List BA} {f:zBa} (h:HoldOk K f) (d:De) (hq:d.kd≠5→zCX d.nu d.de≤1):HoldOk (zAG d K) (zDt d f):=by
 have hs:∀ p∈K,p∈zAG d K:=fun p hp=>by
  unfold zAG
  split
  ·exact (zAN _).2 (.inr (zAL.2 (.inr hp)))
  ·exact zAL.2 (.inr (zAL.2 (.inr hp)))
 have h1:d.fr∈zAG d K:=by
  unfold zAG
  split
  ·exact (zAN _).2 (.inr (zAL.2 (.inl rfl)))
  ·exact zAL.2 (.inr (zAL.2 (.inl rfl)))
 refine (h.mono hs).take d h1 (fun hk=>?_) (fun hk s hs=>?_) hq
 ·unfold zAG
  rw [aD hk];exact zAL.2 (.inl rfl)
 ·unfold zAG
  rw [aF hk];exact (zAN _).2 (.inl ⟨s,hs,rfl⟩)
theorem HoldOk.orgK {K:List BA} {f:zBa} (h:HoldOk K f) (th:BA) (day:Int) (d:De):HoldOk (zBg th day K d) (orgF th day f d):=by
 unfold zBg orgF
 split
 ·exact HoldOk.put _ _ (h.mono fun p hp=>(zAN _).2 (.inr hp)) fun s hs=>(zAN _).2 (.inl ⟨s,hs,rfl⟩)
 ·exact h
theorem keysOrg_inc (th:BA) (day:Int) (d:De) {K:List BA} (h:IncN K):IncN (zBg th day K d):=by
 unfold zBg
 split
 ·exact keysAll_inc _ h
 ·exact h
theorem start_ok (th:BA) (day:Int):∀ (ds:List De) (K:List BA) (f:zBa),IncN K→HoldOk K f→IncN (ds.foldl (zBg th day) K)∧HoldOk (ds.foldl (zBg th day) K) (ds.foldl (orgF th day) f)
 | [],_,_,h1,h2=>⟨h1,h2⟩
 | d::ds,K,f,h1,h2=>start_ok th day ds (zBg th day K d) (orgF th day f d) (keysOrg_inc th day d h1) (h2.orgK th day d)
theorem steps_ok (mv:De→Bool):∀ (ds:List De) (K:List BA) (f:zBa),(∀ d∈ds,mv d=true→d.kd≠5→zCX d.nu d.de≤1)→IncN K→HoldOk K f →
  IncN (ds.foldl (zAO mv) K)∧HoldOk (ds.foldl (zAO mv) K) (ds.foldl (zCQ mv) f)
 | [],_,_,_,h1,h2=>⟨h1,h2⟩
 | d::ds,K,f,hq,h1,h2=>by
  refine steps_ok mv ds (zAO mv K d) (zCQ mv f d) (fun e he=>hq e (aP _ he)) ?_ ?_
  ·unfold zAO
   split
   ·exact zCS d h1
   ·exact h1
  ·unfold zAO zCQ
   split
   ·next hm=>exact h2.takeK d (hq d aQ hm)
   ·exact h2
theorem hold_none:HoldOk [] (fun _=>0):=⟨fun _=>zc,fun _ _=>rfl⟩
def holL (K:List BA) (f:zBa):List BA:=K.filter fun p=>decide (f p≠0)
theorem holL_inc {K:List BA} {f:zBa} (h:IncN K):IncN (holL K f):=List.Pairwise.filter _ h
theorem holL_mem {K:List BA} {f:zBa} (h:HoldOk K f) {p:BA}:p∈holL K f↔f p≠0:=by
 unfold holL;rw [List.mem_filter]
 constructor
 ·exact fun hp=>by simpa using hp.2
 ·intro hp
  refine ⟨?_,by simpa using hp⟩
  refine eQ fun hn=>hp (h.out p hn)
theorem holL_uniq {K M:List BA} {f:zBa} (hk:IncN K) (hm:IncN M) (h1:HoldOk K f) (h2:HoldOk M f):holL K f=holL M f :=
 incN_ext (holL_inc hk) (holL_inc hm) fun _=>by rw [holL_mem h1,holL_mem h2]
theorem sumF_holL {K:List BA} {f:zBa}:zCi (holL K f) f=zCi K f:=by
 unfold holL
 induction K with
 | nil=>rfl
 | cons p K ih =>
  by_cases h:f p=0
  ·rw [eG zv,ih,zAS,h];grind
  ·rw [List.filter_cons_of_pos zv,zAS,zAS,ih]
def toQ (p:Nat×Nat):Rat:=mkRat (p.1:Int) p.2
theorem toQ_low {n d:Nat} (hd:0<d):toQ (zCN n d)=mkRat (n:Int) d:=by
 have hg:0<Nat.gcd n d:=dM _ hd;have h1:=Nat.div_mul_cancel (Nat.gcd_dvd_left n d);have h2:=Nat.div_mul_cancel (Nat.gcd_dvd_right n d)
 have h3:d / Nat.gcd n d≠0:=by
  intro h;rw [h] at h2;omega
 unfold toQ zCN;rw [eR h3 za]
 have:n / Nat.gcd n d*d=n*(d / Nat.gcd n d):=by
  clear h3;generalize Nat.gcd n d=g at *
  calc n / g*d=n / g*(d / g*g):=by rw [h2]
   _=(n / g*g)*(d / g):=by rw [aV,aU g]
   _=n*(d / g):=by rw [h1]
 exact_mod_cast this
theorem toQ_add {p q:Nat×Nat} (hp:0<p.2) (hq:0<q.2):toQ (addP p q)=toQ p+toQ q:=by
 unfold addP;rw [toQ_low (cZ hp hq)];unfold toQ;rw [Rat.mkRat_add_mkRat _ _ za za];simp
theorem addP_pos {p q:Nat×Nat} (hp:0<p.2) (hq:0<q.2):0<(addP p q).2:=by
 have hd:=cZ hp hq;exact Nat.div_pos (Nat.le_of_dvd hd (Nat.gcd_dvd_right _ _)) (dM _ hd)
theorem sumP_toQ {l:List Sh} (h:∀ s∈l,0<zAF s.de):∀ k,k≤l.length→0<(zDn l k).2∧toQ (zDn l k)=zBw (l.take k)
 | 0,_=>⟨by rw [sumP_zero];decide,by rw [sumP_zero];rfl⟩
 | k+1,hk=>by
  obtain ⟨h1,h2⟩:=sumP_toQ h k za;have hs:=h _ (aJ (show k<l.length by omega))
  rw [sumP_succ (show k<l.length by omega)]
  refine ⟨addP_pos h1 hs,?_⟩
  rw [toQ_add h1 hs,h2,bF (show k<l.length by omega)]
  have e:∀ (m:List Sh) (s:Sh),zBw (m++[s])=zBw m+shQ s:=fun m s=>by
   induction m with
   | nil=>show shQ s+0=0+shQ s;grind
   | cons a m ih=>show shQ a+zBw (m++[s])=shQ a+zBw m+shQ s;rw [ih];grind
  rw [e]
  rfl
structure ShsOk (l:List Sh):Prop where
 nd:(l.map Sh.pt).Nodup
 nm:∀ s∈l,zAT s.pt=true
 rat:∀ s∈l,ratF s.nu s.de=0
 pos:∀ s∈l,posB s.nu=true
theorem pts_inc {l:List Sh} (h:∀ i (hi:i+1<l.length),slt l[i].pt l[i+1].pt=true):(l.map Sh.pt).Nodup:=by
 have:=inc_pair (l:=l.map Sh.pt) (fun i hi=>by
  have h9:=h i yi
  simpa using h9)
 exact this.imp fun h=>zCr h
theorem shF_ok {k:Int} {l:List Sh} (h:shF k l=0):ShsOk l∧(zDn l l.length).1≤(zDn l l.length).2∧(k=5→(zDn l l.length).1=(zDn l l.length).2):=by
 unfold shF at h
 split at h
 ·cases h
 split at h
 ·cases h
 have key:∀ i f,zBl l i=some f→f≠0:=fun i f hf=>by
  unfold zBl at hf
  split at hf
  ·cases hf;simp
  ·split at hf
   ·cases hf;simp
   ·split at hf
    ·next h1=>cases hf;exact h1
    ·split at hf
     ·cases hf;simp
     ·cases hf
 split at h
 ·next f hf =>
  exfalso
  obtain ⟨i,_,hi⟩:=List.exists_of_findSome?_eq_some hf;exact key i f hi h
 next hn =>
 rw [List.findSome?_eq_none_iff] at hn
 have hall:∀ i (hi:i<l.length),zAT l[i].pt=true∧(0<i→sle l[i].pt (l[i - 1]'(by omega)).pt=false)∧ratF l[i].nu l[i].de=0∧posB l[i].nu=true:=fun i hi=>by
  have:=hn i yi;unfold zBl at this;rw [ptAt_of hi,ptAt_of (show i - 1<l.length by omega),shD_of hi] at this
  split at this
  ·cases this
  next h1 =>
  split at this
  ·cases this
  next h2 =>
  split at this
  ·cases this
  next h3 =>
  split at this
  ·cases this
  next h4 =>
  refine ⟨by simpa using h1,fun h0=>?_,by simpa using h3,by simpa using h4⟩
  cases hs:sle l[i].pt (l[i - 1]'(by omega)).pt with
  | false=>rfl
  | true=>exact absurd ⟨h0,hs⟩ h2
 refine ⟨⟨pts_inc fun i hi=>zBT ?_,fun s hs=>?_,fun s hs=>?_,fun s hs=>?_⟩,?_,?_⟩
 ·have:=(hall (i+1) hi).2.1 za
  simpa using this
 ·obtain ⟨i,hi,rfl⟩:=dH hs;exact (hall i hi).1
 ·obtain ⟨i,hi,rfl⟩:=dH hs;exact (hall i hi).2.2.1
 ·obtain ⟨i,hi,rfl⟩:=dH hs;exact (hall i hi).2.2.2
 ·split at h
  ·cases h
  ·omega
 ·split at h
  ·cases h
  ·next h9=>intro hk;omega
theorem zCe {nu de:BA} (h:ratF nu de=0):0<zAF de:=by
 obtain ⟨_,h2,h3,_,_⟩:=zCt h;exact den_pos h2 h3
theorem toQ_one {p:Nat×Nat} (hp:0<p.2) (h:p.1=p.2):toQ p=1:=by
 unfold toQ;rw [h,show (1:Rat)=mkRat 1 1 from by decide,eR za za]
 simp
theorem toQ_le {p:Nat×Nat} (hp:0<p.2) (h:p.1≤p.2):toQ p≤1:=by
 have h1:toQ p+toQ (p.2 - p.1,p.2)=1:=by
  unfold toQ;rw [Rat.mkRat_add_mkRat _ _ za za,show (1:Rat)=mkRat 1 1 from by decide,eR (Nat.ne_of_gt (cZ hp hp)) za]
  have:((p.2 - p.1:Nat):Int)=(p.2:Int) - p.1:=za;simp only [this]
  push_cast
  grind
 have h2:0≤toQ (p.2 - p.1,p.2):=by
  unfold toQ;rw [←Rat.num_nonneg,Rat.num_mkRat]
  split
  ·exact Int.le_refl _
  ·exact Int.ediv_nonneg (cS _) (cS _)
 grind
theorem shs_sum {k:Int} {l:List Sh} (h:shF k l=0) (hk:k=5):zBw l=1:=by
 obtain ⟨h1,_,h3⟩:=shF_ok h;obtain ⟨p1,p2⟩:=sumP_toQ (fun s hs=>zCe (h1.rat s hs)) l.length (aC _)
 rw [bO] at p2;rw [←p2,toQ_one p1 (h3 hk)]
theorem parF_ok {d:De} (h:parF d=0) (hk:d.kd=2):ratF d.nu d.de=0∧posB d.nu=true∧zCX d.nu d.de≤1:=by
 unfold parF at h;rw [aD (by rw [hk];simp)] at h
 split at h
 ·next h1=>exact absurd h h1
 next h1 =>
 have h1':ratF d.nu d.de=0:=by simpa using h1
 split at h
 ·cases h
 next h2 =>
 refine ⟨h1',?_,?_⟩
 ·cases hp:posB d.nu with
  | true=>rfl
  | false=>exact absurd (.inl hp) h2
 ·exact toQ_le (p:=(zAF (zBj d.nu),zAF d.de)) (zCe h1') (Nat.not_lt.1 fun hl=>h2 (.inr hl))
structure ParOk (d:De):Prop where
 kd:1≤d.kd∧d.kd≤5
 org:d.kd=1→ShsOk d.sh∧d.fr=emp
 asg:d.kd=2→ratF d.nu d.de=0∧posB d.nu=true∧zCX d.nu d.de≤1∧d.fr≠d.to_
 pas:d.kd=5→ShsOk d.sh∧zBw d.sh=1∧∀ s∈d.sh,s.pt≠d.fr
theorem chkD_par {rs:List Rg} {us:List BA} {pre:List De} {d:De} (h:chkD rs us pre d=0):ParOk d:=by
 unfold chkD at h
 split at h
 ·cases h
 split at h
 ·cases h
 split at h
 ·cases h
 split at h
 ·cases h
 split at h
 ·cases h
 next h5 =>
 split at h
 ·cases h
 next hnd =>
 simp only [zAv,Bool.not_eq_true,aI,Bool.and_eq_false_iff] at hnd;obtain ⟨⟨⟨⟨⟨⟨⟨⟨_,n2⟩,_⟩,_⟩,_⟩,_⟩,_⟩,_⟩,_⟩:=hnd;have hkd:1≤d.kd∧d.kd≤5:=za
 split at h
 ·next hg =>
  have hk:d.kd=2∨d.kd=3:=by unfold zAj at hg;simpa using hg
  unfold giftF at h
  split at h
  ·cases h
  split at h
  ·cases h
  next hc =>
  split at h
  ·next h1=>exact absurd h h1
  next g3 =>
  refine ⟨hkd,fun hh=>za,fun hh=>?_,fun hh=>za⟩
  obtain ⟨a,b,c⟩:=parF_ok (by simpa using g3) hh
  exact ⟨a,b,c,hc⟩
 ·next hg =>
  split at h
  ·next h4=>exact ⟨hkd,fun hh=>za,fun hh=>za,fun hh=>za⟩
  ·next h4 =>
   have hk:¬ (d.kd=2∨d.kd=3):=fun hh=>by apply hg;unfold zAj;simpa using hh
   unfold divF at h
   split at h
   ·cases h
   split at h
   ·cases h
   split at h
   ·next h1=>exact absurd h h1
   next g3 =>
   have g3':shF d.kd d.sh=0:=by simpa using g3
   split at h
   ·cases h
   next g4 =>
   refine ⟨hkd,fun hh=>⟨(shF_ok g3').1,?_⟩,fun hh=>za,fun hh=>⟨(shF_ok g3').1,shs_sum g3' hh,fun s hs he=>?_⟩⟩
   ·have hg0:zAj d.kd=false:=by simpa using hg
    rcases n2 with n | n
    ·rw [hg0,hh] at n;simp at n
    ·simpa using n
   ·exact g4 ⟨hh,List.any_eq_true.2 ⟨s,hs,by simpa using he⟩⟩
theorem chkD_org {rs:List Rg} {us:List BA} {pre:List De} {d:De} (h:chkD rs us pre d=0) (hk:d.kd=1∨d.kd=5):∀ p∈pre,¬ (p.kd=d.kd∧p.th=d.th∧p.fr=d.fr):=by
 unfold chkD at h
 have hg:zAj d.kd=false:=by
  unfold zAj
  rcases hk with e | e<;>rw [e]<;>rfl
 rw [hg] at h
 split at h
 ·cases h
 split at h
 ·cases h
 split at h
 ·cases h
 split at h
 ·cases h
 split at h
 ·cases h
 split at h
 ·cases h
 split at h
 ·next h1=>cases h1
 split at h
 ·omega
 unfold divF at h
 split at h
 ·cases h
 split at h
 ·cases h
 split at h
 ·next h1=>exact absurd h h1
 split at h
 ·cases h
 split at h
 ·cases h
 next h9 =>
 intro p hp hc;exact h9 (List.any_eq_true.2 ⟨p,hp,by simp [hc]⟩)
theorem zBU {rs:List Rg} {us:List BA} {ds:List De} (h:zBt rs us ds=0):∀ d∈ds,ParOk d:=fun d hd=>by
 obtain ⟨k,hk,rfl⟩:=dH hd;exact chkD_par ((zBi h).2 k hk)
theorem title_org {rs:List Rg} {us:List BA} {ds:List De} (h:zBt rs us ds=0):ds.Pairwise fun a b=>¬ (a.kd=1∧b.kd=1∧a.th=b.th):=by
 have hc:=(zBi h).2;refine List.pairwise_iff_getElem.2 fun i j hi hj hij=>?_
 rintro ⟨k1,k2,k3⟩;refine chkD_org (hc j hj) (.inl k2) ds[i] ?_ ⟨k1.trans k2.symm,k3,?_⟩
 ·rw [List.mem_take_iff_getElem]
  exact ⟨i,za,rfl⟩
 ·rw [(zBU h _ (aJ hi)).org k1 |>.2,(zBU h _ (aJ hj)).org k2 |>.2]
def orgSum (th:BA) (day:Int) (ds:List De):Rat:=ds.foldr (fun d s=>(if orgB th day d=true then zBw d.sh else 0)+s) 0
theorem zDf {th:BA} {day:Int} {d:De}:orgB th day d=true↔d.kd=1∧d.th=th∧d.bg≤day:=by unfold orgB;simp
theorem org_none {th:BA} {day:Int}:∀ (ds:List De) (f:zBa),(∀ d∈ds,orgB th day d=false)→ds.foldl (orgF th day) f=f∧orgSum th day ds=0
 | [],_,_=>⟨rfl,rfl⟩
 | d::ds,f,h=>by
  have hd:=h d aQ;obtain ⟨h1,h2⟩:=org_none (th:=th) (day:=day) ds f fun e he=>h e (aP _ he)
  constructor
  ·rw [bJ]
   have:orgF th day f d=f:=by unfold orgF;rw [hd];rfl
   rw [this,h1]
  ·show (if orgB th day d=true then zBw d.sh else 0)+orgSum th day ds=0
   rw [hd,h2];simp
   grind
theorem start_one {th:BA} {day:Int}:∀ (ds:List De),ds.Pairwise (fun a b=>¬ (a.kd=1∧b.kd=1∧a.th=b.th)) →
  (zCv th day ds=(fun _=>0)∧orgSum th day ds=0)∨∃ d∈ds,orgB th day d=true∧zCv th day ds=zAi d.sh (fun _=>0)∧orgSum th day ds=zBw d.sh
 | [],_=>.inl ⟨rfl,rfl⟩
 | d::ds,h=>by
  obtain ⟨h1,h2⟩:=List.pairwise_cons.1 h
  cases hd:orgB th day d with
  | true =>
   obtain ⟨k1,k2,_⟩:=zDf.1 hd
   have hn:∀ e∈ds,orgB th day e=false:=fun e he=>by
    cases hh:orgB th day e with
    | false=>rfl
    | true =>
     obtain ⟨k3,k4,_⟩:=zDf.1 hh;exact absurd ⟨k1,k3,k2.trans k4.symm⟩ (h1 e he)
   obtain ⟨e1,e2⟩:=org_none (th:=th) (day:=day) ds (zAi d.sh (fun _=>0)) hn
   refine .inr ⟨d,aQ,hd,?_,?_⟩
   ·unfold zCv
    rw [bJ];have:orgF th day (fun _=>0) d=zAi d.sh (fun _=>0):=by unfold orgF;rw [hd];rfl
    rw [this,e1]
   ·show (if orgB th day d=true then zBw d.sh else 0)+orgSum th day ds=_
    rw [hd,e2,aF rfl]
    grind
  | false =>
   have e:zCv th day (d::ds)=zCv th day ds:=by
    unfold zCv;rw [bJ];have:orgF th day (fun _=>0) d=(fun _=>0):=by unfold orgF;rw [hd];rfl
    rw [this]
   have e2:orgSum th day (d::ds)=orgSum th day ds:=by
    show (if orgB th day d=true then zBw d.sh else 0)+orgSum th day ds=_
    rw [hd];simp
    grind
   rcases start_one (th:=th) (day:=day) ds h2 with ⟨a,b⟩ | ⟨x,hx,a,b,c⟩
   ·exact .inl ⟨by rw [e,a],by rw [e2,b]⟩
   ·exact .inr ⟨x,aP _ hx,a,by rw [e,b],by rw [e2,c]⟩
theorem keys_start {th:BA} {day:Int}:∀ (ds:List De) (K:List BA),(∀ q∈K,q∈ds.foldl (zBg th day) K)∧∀ d∈ds,orgB th day d=true→∀ s∈d.sh,s.pt∈ds.foldl (zBg th day) K
 | [],_=>⟨fun _ h=>h,fun _ h=>qh⟩
 | d::ds,K=>by
  obtain ⟨h1,h2⟩:=keys_start (th:=th) (day:=day) ds (zBg th day K d)
  have hm:∀ q∈K,q∈zBg th day K d:=fun q hq=>by
   unfold zBg
   split
   ·exact (zAN _).2 (.inr hq)
   ·exact hq
  refine ⟨fun q hq=>h1 q (hm q hq),fun e he ho s hs=>?_⟩
  rcases List.mem_cons.1 he with rfl | he
  ·refine h1 _ ?_
   unfold zBg;rw [aF ho];exact (zAN _).2 (.inl ⟨s,hs,rfl⟩)
  ·exact h2 e he ho s hs
theorem sum_mono {N M:List BA} {f:zBa} (hn:N.Nodup) (hm:M.Nodup) (h1:HoldOk N f) (h2:HoldOk M f):zCi N f=zCi M f:=by
 induction N generalizing M f with
 | nil =>
  have:∀ p,f p=0:=fun p=>h1.out p zd
  rw [sumF_congr (N:=M) (g:=fun _=>0) (fun p _=>this p),sumF_zero,sumF_nil]
 | cons a N ih =>
  obtain ⟨k1,k2⟩:=List.nodup_cons.1 hn
  have g1:HoldOk N (upH f a 0):=⟨fun p=>by
   by_cases hp:p=a
   ·subst hp;rw [zBy];exact Rat.le_refl
   ·rw [zAJ _ _ hp];exact h1.pos p,fun p hp=>by
   by_cases hpa:p=a
   ·subst hpa;rw [zBy]
   ·rw [zAJ _ _ hpa]
    exact h1.out p (by simp [hpa,hp])⟩
  have g2:HoldOk M (upH f a 0):=⟨g1.pos,fun p hp=>by
   by_cases hpa:p=a
   ·subst hpa;rw [zBy]
   ·rw [zAJ _ _ hpa];exact h2.out p hp⟩
  have e1:zCi N (upH f a 0)=zCi N f:=sumF_congr fun p hp=>zAJ _ _ (fun e=>k1 (by rw [←e];exact hp))
  have e2:=ih k2 hm g1 g2;rw [zAS,←e1,e2]
  by_cases ha:a∈M
  ·rw [sumF_up hm ha];grind
  ·have h0:=h2.out a ha
   rw [sumF_congr (N:=M) (g:=f) (fun p hp=>zAJ _ _ (fun e=>ha (by rw [←e];exact hp))),h0]
   grind
theorem steps_sum (mv:De→Bool):∀ (ds:List De) (K:List BA) (f:zBa),(∀ d∈ds,mv d=true→d.kd≠5→zCX d.nu d.de≤1)→(∀ d∈ds,mv d=true→d.kd=5→zBw d.sh=1)→IncN K→HoldOk K f →
  zCi (ds.foldl (zAO mv) K) (ds.foldl (zCQ mv) f)=zCi K f
 | [],_,_,_,_,_,_=>rfl
 | d::ds,K,f,hq,h5,h1,h2=>by
  rw [bJ,bJ]
  cases hm:mv d with
  | false =>
   have e1:zAO mv K d=K:=by unfold zAO;rw [hm];rfl
   have e2:zCQ mv f d=f:=by unfold zCQ;rw [hm];rfl
   rw [e1,e2];exact steps_sum mv ds K f (fun e he=>hq e (aP _ he)) (fun e he=>h5 e (aP _ he)) h1 h2
  | true =>
   have e1:zAO mv K d=zAG d K:=by unfold zAO;rw [hm];rfl
   have e2:zCQ mv f d=zDt d f:=by unfold zCQ;rw [hm];rfl
   have g1:=zCS d h1;have g2:=h2.takeK d (hq d aQ hm);rw [e1,e2,steps_sum mv ds _ _ (fun e he=>hq e (aP _ he)) (fun e he=>h5 e (aP _ he)) g1 g2]
   have hs:∀ p∈K,p∈zAG d K:=fun p hp=>by
    unfold zAG
    split
    ·exact (zAN _).2 (.inr (zAL.2 (.inr hp)))
    ·exact zAL.2 (.inr (zAL.2 (.inr hp)))
   rw [sumF_take g1.nodup d f ?_ ?_ ?_ (fun h=>h5 d aQ hm h)]
   ·exact sum_mono g1.nodup h1.nodup (h2.mono hs) h2
   ·unfold zAG
    split
    ·exact (zAN _).2 (.inr (zAL.2 (.inl rfl)))
    ·exact zAL.2 (.inr (zAL.2 (.inl rfl)))
   ·intro hk
    unfold zAG;rw [aD hk];exact zAL.2 (.inl rfl)
   ·intro hk s hs
    unfold zAG;rw [aF hk];exact (zAN _).2 (.inl ⟨s,hs,rfl⟩)
theorem zBC {rs:List Rg} {us:List BA} {ds:List De} (h:zBt rs us ds=0) (i:Nat) (th use:BA) (day:Int) (n:Nat) :
  IncN (zBr rs ds i th use day n)∧HoldOk (zBr rs ds i th use day n) (zAp rs ds i th use day n)∧zCi (zBr rs ds i th use day n) (zAp rs ds i th use day n)=orgSum th day ds:=by
 have hpar:=zBU h;obtain ⟨s1,s2⟩:=start_ok th day ds [] (fun _=>0) List.Pairwise.nil hold_none
 have hmv:∀ d∈ds.take n,zCO rs ds i th use day d=true→d.kd≠5→zCX d.nu d.de≤1:=fun d hd hm h5=>by
  have hd':=bR hd;unfold zCO at hm
  by_cases h2:d.kd=2
  ·exact ((hpar d hd').asg h2).2.2.1
  ·rw [aD h2,aD h5] at hm;cases hm
 have h5s:∀ d∈ds.take n,zCO rs ds i th use day d=true→d.kd=5→zBw d.sh=1:=fun d hd _ h5=>((hpar d (bR hd)).pas h5).2.1
 obtain ⟨t1,t2⟩:=steps_ok (zCO rs ds i th use day) (ds.take n) (zDc th day ds) (zCv th day ds) hmv s1 s2;refine ⟨t1,t2,?_⟩
 have e:=steps_sum (zCO rs ds i th use day) (ds.take n) (zDc th day ds) (zCv th day ds) hmv h5s s1 s2
 show zCi (zBr rs ds i th use day n) (zAp rs ds i th use day n)=_
 unfold zBr zAp;rw [e]
 rcases start_one (th:=th) (day:=day) ds (title_org h) with ⟨a,b⟩ | ⟨d,hd,a,b,c⟩
 ·rw [a,b,sumF_zero]
 ·obtain ⟨k1,_,_⟩:=zDf.1 a
  have ho:=((hpar d hd).org k1).1
  show zCi (ds.foldl (zBg th day) []) (zCv th day ds)=orgSum th day ds
  rw [b,c,sumF_put s1.nodup d.sh (fun _=>0) (fun s hs=>(keys_start ds []).2 d hd a s hs) ho.nd (fun _ _=>rfl),sumF_zero]
  grind
end Go.Proofs.YtieoifkdobcpiaaGreatDoor
namespace Go.Proofs
open Go.Shelf
end Go.Proofs
namespace Go.Proofs.YtieoifkdobcpiaaGreatDoor
open Go.RowKit Dw
theorem dec_size (u:Nat) (k:Nat) (h:u<10 ^ k) (h1:1≤k):(Lib.decDigits u).length≤k:=by
 induction u using Nat.strongRecOn generalizing k with
 | _ u ih =>
  rw [Lib.decDigits]
  by_cases hu:u<10
  ·rw [dif_pos hu];simpa using h1
  ·rw [dif_neg hu,dC]
   have hk:2≤k:=by
    rcases bQ k 2 with h2 | h2
    ·have:k=1:=by omega
     subst this;omega
    ·exact h2
   have:=ih (u / 10) za (k - 1) (by
    have e:10 ^ k=10 ^ (k - 1)*10:=by rw [←aS];congr 1;omega
    rw [e] at h;exact Nat.div_lt_of_lt_mul (by rwa [aU])) za
   simp only [aR,dP];omega
end Go.Proofs.YtieoifkdobcpiaaGreatDoor
namespace Go.Proofs.YtieoifkdobcpiaaGreatDoor
open Dw
def digB (n:Nat):BA:=⟨(Lib.decDigits n).toArray⟩
theorem dig_one (u:Nat) (h:u<10):(UInt8.ofNat (48+u)).toNat=48+u:=by
 rw [UInt8.toNat_ofNat'];omega
theorem dig_all (n:Nat):(Lib.decDigits n).all dgB=true:=by
 induction n using Nat.strongRecOn with
 | _ n ih =>
  rw [Lib.decDigits]
  split
  ·next h=>simp [dgB];omega
  ·next h =>
   rw [List.all_append,ih (n / 10) za];simp [dgB]
   omega
theorem dig_val (n:Nat):zCc (Lib.decDigits n)=n:=by
 induction n using Nat.strongRecOn with
 | _ n ih =>
  rw [Lib.decDigits]
  split
  ·next h =>
   show 10*0+((UInt8.ofNat (48+n)).toNat - 48)=n
   rw [dig_one n h];omega
  ·next h =>
   rw [decV_snoc,ih (n / 10) za,dig_one (n % 10) za];omega
theorem dig_len (n k:Nat) (hk:1≤k):(Lib.decDigits n).length≤k↔n<10 ^ k:=by
 constructor
 ·intro h
  have h1:=decV_lt (l:=Lib.decDigits n) fun c hc=>by
   have:=(dgB_iff c).1 (List.all_eq_true.1 (dig_all n) c hc);omega
  rw [dig_val] at h1;exact cY h1 (bP za h)
 ·exact fun h=>dec_size n k h hk
theorem digB_size (n:Nat):(digB n).size=(Lib.decDigits n).length:=by
 show (Lib.decDigits n).toArray.size=_
 simp
theorem digB_zero:digB 0=zeroS:=by
 unfold digB;rw [Lib.decDigits]
 rfl
def outQ (q:Rat):BA×BA:=(digB q.num.natAbs,digB q.den)
theorem den_mk {n:Int} {d:Nat} (hd:d≠0):(mkRat n d).den∣d:=by
 rw [Rat.den_mkRat,aD hd];exact Nat.div_dvd_of_dvd (Nat.gcd_dvd_left _ _)
theorem as_mk {a:Rat} {M:Nat} (hM:M≠0) (h:a.den∣M):∃ x:Int,a=mkRat x M:=by
 obtain ⟨k,rfl⟩:=h;have hk:k≠0:=fun e=>hM (by rw [e,bK])
 refine ⟨a.num*k,?_⟩
 conv=>lhs;rw [←Rat.mkRat_self a]
 rw [eR a.den_nz hM]
 push_cast
 grind
theorem den_add {a b:Rat} {M:Nat} (hM:M≠0) (ha:a.den∣M) (hb:b.den∣M):(a+b).den∣M:=by
 obtain ⟨x,rfl⟩:=as_mk hM ha;obtain ⟨y,rfl⟩:=as_mk hM hb
 have:mkRat x M+mkRat y M=mkRat (x+y) M:=by
  rw [Rat.mkRat_add_mkRat _ _ hM hM,eR (eO hM hM) hM]
  push_cast
  grind
 rw [this];exact den_mk hM
theorem den_neg (a:Rat):(-a).den=a.den:=rfl
theorem den_sub {a b:Rat} {M:Nat} (hM:M≠0) (ha:a.den∣M) (hb:b.den∣M):(a - b).den∣M:=by
 have:a - b=a + -b:=by grind
 rw [this];exact den_add hM ha (by rw [den_neg];exact hb)
theorem den_mul {a b:Rat}:(a*b).den∣a.den*b.den:=by
 have h:a*b=mkRat (a.num*b.num) (a.den*b.den):=by
  conv=>lhs;rw [←Rat.mkRat_self a,←Rat.mkRat_self b]
  rw [Rat.mkRat_mul_mkRat]
 rw [h];exact den_mk (eO a.den_nz b.den_nz)
structure HoldB (N:List BA) (M:Nat) (f:zBa):Prop where
 ok:HoldOk N f
 nd:N.Nodup
 sum:zCi N f≤1
 den:∀ p,(f p).den∣M
 nz:M≠0
theorem sum_ge {N:List BA} {f:zBa} (h:∀ p,0≤f p):0≤zCi N f:=by
 induction N with
 | nil=>exact Rat.le_refl
 | cons a N ih=>rw [zAS];have:=h a;grind
theorem le_sum {N:List BA} {f:zBa} (h:∀ p,0≤f p) {p:BA} (hp:p∈N):f p≤zCi N f:=by
 induction N with
 | nil=>cases hp
 | cons a N ih =>
  rw [zAS]
  rcases List.mem_cons.1 hp with rfl | hp
  ·have:=sum_ge (N:=N) h;grind
  ·have:=ih hp;have:=h a;grind
theorem HoldB.le {N:List BA} {M:Nat} {f:zBa} (h:HoldB N M f) (p:BA):f p≤1:=by
 by_cases hp:p∈N
 ·have:=le_sum h.ok.pos hp;have:=h.sum;grind
 ·rw [h.ok.out p hp];decide
def denP (l:List Sh):Nat:=l.foldr (fun s n=>zAF s.de*n) 1
theorem denP_dvd {l:List Sh} {s:Sh} (h:s∈l):zAF s.de∣denP l:=by
 induction l with
 | nil=>cases h
 | cons a l ih =>
  show _∣zAF a.de*denP l
  rcases List.mem_cons.1 h with rfl | h
  ·exact Nat.dvd_mul_right _ _
  ·exact eS (ih h) (Nat.dvd_mul_left _ _)
theorem denP_nz {l:List Sh} (h:∀ s∈l,0<zAF s.de):denP l≠0:=by
 induction l with
 | nil=>decide
 | cons a l ih =>
  show zAF a.de*denP l≠0
  have:=h a aQ;exact eO za (ih fun s hs=>h s (aP _ hs))
theorem denP_lt {l:List Sh} (h:∀ s∈l,zAF s.de<10 ^ 2000):denP l<10 ^ (2000*l.length+1):=by
 induction l with
 | nil=>decide
 | cons a l ih =>
  show zAF a.de*denP l<_
  have h1:=h a aQ;have h2:=ih fun s hs=>h s (aP _ hs)
  have e:2000*(a::l).length+1=2000+(2000*l.length+1):=by rw [aR];omega
  obtain ⟨u,hu⟩:∃ u,u=2000:=⟨_,rfl⟩;rw [e,Nat.pow_add];rw [←hu] at h1 h2 ⊢
  rcases bI (denP l) with h0 | h0
  ·rw [h0,bK]
   exact cZ (Nat.pow_pos zc) (Nat.pow_pos zc)
  ·exact Nat.mul_lt_mul'' h1 h2
theorem shSum_app (l m:List Sh):zBw (l++m)=zBw l+zBw m:=by
 induction l with
 | nil=>show zBw m=0+zBw m;grind
 | cons a l ih=>show shQ a+zBw (l++m)=shQ a+zBw l+zBw m;rw [ih];grind
theorem shSum_pos (l:List Sh):0≤zBw l:=by
 induction l with
 | nil=>exact Rat.le_refl
 | cons a l ih=>show 0≤shQ a+zBw l;have:=shQ_pos a;grind
theorem shSum_take (l:List Sh) (j:Nat):zBw (l.take j)≤zBw l:=by
 have h:=shSum_app (l.take j) (l.drop j);rw [List.take_append_drop] at h;have:=shSum_pos (l.drop j)
 grind
theorem shQ_den {s:Sh} (h:0<zAF s.de):(shQ s).den∣zAF s.de:=den_mk za
theorem HoldB.more {N K:List BA} {M:Nat} {f:zBa} (h:HoldB N M f) (hk:K.Nodup) (hs:∀ p∈N,p∈K):HoldB K M f :=
 ⟨h.ok.mono hs,hk,by rw [sum_mono hk h.nd (h.ok.mono hs) h.ok];exact h.sum,h.den,h.nz⟩
theorem mul_le {a q:Rat} (ha:0≤a) (h1:a≤1) (hq0:0≤q) (hq:q≤1):0≤a*q∧a*q≤1:=by
 have h2:=Rat.mul_le_mul_of_nonneg_left hq ha;have h3:=Rat.mul_nonneg ha hq0
 grind
theorem HoldB.passMid {N:List BA} {M:Nat} {f:zBa} {fr:BA} {l:List Sh} (h:HoldB N M f) (hf:fr∈N) (hl:∀ s∈l,s.pt∈N) (hd:∀ s∈l,0<zAF s.de) (h1:zBw l=1):∀ j,j≤l.length →
  HoldB N (M*denP l) (zBN (f fr) (l.take j) (upH f fr 0)):=fun j hj=>by
 have hz:=denP_nz hd;have hM:=eO h.nz hz;have hl':∀ s∈l.take j,s.pt∈N:=fun s hs=>hl s (bR hs)
 have k0:HoldOk N (upH f fr 0):=h.ok.up hf Rat.le_refl;refine ⟨HoldOk.pass (h.ok.pos fr) _ _ k0 hl',h.nd,?_,?_,hM⟩
 ·rw [sumF_pass h.nd _ _ _ hl',sumF_up h.nd hf]
  have a:=shSum_take l j;have b:=h.sum;have c:=Rat.mul_le_mul_of_nonneg_left (show zBw (l.take j)≤1 by grind) (h.ok.pos fr)
  grind
 ·have key:∀ (m:List Sh) (g:zBa),(∀ s∈m,s∈l)→(∀ p,(g p).den∣M*denP l)→∀ p,(zBN (f fr) m g p).den∣M*denP l:=fun m=>by
   induction m with
   | nil=>exact fun g _ hg=>hg
   | cons s m ih =>
    intro g hs hg;refine ih (upH g s.pt (g s.pt+f fr*shQ s)) (fun t ht=>hs t (aP _ ht)) fun p=>?_
    by_cases hp:p=s.pt
    ·subst hp
     rw [zBy];refine den_add hM (hg _) (eS den_mul (Nat.mul_dvd_mul (h.den fr) ?_))
     have hsl:=hs s aQ;exact eS (shQ_den (hd s hsl)) (denP_dvd hsl)
    ·rw [zAJ _ _ hp];exact hg p
  refine key _ _ (fun s hs=>bR hs) fun p=>?_
  by_cases hp:p=fr
  ·subst hp;rw [zBy];exact Nat.one_dvd _
  ·rw [zAJ _ _ hp];exact eS (h.den p) (Nat.dvd_mul_right _ _)
theorem HoldB.giveMid {N:List BA} {M:Nat} {f:zBa} {d:De} (h:HoldB N M f) (hf:d.fr∈N) (hq:zCX d.nu d.de≤1) (hd:0<zAF d.de) :
  HoldB N (M*zAF d.de) (upH f d.fr (f d.fr - f d.fr*zCX d.nu d.de))∧(f d.fr*zCX d.nu d.de).den∣M*zAF d.de:=by
 have hM:=eO h.nz (show zAF d.de≠0 by omega)
 have hx:(f d.fr*zCX d.nu d.de).den∣M*zAF d.de:=eS den_mul (Nat.mul_dvd_mul (h.den _) (den_mk za));have hp:=mul_le (h.ok.pos d.fr) (h.le d.fr) (ratQ_pos d.nu d.de) hq;refine ⟨⟨h.ok.up hf (part_le (h.ok.pos _) hq),h.nd,?_,fun p=>?_,hM⟩,hx⟩
 ·rw [sumF_up h.nd hf]
  have:=h.sum
  grind
 ·by_cases hpp:p=d.fr
  ·subst hpp
   rw [zBy];exact den_sub hM (eS (h.den _) (Nat.dvd_mul_right _ _)) hx
  ·rw [zAJ _ _ hpp];exact eS (h.den p) (Nat.dvd_mul_right _ _)
theorem HoldB.give {N:List BA} {M:Nat} {f:zBa} {d:De} (h:HoldB N M f) (hf:d.fr∈N) (ht:d.to_∈N) (hq:zCX d.nu d.de≤1) (hd:0<zAF d.de):HoldB N (M*zAF d.de) (giveF d f):=by
 obtain ⟨h1,hx⟩:=h.giveMid hf hq hd;refine ⟨h.ok.give d hf ht hq,h.nd,by rw [sumF_give h.nd d f hf ht];exact h.sum,fun p=>?_,h1.nz⟩
 unfold giveF
 by_cases hp:p=d.to_
 ·subst hp
  rw [zBy];exact den_add h1.nz (h1.den _) hx
 ·rw [zAJ _ _ hp];exact h1.den p
def growD (d:De):Nat:=if d.kd=5 then denP d.sh else zAF d.de
theorem HoldB.take {N:List BA} {M:Nat} {f:zBa} {d:De} (h:HoldB N M f) (hp:ParOk d) (hk:d.kd=2∨d.kd=5) (hf:d.fr∈N) (ht:d.kd≠5→d.to_∈N) (hl:d.kd=5→∀ s∈d.sh,s.pt∈N):HoldB N (M*growD d) (zDt d f):=by
 unfold growD zDt
 rcases hk with hk | hk
 ·obtain ⟨a,b,c,_⟩:=hp.asg hk
  rw [aD za,aD za];exact h.give hf (ht za) c (zCe a)
 ·obtain ⟨a,b,_⟩:=hp.pas hk
  rw [aF hk,aF hk];have:=h.passMid hf (hl hk) (fun s hs=>zCe (a.rat s hs)) b d.sh.length (aC _)
  rwa [bO] at this
theorem valS_lt {s:BA} (h:numB s=true) (hs:s.size≤2000):zAF s<10 ^ 2000:=by
 have h1:=decV_lt (l:=s.data.toList) fun c hc=>by
  have:=(dgB_iff c).1 (List.all_eq_true.1 (zBf h).1 c hc);omega
 obtain ⟨q,hq⟩:∃ q,q=2000:=⟨_,rfl⟩;rw [←hq] at hs ⊢;refine cY h1 (bP za ?_)
 rw [←Lib.size_eq];exact hs
theorem ratF_lt {nu de:BA} (h:ratF nu de=0):zAF de<10 ^ 2000:=by
 obtain ⟨_,h2,_,_,h5⟩:=zCt h;exact valS_lt h2 h5
theorem shs_le {k:Int} {l:List Sh} (h:shF k l=0):zBw l≤1:=by
 obtain ⟨h1,h2,_⟩:=shF_ok h;obtain ⟨p1,p2⟩:=sumP_toQ (fun s hs=>zCe (h1.rat s hs)) l.length (aC _)
 rw [bO] at p2;rw [←p2];exact toQ_le p1 h2
theorem chkD_sh {rs:List Rg} {us:List BA} {pre:List De} {d:De} (h:chkD rs us pre d=0) (hk:d.kd=1∨d.kd=5):shF d.kd d.sh=0:=by
 unfold chkD at h
 have hg:zAj d.kd=false:=by
  unfold zAj
  rcases hk with e | e<;>rw [e]<;>rfl
 rw [hg] at h
 split at h
 ·cases h
 split at h
 ·cases h
 split at h
 ·cases h
 split at h
 ·cases h
 split at h
 ·cases h
 split at h
 ·cases h
 split at h
 ·next h1=>cases h1
 split at h
 ·omega
 unfold divF at h
 split at h
 ·cases h
 split at h
 ·cases h
 split at h
 ·next h1=>exact absurd h h1
 next h1=>simpa using h1
theorem title_sh {rs:List Rg} {us:List BA} {ds:List De} (h:zBt rs us ds=0):∀ d∈ds,(d.kd=1∨d.kd=5)→shF d.kd d.sh=0:=fun d hd hk=>by
 obtain ⟨k,hk',rfl⟩:=dH hd;exact chkD_sh ((zBi h).2 k hk') hk
theorem growD_lt {d:De} (hp:ParOk d) (hl:d.sh.length≤20) (hk:d.kd=2∨d.kd=5):growD d<10 ^ 40001:=by
 unfold growD
 rcases hk with hk | hk
 ·rw [aD za]
  have h9:=ratF_lt (hp.asg hk).1;obtain ⟨a,ha⟩:∃ a,a=2000:=⟨_,rfl⟩;obtain ⟨b,hb⟩:∃ b,b=40001:=⟨_,rfl⟩;rw [←ha] at h9;rw [←hb];exact cY h9 (bP za za)
 ·rw [aF hk]
  obtain ⟨b,hb⟩:∃ b,b=40001:=⟨_,rfl⟩;rw [←hb];exact cY (denP_lt fun s hs=>ratF_lt ((hp.pas hk).1.rat s hs)) (bP za za)
theorem put_den:∀ (l:List Sh) (f:zBa) (M:Nat),M≠0→(∀ p,(f p).den∣M)→(∀ s∈l,(shQ s).den∣M)→∀ p,(zAi l f p).den∣M
 | [],_,_,_,hf,_=>hf
 | s::l,f,M,hM,hf,hs=>put_den l (upH f s.pt (shQ s)) M hM (fun p=>by
   by_cases hp:p=s.pt
   ·subst hp;rw [zBy];exact hs s aQ
   ·rw [zAJ _ _ hp];exact hf p) fun t ht=>hs t (aP _ ht)
theorem start_bound {rs:List Rg} {us:List BA} {ds:List De} (h:zBt rs us ds=0) (th:BA) (day:Int):∃ M,HoldB (zDc th day ds) M (zCv th day ds)∧M<10 ^ 40001:=by
 obtain ⟨s1,s2⟩:=start_ok th day ds [] (fun _=>0) List.Pairwise.nil hold_none
 rcases start_one (th:=th) (day:=day) ds (title_org h) with ⟨a,_⟩ | ⟨d,hd,a,b,_⟩
 ·refine ⟨1,⟨s2,s1.nodup,?_,?_,zc⟩,by obtain ⟨b,hb⟩:∃ b,b=40001:=⟨_,rfl⟩;rw [←hb];exact Nat.one_lt_pow za zc⟩
  ·show zCi _ (zCv th day ds)≤1
   rw [a,sumF_zero];decide
  ·intro p
   show ((zCv th day ds) p).den∣1
   rw [a];exact Nat.dvd_refl _
 ·obtain ⟨k1,_,_⟩:=zDf.1 a
  have ho:=((zBU h d hd).org k1).1;have hsh:=title_sh h d hd (.inl k1);have hz:=denP_nz fun s hs=>zCe (ho.rat s hs)
  refine ⟨denP d.sh,⟨s2,s1.nodup,?_,?_,hz⟩,?_⟩
  ·show zCi (ds.foldl (zBg th day) []) (zCv th day ds)≤1
   rw [b,sumF_put s1.nodup d.sh (fun _=>0) (fun s hs=>(keys_start ds []).2 d hd a s hs) ho.nd (fun _ _=>rfl),sumF_zero]
   have:=shs_le hsh
   grind
  ·intro p
   show ((zCv th day ds) p).den∣_
   rw [b];exact put_den d.sh _ _ hz (fun p=>Nat.one_dvd _) (fun s hs=>eS (shQ_den (zCe (ho.rat s hs))) (denP_dvd hs)) p
  ·obtain ⟨b,hb⟩:∃ b,b=40001:=⟨_,rfl⟩
   rw [←hb];exact cY (denP_lt fun s hs=>ratF_lt (ho.rat s hs)) (bP za (by have:=shF_len hsh;omega))
theorem keysTake_mem (d:De) {K:List BA}:(∀ p∈K,p∈zAG d K)∧d.fr∈zAG d K∧(d.kd≠5→d.to_∈zAG d K)∧(d.kd=5→∀ s∈d.sh,s.pt∈zAG d K):=by
 unfold zAG;refine ⟨fun p hp=>?_,?_,fun hk=>?_,fun hk s hs=>?_⟩
 ·split
  ·exact (zAN _).2 (.inr (zAL.2 (.inr hp)))
  ·exact zAL.2 (.inr (zAL.2 (.inr hp)))
 ·split
  ·exact (zAN _).2 (.inr (zAL.2 (.inl rfl)))
  ·exact zAL.2 (.inr (zAL.2 (.inl rfl)))
 ·rw [aD hk]
  exact zAL.2 (.inl rfl)
 ·rw [aF hk]
  exact (zAN _).2 (.inl ⟨s,hs,rfl⟩)
theorem movB_kd {rs:List Rg} {ds:List De} {i:Nat} {th use:BA} {day:Int} {d:De} (h:zCO rs ds i th use day d=true):d.kd=2∨d.kd=5:=by
 unfold zCO at h
 split at h
 ·next h1=>exact .inl h1
 ·split at h
  ·next h2=>exact .inr h2
  ·cases h
theorem take_snoc {l:List De} {k:Nat} (hk:k<l.length):l.take (k+1)=l.take k++[l[k]]:=bF hk
theorem zDr (rs:List Rg) {ds:List De} (i:Nat) (th use:BA) (day:Int) {n:Nat} (hn:n<ds.length) :
  zAp rs ds i th use day (n+1)=zCQ (zCO rs ds i th use day) (zAp rs ds i th use day n) ds[n]∧zBr rs ds i th use day (n+1)=zAO (zCO rs ds i th use day) (zBr rs ds i th use day n) ds[n]:=by
 unfold zAp zBr;rw [take_snoc hn,bL,bL];exact ⟨rfl,rfl⟩
theorem zCJ {rs:List Rg} {us:List BA} {ds:List De} (h:zBt rs us ds=0) (i:Nat) (th use:BA) (day:Int):∀ n,n≤ds.length→∃ M,HoldB (zBr rs ds i th use day n) M (zAp rs ds i th use day n)∧M<10 ^ (40001*(n+1))
 | 0,_=>by
  obtain ⟨M,h1,h2⟩:=start_bound h th day;exact ⟨M,by simpa [zBr,zAp] using h1,by rw [aK,bS];exact h2⟩
 | n+1,hn=>by
  obtain ⟨M,h1,h2⟩:=zCJ h i th use day n za;obtain ⟨e1,e2⟩:=zDr rs i th use day (show n<ds.length by omega)
  have hd:=aJ (show n<ds.length by omega)
  rw [e1,e2];generalize ds[n]=d at hd;obtain ⟨k1,_,_⟩:=zBC h i th use day n
  cases hm:zCO rs ds i th use day d with
  | false =>
   have g1:zAO (zCO rs ds i th use day) (zBr rs ds i th use day n) d=zBr rs ds i th use day n:=by unfold zAO;rw [hm];rfl
   have g2:zCQ (zCO rs ds i th use day) (zAp rs ds i th use day n) d=zAp rs ds i th use day n:=by unfold zCQ;rw [hm];rfl
   rw [g1,g2];exact ⟨M,h1,cY h2 (bP za za)⟩
  | true =>
   have g1:zAO (zCO rs ds i th use day) (zBr rs ds i th use day n) d=zAG d (zBr rs ds i th use day n):=by unfold zAO;rw [hm];rfl
   have g2:zCQ (zCO rs ds i th use day) (zAp rs ds i th use day n) d=zDt d (zAp rs ds i th use day n):=by unfold zCQ;rw [hm];rfl
   rw [g1,g2];obtain ⟨m1,m2,m3,m4⟩:=keysTake_mem d (K:=zBr rs ds i th use day n);have hpar:=zBU h d hd
   have hl:d.sh.length≤20:=by
    obtain ⟨k,hk,e⟩:=dH hd;have:=(chkD_lens ((zBi h).2 k hk) (zBi h).1).2.2
    rwa [e] at this
   refine ⟨M*growD d,(h1.more (zCS d k1).nodup m1).take hpar (movB_kd hm) m2 m3 m4,?_⟩
   have:=growD_lt hpar hl (movB_kd hm);have e3:40001*(n+1+1)=40001*(n+1)+40001:=za;rw [e3,Nat.pow_add];exact Nat.mul_lt_mul'' h2 this
def pairs (K:List BA) (f:zBa):List (BA×Rat):=K.map fun q=>(q,f q)
def zCU (K:List BA) (f:zBa):Bool:=K.any fun p=>zDd (f p)
def zBM (rs:List Rg) (ds:List De) (i:Nat) (th use:BA) (day:Int) (n:Nat):Bool:=(List.range n).any fun k=>zCU (zBr rs ds i th use day (k+1)) (zAp rs ds i th use day (k+1))
def zBe (rs:List Rg) (us:List BA) (ds:List De) (th pl use:BA) (day:Int):List (BA×Rat)×Int :=
 if zBt rs us ds≠0 then ([],zBt rs us ds) else if zAT th=false then ([],5) else if (leafB rs pl&&memS us use)=false then ([],5) else if zCM day=false then ([],1)
 else if zBM rs ds ((idx rs pl).getD 0) th use day ds.length=true then ([],2)
 else (pairs (holL (zBr rs ds ((idx rs pl).getD 0) th use day ds.length) (zAp rs ds ((idx rs pl).getD 0) th use day ds.length)) (zAp rs ds ((idx rs pl).getD 0) th use day ds.length),0)
theorem toQ_num {p:Nat×Nat} (h:Nat.gcd p.1 p.2=1) (h0:0<p.2):p=((toQ p).num.natAbs,(toQ p).den):=by
 have e:toQ p=(⟨(p.1:Int),p.2,za,by simpa [Nat.Coprime] using h⟩:Rat):=Rat.mkRat_self ⟨(p.1:Int),p.2,za,by simpa [Nat.Coprime] using h⟩
 rw [e]
 rfl
theorem lowP_gcd {n d:Nat} (hd:0<d):Nat.gcd (zCN n d).1 (zCN n d).2=1∧0<(zCN n d).2:=by
 have hg:0<Nat.gcd n d:=dM _ hd;exact ⟨Nat.coprime_div_gcd_div_gcd hg,Nat.div_pos (Nat.le_of_dvd hd (Nat.gcd_dvd_right _ _)) hg⟩
theorem low_q {n d:Nat} {q:Rat} (hd:0<d) (h:mkRat (n:Int) d=q):zCN n d=(q.num.natAbs,q.den):=by
 obtain ⟨h1,h2⟩:=lowP_gcd (n:=n) hd;have:=toQ_num h1 h2;rw [toQ_low hd,h] at this;exact this
theorem abs_num {q:Rat} (h:0≤q):((q.num.natAbs:Nat):Int)=q.num:=by
 have:=Rat.num_nonneg.2 h;omega
theorem as_q {q:Rat} (h:0≤q):q=mkRat ((q.num.natAbs:Nat):Int) q.den:=by
 rw [abs_num h];exact (Rat.mkRat_self q).symm
abbrev prQ (q:Rat):Nat×Nat:=(q.num.natAbs,q.den)
theorem den_q (q:Rat):0<q.den:=Nat.pos_of_ne_zero q.den_nz
theorem addP_q {a b:Rat} (ha:0≤a) (hb:0≤b):addP (prQ a) (prQ b)=prQ (a+b):=by
 unfold addP;refine low_q (cZ (den_q a) (den_q b)) ?_
 conv=>rhs;rw [as_q ha,as_q hb]
 rw [Rat.mkRat_add_mkRat _ _ a.den_nz b.den_nz];simp
theorem le_q {a b:Rat} (hb:0≤b) (h:b≤a):b.num.natAbs*a.den≤a.num.natAbs*b.den:=by
 have h1:=(Rat.le_iff b a).1 h;have ha:0≤a:=Rat.le_trans hb h;rw [←abs_num ha,←abs_num hb] at h1
 exact_mod_cast h1
theorem subP_q {a b:Rat} (hb:0≤b) (h:b≤a):subP (prQ a) (prQ b)=prQ (a - b):=by
 unfold subP;refine low_q (cZ (den_q a) (den_q b)) ?_
 have hle:=le_q hb h;have ha:0≤a:=Rat.le_trans hb h
 have key:mkRat (((a.num.natAbs*b.den - b.num.natAbs*a.den:Nat)):Int) (a.den*b.den)+b=a:=by
  conv=>lhs;arg 2;rw [as_q hb]
  conv=>rhs;rw [as_q ha]
  rw [Rat.mkRat_add_mkRat _ _ (eO a.den_nz b.den_nz) b.den_nz,eR (eO (eO a.den_nz b.den_nz) b.den_nz) a.den_nz,Int.ofNat_sub hle]
  push_cast
  grind
 show mkRat (((a.num.natAbs*b.den - b.num.natAbs*a.den:Nat)):Int) (a.den*b.den)=a - b
 grind
def mulP (p q:Nat×Nat):Nat×Nat:=zCN (p.1*q.1) (p.2*q.2)
theorem mulP_q {a b:Rat} (ha:0≤a) (hb:0≤b):mulP (prQ a) (prQ b)=prQ (a*b):=by
 unfold mulP;refine low_q (cZ (den_q a) (den_q b)) ?_
 conv=>rhs;rw [as_q ha,as_q hb]
 rw [Rat.mkRat_mul_mkRat];simp
def SzN (k n:Nat):Prop:=(zAd B32 n).length≤k∧(zAd BT n).length≤k
theorem len_pow {B:Nat} (hB:10≤B) {n k:Nat} (h:n<10 ^ k):(zAd B n).length≤k:=by
 have hB1:1<B:=za
 rcases bI (zAd B n).length with h0 | h0
 ·omega
 ·have:=wval_ge (B:=B) h0 (zCE hB1 h0)
  rw [zAz hB1] at this;refine Nat.le_of_not_lt fun hk=>?_
  have h2:10 ^ k≤B ^ ((zAd B n).length - 1):=cU (Nat.pow_le_pow_left hB k) (bP za za);omega
theorem szN_of {n k:Nat} (h:n<10 ^ k):SzN k n:=⟨len_pow zc h,len_pow zc h⟩
theorem SzN.le {n k m:Nat} (h:SzN k n) (hk:k≤m):SzN m n:=⟨cU h.1 hk,cU h.2 hk⟩
def SzQ (k:Nat) (q:Rat):Prop:=SzN k q.num.natAbs∧SzN k q.den
theorem SzQ.le {q:Rat} {k m:Nat} (h:SzQ k q) (hk:k≤m):SzQ m q:=⟨h.1.le hk,h.2.le hk⟩
theorem ratF_gcd {nu de:BA} (h:ratF nu de=0):Nat.gcd (zAF (zBj nu)) (zAF de)=1:=by
 unfold ratF at h
 split at h
 ·cases h
 split at h
 ·cases h
 split at h
 ·next h1=>exact h1
 ·cases h
theorem ratF_prQ {nu de:BA} (h:ratF nu de=0):(zAF (zBj nu),zAF de)=prQ (zCX nu de):=by
 obtain ⟨_,h2,h3,_,_⟩:=zCt h;exact toQ_num (ratF_gcd h) (den_pos h2 h3)
end Go.Proofs.YtieoifkdobcpiaaGreatDoor
