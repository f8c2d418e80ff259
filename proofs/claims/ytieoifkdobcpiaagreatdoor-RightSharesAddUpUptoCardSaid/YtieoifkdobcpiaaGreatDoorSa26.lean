/- Parts of the proof, joined: Who has which part, plainly: parts as quotients, what a deed does with. -/
import Derived.Test.YtieoifkdobcpiaaGreatDoorSa25
import Derived.Lib.ItoaNum
import Derived.Shelf.Strings.Builder1
import Derived.Shelf.Strings.OnBuilder
import Derived.Shelf.Strings.BuilderF
import Derived.Shelf.Strings.BuilderK
import Derived.Shelf.LaysM
import Derived.Shelf.Strconv.Itoa3
import Derived.Lib.Join
import Derived.Laws.IdiomStrings
import Derived.Lib.QuietBelow
set_option maxRecDepth 100000
set_option maxHeartbeats 8000000
namespace Go.Proofs.YtieoifkdobcpiaaGreatDoor
open Dw
abbrev zBm:=ByteArray→Rat
def upH (f:zBm) (p:ByteArray) (x:Rat):zBm:=fun q=>if q=p then x else f q
theorem zBD (f:zBm) (p:ByteArray) (x:Rat):upH f p x p=x:=if_pos rfl
theorem zAL (f:zBm) {p q:ByteArray} (x:Rat) (h:q≠p):upH f p x q=f q:=if_neg h
def zBL (nu de:ByteArray):Rat:=mkRat (zAy (zAS nu):Int) (zAy de)
def shQ (s:Sh):Rat:=zBL s.nu s.de
def zAi (l:List Sh) (f:zBm):zBm:=l.foldl (fun g s=>upH g s.pt (shQ s)) f
def orgB (th:ByteArray) (day:Int) (d:De):Bool:=decide (d.kd=1)&&(decide (d.th=th)&&decide (d.bg≤day))
def orgF (th:ByteArray) (day:Int) (f:zBm) (d:De):zBm:=if orgB th day d=true then zAi d.sh f else f
def zBU (has:Rat) (l:List Sh) (f:zBm):zBm:=l.foldl (fun g s=>upH g s.pt (g s.pt+has*shQ s)) f
def giveF (d:De) (f:zBm):zBm:=upH (upH f d.fr (f d.fr - f d.fr*zBL d.nu d.de)) d.to_ (upH f d.fr (f d.fr - f d.fr*zBL d.nu d.de) d.to_+f d.fr*zBL d.nu d.de)
def zDA (d:De) (f:zBm):zBm:=if d.kd=5 then zBU (f d.fr) d.sh (upH f d.fr 0) else giveF d f
def movB (rs:List Rg) (ds:List De) (i:Nat) (th use:ByteArray) (day:Int) (d:De):Bool :=
 if d.kd=2 then decide (d.th=th)&&vB rs ds i use day d else if d.kd=5 then decide (d.bg≤day) else false
def stepF (mv:De→Bool) (f:zBm) (d:De):zBm:=if mv d=true then zDA d f else f
def zCK (th:ByteArray) (day:Int) (ds:List De):zBm:=ds.foldl (orgF th day) (fun _=>0)
def zAI (rs:List Rg) (ds:List De) (i:Nat) (th use:ByteArray) (day:Int) (n:Nat):zBm:=(ds.take n).foldl (stepF (movB rs ds i th use day)) (zCK th day ds)
def zCX (q:Rat):Bool:=decide (10 ^ 2000≤q.num.natAbs) || decide (10 ^ 2000≤q.den)
def zCt (N:List ByteArray) (f:zBm):Rat:=N.foldr (fun p s=>f p+s) 0
theorem sumF_nil (f:zBm):zCt [] f=0:=rfl
theorem zBn (p:ByteArray) (N:List ByteArray) (f:zBm):zCt (p::N) f=f p+zCt N f:=rfl
theorem sumF_congr {N:List ByteArray} {f g:zBm} (h:∀ p∈N,f p=g p):zCt N f=zCt N g:=by
 induction N with
 | nil=>rfl
 | cons p N ih=>rw [zBn,zBn,h p List.mem_cons_self,ih fun q hq=>h q (List.mem_cons_of_mem _ hq)]
theorem sumF_up {N:List ByteArray} (hn:N.Nodup) {p:ByteArray} (hp:p∈N) (f:zBm) (x:Rat):zCt N (upH f p x)=zCt N f - f p+x:=by
 induction N with
 | nil=>cases hp
 | cons a N ih =>
  obtain ⟨h1,h2⟩:=List.nodup_cons.1 hn;rw [zBn,zBn]
  by_cases ha:a=p
  ·subst ha
   rw [zBD,sumF_congr (f:=upH f a x) (g:=f) fun q hq=>zAL f x (fun e=>h1 (by rw [←e];exact hq))]
   grind
  ·rw [zAL f x ha,ih h2 ((List.mem_cons.1 hp).resolve_left fun e=>ha e.symm)]
   grind
theorem sumF_zero (N:List ByteArray):zCt N (fun _=>0)=0:=by
 induction N with
 | nil=>rfl
 | cons p N ih=>rw [zBn,ih];grind
def zBb (l:List Sh):Rat:=l.foldr (fun s t=>shQ s+t) 0
theorem sumF_pass {N:List ByteArray} (hn:N.Nodup) (has:Rat):∀ (l:List Sh) (f:zBm),(∀ s∈l,s.pt∈N)→zCt N (zBU has l f)=zCt N f+has*zBb l
 | [],f,_=>by show zCt N f=zCt N f+has*0;grind
 | s::l,f,h=>by
  have ih:=sumF_pass hn has l (upH f s.pt (f s.pt+has*shQ s)) fun t ht=>h t (List.mem_cons_of_mem _ ht)
  show zCt N (zBU has l (upH f s.pt (f s.pt+has*shQ s)))=_
  rw [ih,sumF_up hn (h s List.mem_cons_self)]
  show _=zCt N f+has*(shQ s+zBb l)
  grind
theorem sumF_give {N:List ByteArray} (hn:N.Nodup) (d:De) (f:zBm) (h1:d.fr∈N) (h2:d.to_∈N):zCt N (giveF d f)=zCt N f:=by
 unfold giveF;rw [sumF_up hn h2,sumF_up hn h1]
 grind
theorem sumF_take {N:List ByteArray} (hn:N.Nodup) (d:De) (f:zBm) (h1:d.fr∈N) (h2:d.kd≠5→d.to_∈N) (h3:d.kd=5→∀ s∈d.sh,s.pt∈N) (h4:d.kd=5→zBb d.sh=1):zCt N (zDA d f)=zCt N f:=by
 unfold zDA
 by_cases hk:d.kd=5
 ·rw [if_pos hk,sumF_pass hn _ _ _ (h3 hk),sumF_up hn h1,h4 hk]
  grind
 ·rw [if_neg hk,sumF_give hn d f h1 (h2 hk)]
theorem sumF_put {N:List ByteArray} (hn:N.Nodup):∀ (l:List Sh) (f:zBm),(∀ s∈l,s.pt∈N)→(l.map Sh.pt).Nodup→(∀ s∈l,f s.pt=0)→zCt N (zAi l f)=zCt N f+zBb l
 | [],f,_,_,_=>by show zCt N f=zCt N f+0;grind
 | s::l,f,h,hd,h0=>by
  rw [List.map_cons] at hd;obtain ⟨h1,h2⟩:=List.nodup_cons.1 hd
  have ih:=sumF_put hn l (upH f s.pt (shQ s)) (fun t ht=>h t (List.mem_cons_of_mem _ ht)) h2 (fun t ht=>by
   rw [zAL _ _ (fun e=>h1 (by rw [←e];exact List.mem_map_of_mem ht))]
   exact h0 t (List.mem_cons_of_mem _ ht))
  show zCt N (zAi l (upH f s.pt (shQ s)))=_
  rw [ih,sumF_up hn (h s List.mem_cons_self),h0 s List.mem_cons_self]
  show _=zCt N f+(shQ s+zBb l)
  grind
structure HoldOk (N:List ByteArray) (f:zBm):Prop where
 pos:∀ p,0≤f p
 out:∀ p,p∉N→f p=0
theorem ratQ_pos (nu de:ByteArray):0≤zBL nu de:=by
 unfold zBL;rw [←Rat.num_nonneg,Rat.num_mkRat]
 split
 ·exact Int.le_refl _
 ·exact Int.ediv_nonneg (Int.natCast_nonneg _) (Int.natCast_nonneg _)
theorem shQ_pos (s:Sh):0≤shQ s:=ratQ_pos _ _
section
variable {N:List ByteArray} {f:zBm}
theorem HoldOk.up (h:HoldOk N f) {p:ByteArray} {x:Rat} (hp:p∈N) (hx:0≤x):HoldOk N (upH f p x) :=
 ⟨fun q=>by
  by_cases hq:q=p
  ·subst hq;rw [zBD];exact hx
  ·rw [zAL _ _ hq];exact h.pos q,
  fun q hq=>by rw [zAL _ _ (fun e=>hq (by rw [e];exact hp))];exact h.out q hq⟩
theorem HoldOk.put:∀ (l:List Sh) (f:zBm),HoldOk N f→(∀ s∈l,s.pt∈N)→HoldOk N (zAi l f)
 | [],_,h,_=>h
 | s::l,f,h,hs=>HoldOk.put l (upH f s.pt (shQ s)) (h.up (hs s List.mem_cons_self) (shQ_pos s)) fun t ht=>hs t (List.mem_cons_of_mem _ ht)
theorem HoldOk.pass {has:Rat} (hh:0≤has):∀ (l:List Sh) (f:zBm),HoldOk N f→(∀ s∈l,s.pt∈N)→HoldOk N (zBU has l f)
 | [],_,h,_=>h
 | s::l,f,h,hs=>HoldOk.pass hh l (upH f s.pt (f s.pt+has*shQ s)) (h.up (hs s List.mem_cons_self) (by
   have:=h.pos s.pt;have:=Rat.mul_nonneg hh (shQ_pos s)
   grind)) fun t ht=>hs t (List.mem_cons_of_mem _ ht)
theorem part_le {a q:Rat} (ha:0≤a) (hq:q≤1):0≤a - a*q:=by
 have:=Rat.mul_le_mul_of_nonneg_left hq ha
 grind
theorem HoldOk.give (h:HoldOk N f) (d:De) (h1:d.fr∈N) (h2:d.to_∈N) (hq:zBL d.nu d.de≤1):HoldOk N (giveF d f):=by
 unfold giveF;have k1:HoldOk N (upH f d.fr (f d.fr - f d.fr*zBL d.nu d.de)):=h.up h1 (part_le (h.pos _) hq);refine k1.up h2 ?_
 have a:=k1.pos d.to_;have b:=Rat.mul_nonneg (h.pos d.fr) (ratQ_pos d.nu d.de)
 grind
theorem HoldOk.take (h:HoldOk N f) (d:De) (h1:d.fr∈N) (h2:d.kd≠5→d.to_∈N) (h3:d.kd=5→∀ s∈d.sh,s.pt∈N) (hq:d.kd≠5→zBL d.nu d.de≤1):HoldOk N (zDA d f):=by
 unfold zDA
 by_cases hk:d.kd=5
 ·rw [if_pos hk];exact HoldOk.pass (h.pos _) _ _ (h.up h1 (by grind)) (h3 hk)
 ·rw [if_neg hk];exact h.give d h1 (h2 hk) (hq hk)
end
def insN (p:ByteArray):List ByteArray→List ByteArray
 | []=>[p]
 | a::l=>if a=p then a::l else if slt p a=true then p::a::l else a::insN p l
def IncN (l:List ByteArray):Prop:=l.Pairwise fun a b=>slt a b=true
theorem zAM {p q:ByteArray}:∀ {l:List ByteArray},q∈insN p l↔q=p∨q∈l
 | []=>by simp [insN]
 | a::l=>by
  unfold insN
  split
  ·next h=>subst h;simp
  ·split
   ·simp
   ·rw [List.mem_cons,zAM (l:=l),List.mem_cons]
    constructor
    ·rintro (h | h | h)<;>simp [h]
    ·rintro (h | h | h)<;>simp [h]
theorem slt_of_ne {a b:ByteArray} (h:a≠b) (h2:slt b a=false):slt a b=true:=by
 cases hs:sle b a with
 | false=>exact zBZ hs
 | true =>
  exfalso
  have h3:(slt b a || b.toList == a.toList)=true:=hs
  rw [h2,Bool.false_or] at h3;exact h (str_eq h3).symm
theorem IncN.ins {p:ByteArray}:∀ {l:List ByteArray},IncN l→IncN (insN p l)
 | [],_=>by simp [insN,IncN]
 | a::l,h=>by
  obtain ⟨h1,h2⟩:=List.pairwise_cons.1 h;unfold insN
  split
  ·exact h
  ·next hne =>
   split
   ·next hlt =>
    refine List.pairwise_cons.2 ⟨fun b hb=>?_,h⟩
    rcases List.mem_cons.1 hb with rfl | hb
    ·exact hlt
    ·exact slt_trans hlt (h1 b hb)
   ·next hlt =>
    refine List.pairwise_cons.2 ⟨fun b hb=>?_,IncN.ins h2⟩
    rcases zAM.1 hb with rfl | hb
    ·exact slt_of_ne hne (by simpa using hlt)
    ·exact h1 b hb
theorem IncN.nodup {l:List ByteArray} (h:IncN l):l.Nodup:=h.imp fun h=>zCz h
theorem slt_irr (a:ByteArray):slt a a=false:=by
 cases h:slt a a with
 | false=>rfl
 | true=>exact absurd rfl (zCz h)
theorem incN_ext:∀ {l m:List ByteArray},IncN l→IncN m→(∀ x,x∈l↔x∈m)→l=m
 | [],[],_,_,_=>rfl
 | [],b::m,_,_,h=>absurd ((h b).2 List.mem_cons_self) zd
 | a::l,[],_,_,h=>absurd ((h a).1 List.mem_cons_self) zd
 | a::l,b::m,h1,h2,h=>by
  obtain ⟨k1,k2⟩:=List.pairwise_cons.1 h1;obtain ⟨k3,k4⟩:=List.pairwise_cons.1 h2
  have hab:a=b:=by
   rcases List.mem_cons.1 ((h a).1 List.mem_cons_self) with e | e
   ·exact e
   ·rcases List.mem_cons.1 ((h b).2 List.mem_cons_self) with e2 | e2
    ·exact e2.symm
    ·have:=slt_trans (k1 b e2) (k3 a e)
     rw [slt_irr] at this
     cases this
  subst hab
  congr 1
  refine incN_ext k2 k4 fun x=>?_
  have hx:=h x;rw [List.mem_cons,List.mem_cons] at hx
  constructor
  ·intro hm
   rcases hx.1 (.inr hm) with e | e
   ·subst e;exact absurd rfl (zCz (k1 x hm))
   ·exact e
  ·intro hm
   rcases hx.2 (.inr hm) with e | e
   ·subst e;exact absurd rfl (zCz (k3 x hm))
   ·exact e
def keysAll (l:List Sh) (K:List ByteArray):List ByteArray:=l.foldl (fun K s=>insN s.pt K) K
def zBj (th:ByteArray) (day:Int) (K:List ByteArray) (d:De):List ByteArray:=if orgB th day d=true then keysAll d.sh K else K
def zAJ (d:De) (K:List ByteArray):List ByteArray:=if d.kd=5 then keysAll d.sh (insN d.fr K) else insN d.to_ (insN d.fr K)
def zAO (mv:De→Bool) (K:List ByteArray) (d:De):List ByteArray:=if mv d=true then zAJ d K else K
def zDl (th:ByteArray) (day:Int) (ds:List De):List ByteArray:=ds.foldl (zBj th day) []
def zCd (rs:List Rg) (ds:List De) (i:Nat) (th use:ByteArray) (day:Int) (n:Nat):List ByteArray:=(ds.take n).foldl (zAO (movB rs ds i th use day)) (zDl th day ds)
theorem keysAll_inc:∀ (l:List Sh) {K:List ByteArray},IncN K→IncN (keysAll l K)
 | [],_,h=>h
 | _::l,_,h=>keysAll_inc l h.ins
theorem zAN:∀ (l:List Sh) {K:List ByteArray} {q:ByteArray},q∈keysAll l K↔(∃ s∈l,s.pt=q)∨q∈K
 | [],K,q=>by simp [keysAll]
 | s::l,K,q=>by
  show q∈keysAll l (insN s.pt K)↔_
  rw [zAN l,zAM]
  constructor
  ·rintro (⟨t,ht,e⟩ | e | h)
   ·exact .inl ⟨t,List.mem_cons_of_mem _ ht,e⟩
   ·exact .inl ⟨s,List.mem_cons_self,e.symm⟩
   ·exact .inr h
  ·rintro (⟨t,ht,e⟩ | h)
   ·rcases List.mem_cons.1 ht with rfl | ht
    ·exact .inr (.inl e.symm)
    ·exact .inl ⟨t,ht,e⟩
   ·exact .inr (.inr h)
theorem zDa (d:De) {K:List ByteArray} (h:IncN K):IncN (zAJ d K):=by
 unfold zAJ
 split
 ·exact keysAll_inc _ h.ins
 ·exact h.ins.ins
theorem HoldOk.mono {N M:List ByteArray} {f:zBm} (h:HoldOk N f) (hs:∀ p∈N,p∈M):HoldOk M f:=⟨h.pos,fun p hp=>h.out p fun hm=>hp (hs p hm)⟩
theorem HoldOk.takeK {K:List ByteArray} {f:zBm} (h:HoldOk K f) (d:De) (hq:d.kd≠5→zBL d.nu d.de≤1):HoldOk (zAJ d K) (zDA d f):=by
 have hs:∀ p∈K,p∈zAJ d K:=fun p hp=>by
  unfold zAJ
  split
  ·exact (zAN _).2 (.inr (zAM.2 (.inr hp)))
  ·exact zAM.2 (.inr (zAM.2 (.inr hp)))
 have h1:d.fr∈zAJ d K:=by
  unfold zAJ
  split
  ·exact (zAN _).2 (.inr (zAM.2 (.inl rfl)))
  ·exact zAM.2 (.inr (zAM.2 (.inl rfl)))
 refine (h.mono hs).take d h1 (fun hk=>?_) (fun hk s hs=>?_) hq
 ·unfold zAJ
  rw [if_neg hk];exact zAM.2 (.inl rfl)
 ·unfold zAJ
  rw [if_pos hk];exact (zAN _).2 (.inl ⟨s,hs,rfl⟩)
theorem HoldOk.orgK {K:List ByteArray} {f:zBm} (h:HoldOk K f) (th:ByteArray) (day:Int) (d:De):HoldOk (zBj th day K d) (orgF th day f d):=by
 unfold zBj orgF
 split
 ·exact HoldOk.put _ _ (h.mono fun p hp=>(zAN _).2 (.inr hp)) fun s hs=>(zAN _).2 (.inl ⟨s,hs,rfl⟩)
 ·exact h
theorem keysOrg_inc (th:ByteArray) (day:Int) (d:De) {K:List ByteArray} (h:IncN K):IncN (zBj th day K d):=by
 unfold zBj
 split
 ·exact keysAll_inc _ h
 ·exact h
theorem start_ok (th:ByteArray) (day:Int):∀ (ds:List De) (K:List ByteArray) (f:zBm),IncN K→HoldOk K f→IncN (ds.foldl (zBj th day) K)∧HoldOk (ds.foldl (zBj th day) K) (ds.foldl (orgF th day) f)
 | [],_,_,h1,h2=>⟨h1,h2⟩
 | d::ds,K,f,h1,h2=>start_ok th day ds (zBj th day K d) (orgF th day f d) (keysOrg_inc th day d h1) (h2.orgK th day d)
theorem steps_ok (mv:De→Bool):∀ (ds:List De) (K:List ByteArray) (f:zBm),(∀ d∈ds,mv d=true→d.kd≠5→zBL d.nu d.de≤1)→IncN K→HoldOk K f →
  IncN (ds.foldl (zAO mv) K)∧HoldOk (ds.foldl (zAO mv) K) (ds.foldl (stepF mv) f)
 | [],_,_,_,h1,h2=>⟨h1,h2⟩
 | d::ds,K,f,hq,h1,h2=>by
  refine steps_ok mv ds (zAO mv K d) (stepF mv f d) (fun e he=>hq e (List.mem_cons_of_mem _ he)) ?_ ?_
  ·unfold zAO
   split
   ·exact zDa d h1
   ·exact h1
  ·unfold zAO stepF
   split
   ·next hm=>exact h2.takeK d (hq d List.mem_cons_self hm)
   ·exact h2
theorem hold_none:HoldOk [] (fun _=>0):=⟨fun _=>zc,fun _ _=>rfl⟩
def holL (K:List ByteArray) (f:zBm):List ByteArray:=K.filter fun p=>decide (f p≠0)
theorem holL_inc {K:List ByteArray} {f:zBm} (h:IncN K):IncN (holL K f):=List.Pairwise.filter _ h
theorem holL_mem {K:List ByteArray} {f:zBm} (h:HoldOk K f) {p:ByteArray}:p∈holL K f↔f p≠0:=by
 unfold holL;rw [List.mem_filter]
 constructor
 ·exact fun hp=>by simpa using hp.2
 ·intro hp
  refine ⟨?_,by simpa using hp⟩
  refine Classical.byContradiction fun hn=>hp (h.out p hn)
theorem sumF_holL {K:List ByteArray} {f:zBm}:zCt (holL K f) f=zCt K f:=by
 unfold holL
 induction K with
 | nil=>rfl
 | cons p K ih =>
  by_cases h:f p=0
  ·rw [List.filter_cons_of_neg zv,ih,zBn,h];grind
  ·rw [List.filter_cons_of_pos zv,zBn,zBn,ih]
def toQ (p:Nat×Nat):Rat:=mkRat (p.1:Int) p.2
theorem toQ_low {n d:Nat} (hd:0<d):toQ (zBS n d)=mkRat (n:Int) d:=by
 have hg:0<Nat.gcd n d:=Nat.gcd_pos_of_pos_right _ hd;have h1:=Nat.div_mul_cancel (Nat.gcd_dvd_left n d);have h2:=Nat.div_mul_cancel (Nat.gcd_dvd_right n d)
 have h3:d / Nat.gcd n d≠0:=by
  intro h;rw [h] at h2;omega
 unfold toQ zBS;rw [Rat.mkRat_eq_iff h3 za]
 have:n / Nat.gcd n d*d=n*(d / Nat.gcd n d):=by
  clear h3;generalize Nat.gcd n d=g at *
  calc n / g*d=n / g*(d / g*g):=by rw [h2]
   _=(n / g*g)*(d / g):=by rw [Nat.mul_assoc,Nat.mul_comm g]
   _=n*(d / g):=by rw [h1]
 exact_mod_cast this
theorem toQ_add {p q:Nat×Nat} (hp:0<p.2) (hq:0<q.2):toQ (addP p q)=toQ p+toQ q:=by
 unfold addP;rw [toQ_low (Nat.mul_pos hp hq)];unfold toQ;rw [Rat.mkRat_add_mkRat _ _ za za];simp
theorem addP_pos {p q:Nat×Nat} (hp:0<p.2) (hq:0<q.2):0<(addP p q).2:=by
 have hd:=Nat.mul_pos hp hq;exact Nat.div_pos (Nat.le_of_dvd hd (Nat.gcd_dvd_right _ _)) (Nat.gcd_pos_of_pos_right _ hd)
theorem sumP_toQ {l:List Sh} (h:∀ s∈l,0<zAy s.de):∀ k,k≤l.length→0<(zDs l k).2∧toQ (zDs l k)=zBb (l.take k)
 | 0,_=>⟨by rw [sumP_zero];decide,by rw [sumP_zero];rfl⟩
 | k+1,hk=>by
  obtain ⟨h1,h2⟩:=sumP_toQ h k za;have hs:=h _ (List.getElem_mem (show k<l.length by omega))
  rw [sumP_succ (show k<l.length by omega)]
  refine ⟨addP_pos h1 hs,?_⟩
  rw [toQ_add h1 hs,h2,List.take_succ_eq_append_getElem (show k<l.length by omega)]
  have e:∀ (m:List Sh) (s:Sh),zBb (m++[s])=zBb m+shQ s:=fun m s=>by
   induction m with
   | nil=>show shQ s+0=0+shQ s;grind
   | cons a m ih=>show shQ a+zBb (m++[s])=shQ a+zBb m+shQ s;rw [ih];grind
  rw [e]
  rfl
structure ShsOk (l:List Sh):Prop where
 nd:(l.map Sh.pt).Nodup
 nm:∀ s∈l,zBp s.pt=true
 rat:∀ s∈l,zCN s.nu s.de=0
 pos:∀ s∈l,posB s.nu=true
theorem pts_inc {l:List Sh} (h:∀ i (hi:i+1<l.length),slt l[i].pt l[i+1].pt=true):(l.map Sh.pt).Nodup:=by
 have:=inc_pair (l:=l.map Sh.pt) (fun i hi=>by
  have h9:=h i yh
  simpa using h9)
 exact this.imp fun h=>zCz h
theorem shF_ok {k:Int} {l:List Sh} (h:shF k l=0):ShsOk l∧(zDs l l.length).1≤(zDs l l.length).2∧(k=5→(zDs l l.length).1=(zDs l l.length).2):=by
 unfold shF at h
 split at h
 ·cases h
 split at h
 ·cases h
 have key:∀ i f,zBq l i=some f→f≠0:=fun i f hf=>by
  unfold zBq at hf
  split at hf
  ·cases hf;simp
  ·split at hf
   ·cases hf;simp
   ·split at hf
    ·next h1=>cases hf;exact h1
    ·split at hf
     ·cases hf;simp
     ·cases hf
 split at h
 ·next f hf =>
  exfalso
  obtain ⟨i,_,hi⟩:=List.exists_of_findSome?_eq_some hf;exact key i f hi h
 next hn =>
 rw [List.findSome?_eq_none_iff] at hn
 have hall:∀ i (hi:i<l.length),zBp l[i].pt=true∧(0<i→sle l[i].pt (l[i - 1]'(by omega)).pt=false)∧zCN l[i].nu l[i].de=0∧posB l[i].nu=true:=fun i hi=>by
  have:=hn i yh;unfold zBq at this;rw [ptAt_of hi,ptAt_of (show i - 1<l.length by omega),shD_of hi] at this
  split at this
  ·cases this
  next h1 =>
  split at this
  ·cases this
  next h2 =>
  split at this
  ·cases this
  next h3 =>
  split at this
  ·cases this
  next h4 =>
  refine ⟨by simpa using h1,fun h0=>?_,by simpa using h3,by simpa using h4⟩
  cases hs:sle l[i].pt (l[i - 1]'(by omega)).pt with
  | false=>rfl
  | true=>exact absurd ⟨h0,hs⟩ h2
 refine ⟨⟨pts_inc fun i hi=>zBZ ?_,fun s hs=>?_,fun s hs=>?_,fun s hs=>?_⟩,?_,?_⟩
 ·have:=(hall (i+1) hi).2.1 za
  simpa using this
 ·obtain ⟨i,hi,rfl⟩:=List.getElem_of_mem hs;exact (hall i hi).1
 ·obtain ⟨i,hi,rfl⟩:=List.getElem_of_mem hs;exact (hall i hi).2.2.1
 ·obtain ⟨i,hi,rfl⟩:=List.getElem_of_mem hs;exact (hall i hi).2.2.2
 ·split at h
  ·cases h
  ·omega
 ·split at h
  ·cases h
  ·next h9=>intro hk;omega
theorem zCb {nu de:ByteArray} (h:zCN nu de=0):0<zAy de:=by
 obtain ⟨_,h2,h3,_,_⟩:=zBY h;exact den_pos h2 h3
theorem toQ_one {p:Nat×Nat} (hp:0<p.2) (h:p.1=p.2):toQ p=1:=by
 unfold toQ;rw [h,show (1:Rat)=mkRat 1 1 from by decide,Rat.mkRat_eq_iff za za]
 simp
theorem toQ_le {p:Nat×Nat} (hp:0<p.2) (h:p.1≤p.2):toQ p≤1:=by
 have h1:toQ p+toQ (p.2 - p.1,p.2)=1:=by
  unfold toQ;rw [Rat.mkRat_add_mkRat _ _ za za,show (1:Rat)=mkRat 1 1 from by decide,Rat.mkRat_eq_iff (Nat.ne_of_gt (Nat.mul_pos hp hp)) za]
  have:((p.2 - p.1:Nat):Int)=(p.2:Int) - p.1:=za;simp only [this]
  push_cast
  grind
 have h2:0≤toQ (p.2 - p.1,p.2):=by
  unfold toQ;rw [←Rat.num_nonneg,Rat.num_mkRat]
  split
  ·exact Int.le_refl _
  ·exact Int.ediv_nonneg (Int.natCast_nonneg _) (Int.natCast_nonneg _)
 grind
theorem shs_sum {k:Int} {l:List Sh} (h:shF k l=0) (hk:k=5):zBb l=1:=by
 obtain ⟨h1,_,h3⟩:=shF_ok h;obtain ⟨p1,p2⟩:=sumP_toQ (fun s hs=>zCb (h1.rat s hs)) l.length (Nat.le_refl _)
 rw [List.take_length] at p2;rw [←p2,toQ_one p1 (h3 hk)]
theorem parF_ok {d:De} (h:parF d=0) (hk:d.kd=2):zCN d.nu d.de=0∧posB d.nu=true∧zBL d.nu d.de≤1:=by
 unfold parF at h;rw [if_neg (by rw [hk];simp)] at h
 split at h
 ·next h1=>exact absurd h h1
 next h1 =>
 have h1':zCN d.nu d.de=0:=by simpa using h1
 split at h
 ·cases h
 next h2 =>
 refine ⟨h1',?_,?_⟩
 ·cases hp:posB d.nu with
  | true=>rfl
  | false=>exact absurd (.inl hp) h2
 ·exact toQ_le (p:=(zAy (zAS d.nu),zAy d.de)) (zCb h1') (Nat.not_lt.1 fun hl=>h2 (.inr hl))
structure ParOk (d:De):Prop where
 kd:1≤d.kd∧d.kd≤5
 org:d.kd=1→ShsOk d.sh∧d.fr=emp
 asg:d.kd=2→zCN d.nu d.de=0∧posB d.nu=true∧zBL d.nu d.de≤1∧d.fr≠d.to_
 pas:d.kd=5→ShsOk d.sh∧zBb d.sh=1∧∀ s∈d.sh,s.pt≠d.fr
theorem chkD_par {rs:List Rg} {us:List ByteArray} {pre:List De} {d:De} (h:chkD rs us pre d=0):ParOk d:=by
 unfold chkD at h
 split at h
 ·cases h
 split at h
 ·cases h
 split at h
 ·cases h
 split at h
 ·cases h
 split at h
 ·cases h
 next h5 =>
 split at h
 ·cases h
 next hnd =>
 simp only [zAw,Bool.not_eq_true,Bool.or_eq_false_iff,Bool.and_eq_false_iff] at hnd;obtain ⟨⟨⟨⟨⟨⟨⟨⟨_,n2⟩,_⟩,_⟩,_⟩,_⟩,_⟩,_⟩,_⟩:=hnd;have hkd:1≤d.kd∧d.kd≤5:=za
 split at h
 ·next hg =>
  have hk:d.kd=2∨d.kd=3:=by unfold zAk at hg;simpa using hg
  unfold giftF at h
  split at h
  ·cases h
  split at h
  ·cases h
  next hc =>
  split at h
  ·next h1=>exact absurd h h1
  next g3 =>
  refine ⟨hkd,fun hh=>za,fun hh=>?_,fun hh=>za⟩
  obtain ⟨a,b,c⟩:=parF_ok (by simpa using g3) hh
  exact ⟨a,b,c,hc⟩
 ·next hg =>
  split at h
  ·next h4=>exact ⟨hkd,fun hh=>za,fun hh=>za,fun hh=>za⟩
  ·next h4 =>
   have hk:¬ (d.kd=2∨d.kd=3):=fun hh=>by apply hg;unfold zAk;simpa using hh
   unfold divF at h
   split at h
   ·cases h
   split at h
   ·cases h
   split at h
   ·next h1=>exact absurd h h1
   next g3 =>
   have g3':shF d.kd d.sh=0:=by simpa using g3
   split at h
   ·cases h
   next g4 =>
   refine ⟨hkd,fun hh=>⟨(shF_ok g3').1,?_⟩,fun hh=>za,fun hh=>⟨(shF_ok g3').1,shs_sum g3' hh,fun s hs he=>?_⟩⟩
   ·have hg0:zAk d.kd=false:=by simpa using hg
    rcases n2 with n | n
    ·rw [hg0,hh] at n;simp at n
    ·simpa using n
   ·exact g4 ⟨hh,List.any_eq_true.2 ⟨s,hs,by simpa using he⟩⟩
theorem chkD_org {rs:List Rg} {us:List ByteArray} {pre:List De} {d:De} (h:chkD rs us pre d=0) (hk:d.kd=1∨d.kd=5):∀ p∈pre,¬ (p.kd=d.kd∧p.th=d.th∧p.fr=d.fr):=by
 unfold chkD at h
 have hg:zAk d.kd=false:=by
  unfold zAk
  rcases hk with e | e<;>rw [e]<;>rfl
 rw [hg] at h
 split at h
 ·cases h
 split at h
 ·cases h
 split at h
 ·cases h
 split at h
 ·cases h
 split at h
 ·cases h
 split at h
 ·cases h
 split at h
 ·next h1=>cases h1
 split at h
 ·omega
 unfold divF at h
 split at h
 ·cases h
 split at h
 ·cases h
 split at h
 ·next h1=>exact absurd h h1
 split at h
 ·cases h
 split at h
 ·cases h
 next h9 =>
 intro p hp hc;exact h9 (List.any_eq_true.2 ⟨p,hp,by simp [hc]⟩)
theorem zBI {rs:List Rg} {us:List ByteArray} {ds:List De} (h:zCH rs us ds=0):∀ d∈ds,ParOk d:=fun d hd=>by
 obtain ⟨k,hk,rfl⟩:=List.getElem_of_mem hd;exact chkD_par ((zBl h).2 k hk)
theorem title_org {rs:List Rg} {us:List ByteArray} {ds:List De} (h:zCH rs us ds=0):ds.Pairwise fun a b=>¬ (a.kd=1∧b.kd=1∧a.th=b.th):=by
 have hc:=(zBl h).2;refine List.pairwise_iff_getElem.2 fun i j hi hj hij=>?_
 rintro ⟨k1,k2,k3⟩;refine chkD_org (hc j hj) (.inl k2) ds[i] ?_ ⟨k1.trans k2.symm,k3,?_⟩
 ·rw [List.mem_take_iff_getElem]
  exact ⟨i,za,rfl⟩
 ·rw [(zBI h _ (List.getElem_mem hi)).org k1 |>.2,(zBI h _ (List.getElem_mem hj)).org k2 |>.2]
def zBC (th:ByteArray) (day:Int) (ds:List De):Rat:=ds.foldr (fun d s=>(if orgB th day d=true then zBb d.sh else 0)+s) 0
theorem zCm {th:ByteArray} {day:Int} {d:De}:orgB th day d=true↔d.kd=1∧d.th=th∧d.bg≤day:=by unfold orgB;simp
theorem org_none {th:ByteArray} {day:Int}:∀ (ds:List De) (f:zBm),(∀ d∈ds,orgB th day d=false)→ds.foldl (orgF th day) f=f∧zBC th day ds=0
 | [],_,_=>⟨rfl,rfl⟩
 | d::ds,f,h=>by
  have hd:=h d List.mem_cons_self;obtain ⟨h1,h2⟩:=org_none (th:=th) (day:=day) ds f fun e he=>h e (List.mem_cons_of_mem _ he)
  constructor
  ·rw [List.foldl_cons]
   have:orgF th day f d=f:=by unfold orgF;rw [hd];rfl
   rw [this,h1]
  ·show (if orgB th day d=true then zBb d.sh else 0)+zBC th day ds=0
   rw [hd,h2];simp
   grind
theorem start_one {th:ByteArray} {day:Int}:∀ (ds:List De),ds.Pairwise (fun a b=>¬ (a.kd=1∧b.kd=1∧a.th=b.th)) →
  (zCK th day ds=(fun _=>0)∧zBC th day ds=0)∨∃ d∈ds,orgB th day d=true∧zCK th day ds=zAi d.sh (fun _=>0)∧zBC th day ds=zBb d.sh
 | [],_=>.inl ⟨rfl,rfl⟩
 | d::ds,h=>by
  obtain ⟨h1,h2⟩:=List.pairwise_cons.1 h
  cases hd:orgB th day d with
  | true =>
   obtain ⟨k1,k2,_⟩:=zCm.1 hd
   have hn:∀ e∈ds,orgB th day e=false:=fun e he=>by
    cases hh:orgB th day e with
    | false=>rfl
    | true =>
     obtain ⟨k3,k4,_⟩:=zCm.1 hh;exact absurd ⟨k1,k3,k2.trans k4.symm⟩ (h1 e he)
   obtain ⟨e1,e2⟩:=org_none (th:=th) (day:=day) ds (zAi d.sh (fun _=>0)) hn
   refine .inr ⟨d,List.mem_cons_self,hd,?_,?_⟩
   ·unfold zCK
    rw [List.foldl_cons];have:orgF th day (fun _=>0) d=zAi d.sh (fun _=>0):=by unfold orgF;rw [hd];rfl
    rw [this,e1]
   ·show (if orgB th day d=true then zBb d.sh else 0)+zBC th day ds=_
    rw [hd,e2,if_pos rfl]
    grind
  | false =>
   have e:zCK th day (d::ds)=zCK th day ds:=by
    unfold zCK;rw [List.foldl_cons];have:orgF th day (fun _=>0) d=(fun _=>0):=by unfold orgF;rw [hd];rfl
    rw [this]
   have e2:zBC th day (d::ds)=zBC th day ds:=by
    show (if orgB th day d=true then zBb d.sh else 0)+zBC th day ds=_
    rw [hd];simp
    grind
   rcases start_one (th:=th) (day:=day) ds h2 with ⟨a,b⟩ | ⟨x,hx,a,b,c⟩
   ·exact .inl ⟨by rw [e,a],by rw [e2,b]⟩
   ·exact .inr ⟨x,List.mem_cons_of_mem _ hx,a,by rw [e,b],by rw [e2,c]⟩
theorem keys_start {th:ByteArray} {day:Int}:∀ (ds:List De) (K:List ByteArray),(∀ q∈K,q∈ds.foldl (zBj th day) K)∧∀ d∈ds,orgB th day d=true→∀ s∈d.sh,s.pt∈ds.foldl (zBj th day) K
 | [],_=>⟨fun _ h=>h,fun _ h=>by cases h⟩
 | d::ds,K=>by
  obtain ⟨h1,h2⟩:=keys_start (th:=th) (day:=day) ds (zBj th day K d)
  have hm:∀ q∈K,q∈zBj th day K d:=fun q hq=>by
   unfold zBj
   split
   ·exact (zAN _).2 (.inr hq)
   ·exact hq
  refine ⟨fun q hq=>h1 q (hm q hq),fun e he ho s hs=>?_⟩
  rcases List.mem_cons.1 he with rfl | he
  ·refine h1 _ ?_
   unfold zBj;rw [if_pos ho];exact (zAN _).2 (.inl ⟨s,hs,rfl⟩)
  ·exact h2 e he ho s hs
theorem sum_mono {N M:List ByteArray} {f:zBm} (hn:N.Nodup) (hm:M.Nodup) (h1:HoldOk N f) (h2:HoldOk M f):zCt N f=zCt M f:=by
 induction N generalizing M f with
 | nil =>
  have:∀ p,f p=0:=fun p=>h1.out p zd
  rw [sumF_congr (N:=M) (g:=fun _=>0) (fun p _=>this p),sumF_zero,sumF_nil]
 | cons a N ih =>
  obtain ⟨k1,k2⟩:=List.nodup_cons.1 hn
  have g1:HoldOk N (upH f a 0):=⟨fun p=>by
   by_cases hp:p=a
   ·subst hp;rw [zBD];exact Rat.le_refl
   ·rw [zAL _ _ hp];exact h1.pos p,fun p hp=>by
   by_cases hpa:p=a
   ·subst hpa;rw [zBD]
   ·rw [zAL _ _ hpa]
    exact h1.out p (by simp [hpa,hp])⟩
  have g2:HoldOk M (upH f a 0):=⟨g1.pos,fun p hp=>by
   by_cases hpa:p=a
   ·subst hpa;rw [zBD]
   ·rw [zAL _ _ hpa];exact h2.out p hp⟩
  have e1:zCt N (upH f a 0)=zCt N f:=sumF_congr fun p hp=>zAL _ _ (fun e=>k1 (by rw [←e];exact hp))
  have e2:=ih k2 hm g1 g2;rw [zBn,←e1,e2]
  by_cases ha:a∈M
  ·rw [sumF_up hm ha];grind
  ·have h0:=h2.out a ha
   rw [sumF_congr (N:=M) (g:=f) (fun p hp=>zAL _ _ (fun e=>ha (by rw [←e];exact hp))),h0]
   grind
theorem steps_sum (mv:De→Bool):∀ (ds:List De) (K:List ByteArray) (f:zBm),(∀ d∈ds,mv d=true→d.kd≠5→zBL d.nu d.de≤1)→(∀ d∈ds,mv d=true→d.kd=5→zBb d.sh=1)→IncN K→HoldOk K f →
  zCt (ds.foldl (zAO mv) K) (ds.foldl (stepF mv) f)=zCt K f
 | [],_,_,_,_,_,_=>rfl
 | d::ds,K,f,hq,h5,h1,h2=>by
  rw [List.foldl_cons,List.foldl_cons]
  cases hm:mv d with
  | false =>
   have e1:zAO mv K d=K:=by unfold zAO;rw [hm];rfl
   have e2:stepF mv f d=f:=by unfold stepF;rw [hm];rfl
   rw [e1,e2];exact steps_sum mv ds K f (fun e he=>hq e (List.mem_cons_of_mem _ he)) (fun e he=>h5 e (List.mem_cons_of_mem _ he)) h1 h2
  | true =>
   have e1:zAO mv K d=zAJ d K:=by unfold zAO;rw [hm];rfl
   have e2:stepF mv f d=zDA d f:=by unfold stepF;rw [hm];rfl
   have g1:=zDa d h1;have g2:=h2.takeK d (hq d List.mem_cons_self hm);rw [e1,e2,steps_sum mv ds _ _ (fun e he=>hq e (List.mem_cons_of_mem _ he)) (fun e he=>h5 e (List.mem_cons_of_mem _ he)) g1 g2]
   have hs:∀ p∈K,p∈zAJ d K:=fun p hp=>by
    unfold zAJ
    split
    ·exact (zAN _).2 (.inr (zAM.2 (.inr hp)))
    ·exact zAM.2 (.inr (zAM.2 (.inr hp)))
   rw [sumF_take g1.nodup d f ?_ ?_ ?_ (fun h=>h5 d List.mem_cons_self hm h)]
   ·exact sum_mono g1.nodup h1.nodup (h2.mono hs) h2
   ·unfold zAJ
    split
    ·exact (zAN _).2 (.inr (zAM.2 (.inl rfl)))
    ·exact zAM.2 (.inr (zAM.2 (.inl rfl)))
   ·intro hk
    unfold zAJ;rw [if_neg hk];exact zAM.2 (.inl rfl)
   ·intro hk s hs
    unfold zAJ;rw [if_pos hk];exact (zAN _).2 (.inl ⟨s,hs,rfl⟩)
theorem parts_sum {rs:List Rg} {us:List ByteArray} {ds:List De} (h:zCH rs us ds=0) (i:Nat) (th use:ByteArray) (day:Int) (n:Nat) :
  IncN (zCd rs ds i th use day n)∧HoldOk (zCd rs ds i th use day n) (zAI rs ds i th use day n)∧zCt (zCd rs ds i th use day n) (zAI rs ds i th use day n)=zBC th day ds:=by
 have hpar:=zBI h;obtain ⟨s1,s2⟩:=start_ok th day ds [] (fun _=>0) List.Pairwise.nil hold_none
 have hmv:∀ d∈ds.take n,movB rs ds i th use day d=true→d.kd≠5→zBL d.nu d.de≤1:=fun d hd hm h5=>by
  have hd':=List.mem_of_mem_take hd;unfold movB at hm
  by_cases h2:d.kd=2
  ·exact ((hpar d hd').asg h2).2.2.1
  ·rw [if_neg h2,if_neg h5] at hm;cases hm
 have h5s:∀ d∈ds.take n,movB rs ds i th use day d=true→d.kd=5→zBb d.sh=1:=fun d hd _ h5=>((hpar d (List.mem_of_mem_take hd)).pas h5).2.1
 obtain ⟨t1,t2⟩:=steps_ok (movB rs ds i th use day) (ds.take n) (zDl th day ds) (zCK th day ds) hmv s1 s2;refine ⟨t1,t2,?_⟩
 have e:=steps_sum (movB rs ds i th use day) (ds.take n) (zDl th day ds) (zCK th day ds) hmv h5s s1 s2
 show zCt (zCd rs ds i th use day n) (zAI rs ds i th use day n)=_
 unfold zCd zAI;rw [e]
 rcases start_one (th:=th) (day:=day) ds (title_org h) with ⟨a,b⟩ | ⟨d,hd,a,b,c⟩
 ·rw [a,b,sumF_zero]
 ·obtain ⟨k1,_,_⟩:=zCm.1 a
  have ho:=((hpar d hd).org k1).1
  show zCt (ds.foldl (zBj th day) []) (zCK th day ds)=zBC th day ds
  rw [b,c,sumF_put s1.nodup d.sh (fun _=>0) (fun s hs=>(keys_start ds []).2 d hd a s hs) ho.nd (fun _ _=>rfl),sumF_zero]
  grind
end Go.Proofs.YtieoifkdobcpiaaGreatDoor
namespace Go.Proofs
open Go.Shelf
end Go.Proofs
namespace Go.Proofs.YtieoifkdobcpiaaGreatDoor
open Go.RowKit Dw
theorem dec_size (u:Nat) (k:Nat) (h:u<10 ^ k) (h1:1≤k):(Lib.decDigits u).length≤k:=by
 induction u using Nat.strongRecOn generalizing k with
 | _ u ih =>
  rw [Lib.decDigits]
  by_cases hu:u<10
  ·rw [dif_pos hu];simpa using h1
  ·rw [dif_neg hu,List.length_append]
   have hk:2≤k:=by
    rcases Nat.lt_or_ge k 2 with h2 | h2
    ·have:k=1:=by omega
     subst this;omega
    ·exact h2
   have:=ih (u / 10) za (k - 1) (by
    have e:10 ^ k=10 ^ (k - 1)*10:=by rw [←Nat.pow_succ];congr 1;omega
    rw [e] at h;exact Nat.div_lt_of_lt_mul (by rwa [Nat.mul_comm])) za
   simp only [List.length_cons,List.length_nil];omega
end Go.Proofs.YtieoifkdobcpiaaGreatDoor
namespace Go.Proofs.YtieoifkdobcpiaaGreatDoor
open Dw
def zCI (n:Nat):ByteArray:=⟨(Lib.decDigits n).toArray⟩
theorem digB_list (n:Nat):(zCI n).data.toList=Lib.decDigits n:=by simp [zCI]
theorem dig_one (u:Nat) (h:u<10):(UInt8.ofNat (48+u)).toNat=48+u:=by
 rw [UInt8.toNat_ofNat'];omega
theorem dig_all (n:Nat):(Lib.decDigits n).all dgB=true:=by
 induction n using Nat.strongRecOn with
 | _ n ih =>
  rw [Lib.decDigits]
  split
  ·next h=>simp [dgB];omega
  ·next h =>
   rw [List.all_append,ih (n / 10) za];simp [dgB]
   omega
theorem dig_val (n:Nat):zBv (Lib.decDigits n)=n:=by
 induction n using Nat.strongRecOn with
 | _ n ih =>
  rw [Lib.decDigits]
  split
  ·next h =>
   show 10*0+((UInt8.ofNat (48+n)).toNat - 48)=n
   rw [dig_one n h];omega
  ·next h =>
   rw [decV_snoc,ih (n / 10) za,dig_one (n % 10) za];omega
theorem dig_pos (n:Nat):1≤(Lib.decDigits n).length:=by
 rw [Lib.decDigits]
 split<;>simp
theorem dig_head (n:Nat) (h:n≠0):((Lib.decDigits n).headD 0).toNat≠48:=by
 induction n using Nat.strongRecOn with
 | _ n ih =>
  rw [Lib.decDigits]
  split
  ·next h1=>simp only [List.headD_cons,dig_one n h1];omega
  ·next h1 =>
   have h2:=dig_pos (n / 10);have h3:=ih (n / 10) za za
   cases he:Lib.decDigits (n / 10) with
   | nil=>rw [he] at h2;simp at h2
   | cons a l=>rw [he] at h3;simpa using h3
theorem dig_len (n k:Nat) (hk:1≤k):(Lib.decDigits n).length≤k↔n<10 ^ k:=by
 constructor
 ·intro h
  have h1:=decV_lt (l:=Lib.decDigits n) fun c hc=>by
   have:=(zDc c).1 (List.all_eq_true.1 (dig_all n) c hc);omega
  rw [dig_val] at h1;exact Nat.lt_of_lt_of_le h1 (Nat.pow_le_pow_right za h)
 ·exact fun h=>dec_size n k h hk
theorem zDi (n:Nat):(zCI n).size=(Lib.decDigits n).length:=by
 show (Lib.decDigits n).toArray.size=_
 simp
theorem digB_head (n:Nat):48≤((zCI n).data.toList.headD 0).toNat:=by
 rw [digB_list];have h:=dig_pos n
 cases he:Lib.decDigits n with
 | nil=>rw [he] at h;simp at h
 | cons a l =>
  have:=dig_all n;rw [he,List.all_cons,Bool.and_eq_true] at this;have h2:=(zDc a).1 this.1;simp only [List.headD_cons];omega
theorem digB_neg (n:Nat):negB (zCI n)=false:=by
 have:=digB_head n;unfold negB;have h2:decide (((zCI n).data.toList.headD 0).toNat=45)=false:=decide_eq_false za;rw [h2,Bool.and_false]
theorem digB_abs (n:Nat):zAS (zCI n)=zCI n:=by
 unfold zAS absL;rw [digB_neg,if_neg zd]
theorem zDv (n:Nat):zAy (zCI n)=n:=by unfold zAy;rw [digB_list,dig_val]
theorem digB_num (n:Nat):zCj (zCI n)=true:=by
 unfold zCj;rw [digB_list,dig_all,zDi];have h1:=dig_pos n
 by_cases h0:n=0
 ·subst h0
  have:(Lib.decDigits 0).length=1:=by rw [Lib.decDigits];simp
  rw [this];rfl
 ·have h2:=dig_head n h0
  simp only [Bool.true_and,Bool.or_eq_true,decide_eq_true_eq,Bool.and_eq_true];omega
theorem digB_inj {n m:Nat} (h:zCI n=zCI m):n=m:=by rw [←zDv n,h,zDv]
theorem digB_zero:zCI 0=zCf:=by
 unfold zCI;rw [Lib.decDigits]
 rfl
theorem ratF_dig {n d:Nat} (hd:d≠0) (hg:Nat.gcd n d=1) (h1:n<10 ^ 2000) (h2:d<10 ^ 2000):zCN (zCI n) (zCI d)=0:=by
 unfold zCN;have hz:¬ zCI d=zCf:=fun e=>hd (digB_inj (e.trans digB_zero.symm))
 have s1:=(dig_len n 2000 za).2 h1;have s2:=(dig_len d 2000 za).2 h2;rw [←zDi] at s1 s2
 rw [if_neg (by
  rw [digB_abs,digB_num,digB_num,digB_neg];rintro (h | ⟨h,_⟩ | h | h)
  ·cases h
  ·cases h
  ·cases h
  ·exact hz h),if_neg (by rw [digB_abs];omega),digB_abs,zDv,zDv,if_pos hg]
theorem ratQ_dig (n d:Nat):zBL (zCI n) (zCI d)=mkRat (n:Int) d:=by
 unfold zBL;rw [digB_abs,zDv,zDv]
def outQ (q:Rat):ByteArray×ByteArray:=(zCI q.num.natAbs,zCI q.den)
theorem outQ_back {q:Rat} (h:0≤q):zBL (outQ q).1 (outQ q).2=q:=by
 show zBL (zCI q.num.natAbs) (zCI q.den)=q
 rw [ratQ_dig]
 have hn:((q.num.natAbs:Nat):Int)=q.num:=by
  have:=Rat.num_nonneg.2 h;omega
 rw [hn];exact Rat.mkRat_self q
theorem outQ_right {q:Rat} (hl:zCX q=false):zCN (outQ q).1 (outQ q).2=0:=by
 unfold zCX at hl;simp only [Bool.or_eq_false_iff,decide_eq_false_iff_not,Nat.not_le] at hl;exact ratF_dig q.den_nz q.reduced hl.1 hl.2
theorem outQ_pos {q:Rat} (h:q≠0):posB (outQ q).1=true:=by
 show posB (zCI q.num.natAbs)=true
 unfold posB;rw [digB_neg,digB_abs,zDv]
 have:q.num.natAbs≠0:=fun e=>h (by
  have:q.num=0:=za;exact Rat.num_eq_zero.1 this)
 simpa using this
theorem den_mk {n:Int} {d:Nat} (hd:d≠0):(mkRat n d).den∣d:=by
 rw [Rat.den_mkRat,if_neg hd];exact Nat.div_dvd_of_dvd (Nat.gcd_dvd_left _ _)
theorem as_mk {a:Rat} {M:Nat} (hM:M≠0) (h:a.den∣M):∃ x:Int,a=mkRat x M:=by
 obtain ⟨k,rfl⟩:=h;have hk:k≠0:=fun e=>hM (by rw [e,Nat.mul_zero])
 refine ⟨a.num*k,?_⟩
 conv=>lhs;rw [←Rat.mkRat_self a]
 rw [Rat.mkRat_eq_iff a.den_nz hM]
 push_cast
 grind
theorem den_add {a b:Rat} {M:Nat} (hM:M≠0) (ha:a.den∣M) (hb:b.den∣M):(a+b).den∣M:=by
 obtain ⟨x,rfl⟩:=as_mk hM ha;obtain ⟨y,rfl⟩:=as_mk hM hb
 have:mkRat x M+mkRat y M=mkRat (x+y) M:=by
  rw [Rat.mkRat_add_mkRat _ _ hM hM,Rat.mkRat_eq_iff (Nat.mul_ne_zero hM hM) hM]
  push_cast
  grind
 rw [this];exact den_mk hM
theorem den_neg (a:Rat):(-a).den=a.den:=rfl
theorem den_sub {a b:Rat} {M:Nat} (hM:M≠0) (ha:a.den∣M) (hb:b.den∣M):(a - b).den∣M:=by
 have:a - b=a + -b:=by grind
 rw [this];exact den_add hM ha (by rw [den_neg];exact hb)
theorem den_mul {a b:Rat}:(a*b).den∣a.den*b.den:=by
 have h:a*b=mkRat (a.num*b.num) (a.den*b.den):=by
  conv=>lhs;rw [←Rat.mkRat_self a,←Rat.mkRat_self b]
  rw [Rat.mkRat_mul_mkRat]
 rw [h];exact den_mk (Nat.mul_ne_zero a.den_nz b.den_nz)
structure HoldB (N:List ByteArray) (M:Nat) (f:zBm):Prop where
 ok:HoldOk N f
 nd:N.Nodup
 sum:zCt N f≤1
 den:∀ p,(f p).den∣M
 nz:M≠0
theorem sum_ge {N:List ByteArray} {f:zBm} (h:∀ p,0≤f p):0≤zCt N f:=by
 induction N with
 | nil=>exact Rat.le_refl
 | cons a N ih=>rw [zBn];have:=h a;grind
theorem le_sum {N:List ByteArray} {f:zBm} (h:∀ p,0≤f p) {p:ByteArray} (hp:p∈N):f p≤zCt N f:=by
 induction N with
 | nil=>cases hp
 | cons a N ih =>
  rw [zBn]
  rcases List.mem_cons.1 hp with rfl | hp
  ·have:=sum_ge (N:=N) h;grind
  ·have:=ih hp;have:=h a;grind
theorem HoldB.le {N:List ByteArray} {M:Nat} {f:zBm} (h:HoldB N M f) (p:ByteArray):f p≤1:=by
 by_cases hp:p∈N
 ·have:=le_sum h.ok.pos hp;have:=h.sum;grind
 ·rw [h.ok.out p hp];decide
def denP (l:List Sh):Nat:=l.foldr (fun s n=>zAy s.de*n) 1
theorem denP_dvd {l:List Sh} {s:Sh} (h:s∈l):zAy s.de∣denP l:=by
 induction l with
 | nil=>cases h
 | cons a l ih =>
  show _∣zAy a.de*denP l
  rcases List.mem_cons.1 h with rfl | h
  ·exact Nat.dvd_mul_right _ _
  ·exact Nat.dvd_trans (ih h) (Nat.dvd_mul_left _ _)
theorem denP_nz {l:List Sh} (h:∀ s∈l,0<zAy s.de):denP l≠0:=by
 induction l with
 | nil=>decide
 | cons a l ih =>
  show zAy a.de*denP l≠0
  have:=h a List.mem_cons_self;exact Nat.mul_ne_zero za (ih fun s hs=>h s (List.mem_cons_of_mem _ hs))
theorem denP_lt {l:List Sh} (h:∀ s∈l,zAy s.de<10 ^ 2000):denP l<10 ^ (2000*l.length+1):=by
 induction l with
 | nil=>decide
 | cons a l ih =>
  show zAy a.de*denP l<_
  have h1:=h a List.mem_cons_self;have h2:=ih fun s hs=>h s (List.mem_cons_of_mem _ hs)
  have e:2000*(a::l).length+1=2000+(2000*l.length+1):=by rw [List.length_cons];omega
  obtain ⟨u,hu⟩:∃ u,u=2000:=⟨_,rfl⟩;rw [e,Nat.pow_add];rw [←hu] at h1 h2 ⊢
  rcases Nat.eq_zero_or_pos (denP l) with h0 | h0
  ·rw [h0,Nat.mul_zero]
   exact Nat.mul_pos (Nat.pow_pos zc) (Nat.pow_pos zc)
  ·exact Nat.mul_lt_mul'' h1 h2
theorem shSum_app (l m:List Sh):zBb (l++m)=zBb l+zBb m:=by
 induction l with
 | nil=>show zBb m=0+zBb m;grind
 | cons a l ih=>show shQ a+zBb (l++m)=shQ a+zBb l+zBb m;rw [ih];grind
theorem shSum_pos (l:List Sh):0≤zBb l:=by
 induction l with
 | nil=>exact Rat.le_refl
 | cons a l ih=>show 0≤shQ a+zBb l;have:=shQ_pos a;grind
theorem shSum_take (l:List Sh) (j:Nat):zBb (l.take j)≤zBb l:=by
 have h:=shSum_app (l.take j) (l.drop j);rw [List.take_append_drop] at h;have:=shSum_pos (l.drop j)
 grind
theorem shQ_den {s:Sh} (h:0<zAy s.de):(shQ s).den∣zAy s.de:=den_mk za
theorem HoldB.more {N K:List ByteArray} {M:Nat} {f:zBm} (h:HoldB N M f) (hk:K.Nodup) (hs:∀ p∈N,p∈K):HoldB K M f :=
 ⟨h.ok.mono hs,hk,by rw [sum_mono hk h.nd (h.ok.mono hs) h.ok];exact h.sum,h.den,h.nz⟩
theorem mul_le {a q:Rat} (ha:0≤a) (h1:a≤1) (hq0:0≤q) (hq:q≤1):0≤a*q∧a*q≤1:=by
 have h2:=Rat.mul_le_mul_of_nonneg_left hq ha;have h3:=Rat.mul_nonneg ha hq0
 grind
theorem HoldB.passMid {N:List ByteArray} {M:Nat} {f:zBm} {fr:ByteArray} {l:List Sh} (h:HoldB N M f) (hf:fr∈N) (hl:∀ s∈l,s.pt∈N) (hd:∀ s∈l,0<zAy s.de) (h1:zBb l=1):∀ j,j≤l.length →
  HoldB N (M*denP l) (zBU (f fr) (l.take j) (upH f fr 0)):=fun j hj=>by
 have hz:=denP_nz hd;have hM:=Nat.mul_ne_zero h.nz hz;have hl':∀ s∈l.take j,s.pt∈N:=fun s hs=>hl s (List.mem_of_mem_take hs)
 have k0:HoldOk N (upH f fr 0):=h.ok.up hf Rat.le_refl;refine ⟨HoldOk.pass (h.ok.pos fr) _ _ k0 hl',h.nd,?_,?_,hM⟩
 ·rw [sumF_pass h.nd _ _ _ hl',sumF_up h.nd hf]
  have a:=shSum_take l j;have b:=h.sum;have c:=Rat.mul_le_mul_of_nonneg_left (show zBb (l.take j)≤1 by grind) (h.ok.pos fr)
  grind
 ·have key:∀ (m:List Sh) (g:zBm),(∀ s∈m,s∈l)→(∀ p,(g p).den∣M*denP l)→∀ p,(zBU (f fr) m g p).den∣M*denP l:=fun m=>by
   induction m with
   | nil=>exact fun g _ hg=>hg
   | cons s m ih =>
    intro g hs hg;refine ih (upH g s.pt (g s.pt+f fr*shQ s)) (fun t ht=>hs t (List.mem_cons_of_mem _ ht)) fun p=>?_
    by_cases hp:p=s.pt
    ·subst hp
     rw [zBD];refine den_add hM (hg _) (Nat.dvd_trans den_mul (Nat.mul_dvd_mul (h.den fr) ?_))
     have hsl:=hs s List.mem_cons_self;exact Nat.dvd_trans (shQ_den (hd s hsl)) (denP_dvd hsl)
    ·rw [zAL _ _ hp];exact hg p
  refine key _ _ (fun s hs=>List.mem_of_mem_take hs) fun p=>?_
  by_cases hp:p=fr
  ·subst hp;rw [zBD];exact Nat.one_dvd _
  ·rw [zAL _ _ hp];exact Nat.dvd_trans (h.den p) (Nat.dvd_mul_right _ _)
theorem HoldB.giveMid {N:List ByteArray} {M:Nat} {f:zBm} {d:De} (h:HoldB N M f) (hf:d.fr∈N) (hq:zBL d.nu d.de≤1) (hd:0<zAy d.de) :
  HoldB N (M*zAy d.de) (upH f d.fr (f d.fr - f d.fr*zBL d.nu d.de))∧(f d.fr*zBL d.nu d.de).den∣M*zAy d.de:=by
 have hM:=Nat.mul_ne_zero h.nz (show zAy d.de≠0 by omega)
 have hx:(f d.fr*zBL d.nu d.de).den∣M*zAy d.de:=Nat.dvd_trans den_mul (Nat.mul_dvd_mul (h.den _) (den_mk za));have hp:=mul_le (h.ok.pos d.fr) (h.le d.fr) (ratQ_pos d.nu d.de) hq;refine ⟨⟨h.ok.up hf (part_le (h.ok.pos _) hq),h.nd,?_,fun p=>?_,hM⟩,hx⟩
 ·rw [sumF_up h.nd hf]
  have:=h.sum
  grind
 ·by_cases hpp:p=d.fr
  ·subst hpp
   rw [zBD];exact den_sub hM (Nat.dvd_trans (h.den _) (Nat.dvd_mul_right _ _)) hx
  ·rw [zAL _ _ hpp];exact Nat.dvd_trans (h.den p) (Nat.dvd_mul_right _ _)
theorem HoldB.give {N:List ByteArray} {M:Nat} {f:zBm} {d:De} (h:HoldB N M f) (hf:d.fr∈N) (ht:d.to_∈N) (hq:zBL d.nu d.de≤1) (hd:0<zAy d.de):HoldB N (M*zAy d.de) (giveF d f):=by
 obtain ⟨h1,hx⟩:=h.giveMid hf hq hd;refine ⟨h.ok.give d hf ht hq,h.nd,by rw [sumF_give h.nd d f hf ht];exact h.sum,fun p=>?_,h1.nz⟩
 unfold giveF
 by_cases hp:p=d.to_
 ·subst hp
  rw [zBD];exact den_add h1.nz (h1.den _) hx
 ·rw [zAL _ _ hp];exact h1.den p
def growD (d:De):Nat:=if d.kd=5 then denP d.sh else zAy d.de
theorem HoldB.take {N:List ByteArray} {M:Nat} {f:zBm} {d:De} (h:HoldB N M f) (hp:ParOk d) (hk:d.kd=2∨d.kd=5) (hf:d.fr∈N) (ht:d.kd≠5→d.to_∈N) (hl:d.kd=5→∀ s∈d.sh,s.pt∈N):HoldB N (M*growD d) (zDA d f):=by
 unfold growD zDA
 rcases hk with hk | hk
 ·obtain ⟨a,b,c,_⟩:=hp.asg hk
  rw [if_neg za,if_neg za];exact h.give hf (ht za) c (zCb a)
 ·obtain ⟨a,b,_⟩:=hp.pas hk
  rw [if_pos hk,if_pos hk];have:=h.passMid hf (hl hk) (fun s hs=>zCb (a.rat s hs)) b d.sh.length (Nat.le_refl _)
  rwa [List.take_length] at this
end Go.Proofs.YtieoifkdobcpiaaGreatDoor
