/- Parts of the proof, joined: What a right title says of its parts: no program in sight. All parts t. -/
import Derived.Test.YtieoifkdobcpiaaGreatDoorSm22
import Derived.Lib.ItoaNum
import Derived.Shelf.Strings.Builder1
import Derived.Shelf.Strings.OnBuilder
import Derived.Shelf.Strings.BuilderF
import Derived.Shelf.Strings.BuilderK
import Derived.Shelf.LaysM
import Derived.Shelf.Strconv.Itoa3
import Derived.Lib.Join
import Derived.Laws.IdiomStrings
import Derived.Lib.QuietBelow
import Derived.Shelf.Strings.Repeat
set_option maxRecDepth 100000
set_option maxHeartbeats 8000000
namespace Go.Proofs.YtieoifkdobcpiaaGreatDoor
open Dw
def toQ (p:Nat×Nat):Rat:=mkRat (p.1:Int) p.2
theorem toQ_low {n d:Nat} (hd:0<d):toQ (zBY n d)=mkRat (n:Int) d:=by
 have hg:0<Nat.gcd n d:=dZ _ hd;have h1:=Nat.div_mul_cancel (Nat.gcd_dvd_left n d);have h2:=Nat.div_mul_cancel (Nat.gcd_dvd_right n d)
 have h3:d / Nat.gcd n d≠0:=by
  intro h;rw [h] at h2;omega
 unfold toQ zBY;rw [Rat.mkRat_eq_iff h3 za]
 have:n / Nat.gcd n d*d=n*(d / Nat.gcd n d):=by
  clear h3;generalize Nat.gcd n d=g at *
  calc n / g*d=n / g*(d / g*g):=by rw [h2]
   _=(n / g*g)*(d / g):=by rw [bC,bB g]
   _=n*(d / g):=by rw [h1]
 exact_mod_cast this
theorem toQ_add {p q:Nat×Nat} (hp:0<p.2) (hq:0<q.2):toQ (addP p q)=toQ p+toQ q:=by
 unfold addP;rw [toQ_low (dN hp hq)];unfold toQ;rw [Rat.mkRat_add_mkRat _ _ za za];simp
theorem addP_pos {p q:Nat×Nat} (hp:0<p.2) (hq:0<q.2):0<(addP p q).2:=by
 have hd:=dN hp hq;exact Nat.div_pos (Nat.le_of_dvd hd (Nat.gcd_dvd_right _ _)) (dZ _ hd)
theorem sumP_toQ {l:List Sh} (h:∀ s∈l,0<zAz s.de):∀ k,k≤l.length→0<(zCS l k).2∧toQ (zCS l k)=zBW (l.take k)
 | 0,_=>⟨jm,by rw [sumP_zero];rfl⟩
 | k+1,hk=>by
  obtain ⟨h1,h2⟩:=sumP_toQ h k za;have hs:=h _ (aJ (show k<l.length by omega))
  rw [sumP_succ (show k<l.length by omega)]
  refine ⟨addP_pos h1 hs,?_⟩
  rw [toQ_add h1 hs,h2,bM (show k<l.length by omega)]
  have e:∀ (m:List Sh) (s:Sh),zBW (m++[s])=zBW m+shQ s:=fun m s=>by
   induction m with
   | nil=>show shQ s+0=0+shQ s;grind
   | cons a m ih=>show shQ a+zBW (m++[s])=shQ a+zBW m+shQ s;rw [ih];grind
  rw [e]
  rfl
structure ShsOk (l:List Sh):Prop where
 nd:(l.map Sh.pt).Nodup
 nm:∀ s∈l,zBe s.pt=true
 rat:∀ s∈l,zDq s.nu s.de=0
 pos:∀ s∈l,posB s.nu=true
theorem pts_inc {l:List Sh} (h:∀ i (hi:i+1<l.length),slt l[i].pt l[i+1].pt=true):(l.map Sh.pt).Nodup:=by
 have:=inc_pair (l:=l.map Sh.pt) (fun i hi=>by
  have h9:=h i yz
  simpa using h9)
 exact this.imp fun h=>zDd h
theorem shF_ok {k:Int} {l:List Sh} (h:shF k l=0):ShsOk l∧(zCS l l.length).1≤(zCS l l.length).2∧(k=5→(zCS l l.length).1=(zCS l l.length).2):=by
 unfold shF at h
 split at h
 ·cases h
 split at h
 ·cases h
 have key:∀ i f,zAR l i=some f→f≠0:=fun i f hf=>by
  unfold zAR at hf
  split at hf
  ·cases hf;simp
  ·split at hf
   ·cases hf;simp
   ·split at hf
    ·next h1=>cases hf;exact h1
    ·split at hf
     ·cases hf;simp
     ·cases hf
 split at h
 ·next f hf =>
  exfalso
  obtain ⟨i,_,hi⟩:=List.exists_of_findSome?_eq_some hf;exact key i f hi h
 next hn =>
 rw [List.findSome?_eq_none_iff] at hn
 have hall:∀ i (hi:i<l.length),zBe l[i].pt=true∧(0<i→sle l[i].pt (l[i - 1]'(by omega)).pt=false)∧zDq l[i].nu l[i].de=0∧posB l[i].nu=true:=fun i hi=>by
  have:=hn i yz;unfold zAR at this;rw [zDp hi,zDp (show i - 1<l.length by omega),shD_of hi] at this
  split at this
  ·cases this
  next h1 =>
  split at this
  ·cases this
  next h2 =>
  split at this
  ·cases this
  next h3 =>
  split at this
  ·cases this
  next h4 =>
  refine ⟨j0,fun h0=>?_,by simpa using h3,by simpa using h4⟩
  cases hs:sle l[i].pt (l[i - 1]'(by omega)).pt with
  | false=>rfl
  | true=>exact absurd ⟨h0,hs⟩ h2
 refine ⟨⟨pts_inc fun i hi=>zBJ ?_,fun s hs=>?_,fun s hs=>?_,fun s hs=>?_⟩,?_,?_⟩
 ·have:=(hall (i+1) hi).2.1 za
  simpa using this
 ·obtain ⟨i,hi,rfl⟩:=aK hs;exact (hall i hi).1
 ·obtain ⟨i,hi,rfl⟩:=aK hs;exact (hall i hi).2.2.1
 ·obtain ⟨i,hi,rfl⟩:=aK hs;exact (hall i hi).2.2.2
 ·split at h
  ·cases h
  ·omega
 ·split at h
  ·cases h
  ·next h9=>intro hk;omega
theorem zBO {nu de:BA} (h:zDq nu de=0):0<zAz de:=by
 obtain ⟨_,h2,h3,_,_⟩:=zCe h;exact den_pos h2 h3
theorem toQ_one {p:Nat×Nat} (hp:0<p.2) (h:p.1=p.2):toQ p=1:=by
 unfold toQ;rw [h,show (1:Rat)=mkRat 1 1 from by decide,Rat.mkRat_eq_iff za za]
 simp
theorem toQ_le {p:Nat×Nat} (hp:0<p.2) (h:p.1≤p.2):toQ p≤1:=by
 have h1:toQ p+toQ (p.2 - p.1,p.2)=1:=by
  unfold toQ;rw [Rat.mkRat_add_mkRat _ _ za za,show (1:Rat)=mkRat 1 1 from by decide,Rat.mkRat_eq_iff (Nat.ne_of_gt (dN hp hp)) za]
  have:((p.2 - p.1:Nat):Int)=(p.2:Int) - p.1:=za;simp only [this]
  push_cast
  grind
 have h2:0≤toQ (p.2 - p.1,p.2):=by
  unfold toQ;rw [←Rat.num_nonneg,Rat.num_mkRat]
  split
  ·exact Int.le_refl _
  ·exact Int.ediv_nonneg (dG _) (dG _)
 grind
theorem shs_sum {k:Int} {l:List Sh} (h:shF k l=0) (hk:k=5):zBW l=1:=by
 obtain ⟨h1,_,h3⟩:=shF_ok h;obtain ⟨p1,p2⟩:=sumP_toQ (fun s hs=>zBO (h1.rat s hs)) l.length (aB _)
 rw [bX] at p2;rw [←p2,toQ_one p1 (h3 hk)]
theorem parF_ok {d:De} (h:parF d=0) (hk:d.kd=2):zDq d.nu d.de=0∧posB d.nu=true∧zCX d.nu d.de≤1:=by
 unfold parF at h;rw [aC (by rw [hk];simp)] at h
 split at h
 ·next h1=>exact absurd h h1
 next h1 =>
 have h1':zDq d.nu d.de=0:=j0
 split at h
 ·cases h
 next h2 =>
 refine ⟨h1',?_,?_⟩
 ·cases hp:posB d.nu with
  | true=>rfl
  | false=>exact absurd (.inl hp) h2
 ·exact toQ_le (p:=(zAz (zAY d.nu),zAz d.de)) (zBO h1') (Nat.not_lt.1 fun hl=>h2 (.inr hl))
structure ParOk (d:De):Prop where
 kd:1≤d.kd∧d.kd≤5
 org:d.kd=1→ShsOk d.sh∧d.fr=emp
 asg:d.kd=2→zDq d.nu d.de=0∧posB d.nu=true∧zCX d.nu d.de≤1∧d.fr≠d.to_
 pas:d.kd=5→ShsOk d.sh∧zBW d.sh=1∧∀ s∈d.sh,s.pt≠d.fr
theorem chkD_par {rs:List Rg} {us:List BA} {pre:List De} {d:De} (h:chkD rs us pre d=0):ParOk d:=by
 unfold chkD at h
 split at h
 ·cases h
 split at h
 ·cases h
 split at h
 ·cases h
 split at h
 ·cases h
 split at h
 ·cases h
 next h5 =>
 split at h
 ·cases h
 next hnd =>
 simp only [zAy,Bool.not_eq_true,aI,Bool.and_eq_false_iff] at hnd;obtain ⟨⟨⟨⟨⟨⟨⟨⟨_,n2⟩,_⟩,_⟩,_⟩,_⟩,_⟩,_⟩,_⟩:=hnd;have hkd:1≤d.kd∧d.kd≤5:=za
 split at h
 ·next hg =>
  have hk:d.kd=2∨d.kd=3:=by unfold zAh at hg;simpa using hg
  unfold giftF at h
  split at h
  ·cases h
  split at h
  ·cases h
  next hc =>
  split at h
  ·next h1=>exact absurd h h1
  next g3 =>
  refine ⟨hkd,fun hh=>za,fun hh=>?_,fun hh=>za⟩
  obtain ⟨a,b,c⟩:=parF_ok (by simpa using g3) hh
  exact ⟨a,b,c,hc⟩
 ·next hg =>
  split at h
  ·next h4=>exact ⟨hkd,fun hh=>za,fun hh=>za,fun hh=>za⟩
  ·next h4 =>
   have hk:¬ (d.kd=2∨d.kd=3):=fun hh=>by apply hg;unfold zAh;simpa using hh
   unfold divF at h
   split at h
   ·cases h
   split at h
   ·cases h
   split at h
   ·next h1=>exact absurd h h1
   next g3 =>
   have g3':shF d.kd d.sh=0:=by simpa using g3
   split at h
   ·cases h
   next g4 =>
   refine ⟨hkd,fun hh=>⟨(shF_ok g3').1,?_⟩,fun hh=>za,fun hh=>⟨(shF_ok g3').1,shs_sum g3' hh,fun s hs he=>?_⟩⟩
   ·have hg0:zAh d.kd=false:=by simpa using hg
    rcases n2 with n | n
    ·rw [hg0,hh] at n;simp at n
    ·simpa using n
   ·exact g4 ⟨hh,List.any_eq_true.2 ⟨s,hs,by simpa using he⟩⟩
theorem chkD_org {rs:List Rg} {us:List BA} {pre:List De} {d:De} (h:chkD rs us pre d=0) (hk:d.kd=1∨d.kd=5):∀ p∈pre,¬ (p.kd=d.kd∧p.th=d.th∧p.fr=d.fr):=by
 unfold chkD at h
 have hg:zAh d.kd=false:=by
  unfold zAh
  rcases hk with e | e<;>rw [e]<;>rfl
 rw [hg] at h
 split at h
 ·cases h
 split at h
 ·cases h
 split at h
 ·cases h
 split at h
 ·cases h
 split at h
 ·cases h
 split at h
 ·cases h
 split at h
 ·next h1=>cases h1
 split at h
 ·omega
 unfold divF at h
 split at h
 ·cases h
 split at h
 ·cases h
 split at h
 ·next h1=>exact absurd h h1
 split at h
 ·cases h
 split at h
 ·cases h
 next h9 =>
 intro p hp hc;exact h9 (List.any_eq_true.2 ⟨p,hp,by simp [hc]⟩)
theorem zBU {rs:List Rg} {us:List BA} {ds:List De} (h:zCI rs us ds=0):∀ d∈ds,ParOk d:=fun d hd=>by
 obtain ⟨k,hk,rfl⟩:=aK hd;exact chkD_par ((zAZ h).2 k hk)
theorem title_org {rs:List Rg} {us:List BA} {ds:List De} (h:zCI rs us ds=0):ds.Pairwise fun a b=>¬ (a.kd=1∧b.kd=1∧a.th=b.th):=by
 have hc:=(zAZ h).2;refine List.pairwise_iff_getElem.2 fun i j hi hj hij=>?_
 rintro ⟨k1,k2,k3⟩;refine chkD_org (hc j hj) (.inl k2) ds[i] ?_ ⟨k1.trans k2.symm,k3,?_⟩
 ·rw [List.mem_take_iff_getElem]
  exact ⟨i,za,rfl⟩
 ·rw [(zBU h _ (aJ hi)).org k1 |>.2,(zBU h _ (aJ hj)).org k2 |>.2]
def orgSum (th:BA) (day:Int) (ds:List De):Rat:=ds.foldr (fun d s=>(if orgB th day d=true then zBW d.sh else 0)+s) 0
theorem zDf {th:BA} {day:Int} {d:De}:orgB th day d=true↔d.kd=1∧d.th=th∧d.bg≤day:=by unfold orgB;simp
theorem org_none {th:BA} {day:Int}:∀ (ds:List De) (f:zBm),(∀ d∈ds,orgB th day d=false)→ds.foldl (orgF th day) f=f∧orgSum th day ds=0
 | [],_,_=>⟨rfl,rfl⟩
 | d::ds,f,h=>by
  have hd:=h d aX;obtain ⟨h1,h2⟩:=org_none (th:=th) (day:=day) ds f fun e he=>h e (aW _ he)
  constructor
  ·rw [bS]
   have:orgF th day f d=f:=by unfold orgF;rw [hd];rfl
   rw [this,h1]
  ·show (if orgB th day d=true then zBW d.sh else 0)+orgSum th day ds=0
   rw [hd,h2];simp
   grind
theorem start_one {th:BA} {day:Int}:∀ (ds:List De),ds.Pairwise (fun a b=>¬ (a.kd=1∧b.kd=1∧a.th=b.th)) →
  (zDv th day ds=(fun _=>0)∧orgSum th day ds=0)∨∃ d∈ds,orgB th day d=true∧zDv th day ds=zAk d.sh (fun _=>0)∧orgSum th day ds=zBW d.sh
 | [],_=>.inl ⟨rfl,rfl⟩
 | d::ds,h=>by
  obtain ⟨h1,h2⟩:=List.pairwise_cons.1 h
  cases hd:orgB th day d with
  | true =>
   obtain ⟨k1,k2,_⟩:=zDf.1 hd
   have hn:∀ e∈ds,orgB th day e=false:=fun e he=>by
    cases hh:orgB th day e with
    | false=>rfl
    | true =>
     obtain ⟨k3,k4,_⟩:=zDf.1 hh;exact absurd ⟨k1,k3,k2.trans k4.symm⟩ (h1 e he)
   obtain ⟨e1,e2⟩:=org_none (th:=th) (day:=day) ds (zAk d.sh (fun _=>0)) hn
   refine .inr ⟨d,aX,hd,?_,?_⟩
   ·unfold zDv
    rw [bS];have:orgF th day (fun _=>0) d=zAk d.sh (fun _=>0):=by unfold orgF;rw [hd];rfl
    rw [this,e1]
   ·show (if orgB th day d=true then zBW d.sh else 0)+orgSum th day ds=_
    rw [hd,e2,aE rfl]
    grind
  | false =>
   have e:zDv th day (d::ds)=zDv th day ds:=by
    unfold zDv;rw [bS];have:orgF th day (fun _=>0) d=(fun _=>0):=by unfold orgF;rw [hd];rfl
    rw [this]
   have e2:orgSum th day (d::ds)=orgSum th day ds:=by
    show (if orgB th day d=true then zBW d.sh else 0)+orgSum th day ds=_
    rw [hd];simp
    grind
   rcases start_one (th:=th) (day:=day) ds h2 with ⟨a,b⟩ | ⟨x,hx,a,b,c⟩
   ·exact .inl ⟨by rw [e,a],by rw [e2,b]⟩
   ·exact .inr ⟨x,aW _ hx,a,by rw [e,b],by rw [e2,c]⟩
theorem keys_start {th:BA} {day:Int}:∀ (ds:List De) (K:List BA),(∀ q∈K,q∈ds.foldl (zAJ th day) K)∧∀ d∈ds,orgB th day d=true→∀ s∈d.sh,s.pt∈ds.foldl (zAJ th day) K
 | [],_=>⟨fun _ h=>h,fun _ h=>j2⟩
 | d::ds,K=>by
  obtain ⟨h1,h2⟩:=keys_start (th:=th) (day:=day) ds (zAJ th day K d)
  have hm:∀ q∈K,q∈zAJ th day K d:=fun q hq=>by
   unfold zAJ
   split
   ·exact (zAX _).2 (.inr hq)
   ·exact hq
  refine ⟨fun q hq=>h1 q (hm q hq),fun e he ho s hs=>?_⟩
  rcases List.mem_cons.1 he with rfl | he
  ·refine h1 _ ?_
   unfold zAJ;rw [aE ho];exact (zAX _).2 (.inl ⟨s,hs,rfl⟩)
  ·exact h2 e he ho s hs
theorem sum_mono {N M:List BA} {f:zBm} (hn:N.Nodup) (hm:M.Nodup) (h1:HoldOk N f) (h2:HoldOk M f):zBQ N f=zBQ M f:=by
 induction N generalizing M f with
 | nil =>
  have:∀ p,f p=0:=fun p=>h1.out p ze
  rw [sumF_congr (N:=M) (g:=fun _=>0) (fun p _=>this p),sumF_zero,sumF_nil]
 | cons a N ih =>
  obtain ⟨k1,k2⟩:=List.nodup_cons.1 hn
  have g1:HoldOk N (upH f a 0):=⟨fun p=>by
   by_cases hp:p=a
   ·subst hp;rw [zBI];exact Rat.le_refl
   ·rw [zAN _ _ hp];exact h1.pos p,fun p hp=>by
   by_cases hpa:p=a
   ·subst hpa;rw [zBI]
   ·rw [zAN _ _ hpa]
    exact h1.out p (by simp [hpa,hp])⟩
  have g2:HoldOk M (upH f a 0):=⟨g1.pos,fun p hp=>by
   by_cases hpa:p=a
   ·subst hpa;rw [zBI]
   ·rw [zAN _ _ hpa];exact h2.out p hp⟩
  have e1:zBQ N (upH f a 0)=zBQ N f:=sumF_congr fun p hp=>zAN _ _ (fun e=>k1 (by rw [←e];exact hp))
  have e2:=ih k2 hm g1 g2;rw [zBb,←e1,e2]
  by_cases ha:a∈M
  ·rw [sumF_up hm ha];grind
  ·have h0:=h2.out a ha
   rw [sumF_congr (N:=M) (g:=f) (fun p hp=>zAN _ _ (fun e=>ha (by rw [←e];exact hp))),h0]
   grind
theorem steps_sum (mv:De→Bool):∀ (ds:List De) (K:List BA) (f:zBm),(∀ d∈ds,mv d=true→d.kd≠5→zCX d.nu d.de≤1)→(∀ d∈ds,mv d=true→d.kd=5→zBW d.sh=1)→IncN K→HoldOk K f →
  zBQ (ds.foldl (zBd mv) K) (ds.foldl (stepF mv) f)=zBQ K f
 | [],_,_,_,_,_,_=>rfl
 | d::ds,K,f,hq,h5,h1,h2=>by
  rw [bS,bS]
  cases hm:mv d with
  | false =>
   have e1:zBd mv K d=K:=by unfold zBd;rw [hm];rfl
   have e2:stepF mv f d=f:=by unfold stepF;rw [hm];rfl
   rw [e1,e2];exact steps_sum mv ds K f (fun e he=>hq e (aW _ he)) (fun e he=>h5 e (aW _ he)) h1 h2
  | true =>
   have e1:zBd mv K d=zAw d K:=by unfold zBd;rw [hm];rfl
   have e2:stepF mv f d=zCY d f:=by unfold stepF;rw [hm];rfl
   have g1:=zDc d h1;have g2:=h2.takeK d (hq d aX hm);rw [e1,e2,steps_sum mv ds _ _ (fun e he=>hq e (aW _ he)) (fun e he=>h5 e (aW _ he)) g1 g2]
   have hs:∀ p∈K,p∈zAw d K:=fun p hp=>by
    unfold zAw
    split
    ·exact (zAX _).2 (.inr (zAP.2 (.inr hp)))
    ·exact zAP.2 (.inr (zAP.2 (.inr hp)))
   rw [sumF_take g1.nodup d f ?_ ?_ ?_ (fun h=>h5 d aX hm h)]
   ·exact sum_mono g1.nodup h1.nodup (h2.mono hs) h2
   ·unfold zAw
    split
    ·exact (zAX _).2 (.inr (zAP.2 (.inl rfl)))
    ·exact zAP.2 (.inr (zAP.2 (.inl rfl)))
   ·intro hk
    unfold zAw;rw [aC hk];exact zAP.2 (.inl rfl)
   ·intro hk s hs
    unfold zAw;rw [aE hk];exact (zAX _).2 (.inl ⟨s,hs,rfl⟩)
theorem zDI {rs:List Rg} {us:List BA} {ds:List De} (h:zCI rs us ds=0) (i:Nat) (th use:BA) (day:Int) (n:Nat) :
  IncN (zBD rs ds i th use day n)∧HoldOk (zBD rs ds i th use day n) (zAH rs ds i th use day n)∧zBQ (zBD rs ds i th use day n) (zAH rs ds i th use day n)=orgSum th day ds:=by
 have hpar:=zBU h;obtain ⟨s1,s2⟩:=start_ok th day ds [] (fun _=>0) List.Pairwise.nil hold_none
 have hmv:∀ d∈ds.take n,zDO rs ds i th use day d=true→d.kd≠5→zCX d.nu d.de≤1:=fun d hd hm h5=>by
  have hd':=bZ hd;unfold zDO at hm
  by_cases h2:d.kd=2
  ·exact ((hpar d hd').asg h2).2.2.1
  ·rw [aC h2,aC h5] at hm;cases hm
 have h5s:∀ d∈ds.take n,zDO rs ds i th use day d=true→d.kd=5→zBW d.sh=1:=fun d hd _ h5=>((hpar d (bZ hd)).pas h5).2.1
 obtain ⟨t1,t2⟩:=steps_ok (zDO rs ds i th use day) (ds.take n) (zDY th day ds) (zDv th day ds) hmv s1 s2;refine ⟨t1,t2,?_⟩
 have e:=steps_sum (zDO rs ds i th use day) (ds.take n) (zDY th day ds) (zDv th day ds) hmv h5s s1 s2
 show zBQ (zBD rs ds i th use day n) (zAH rs ds i th use day n)=_
 unfold zBD zAH;rw [e]
 rcases start_one (th:=th) (day:=day) ds (title_org h) with ⟨a,b⟩ | ⟨d,hd,a,b,c⟩
 ·rw [a,b,sumF_zero]
 ·obtain ⟨k1,_,_⟩:=zDf.1 a
  have ho:=((hpar d hd).org k1).1
  show zBQ (ds.foldl (zAJ th day) []) (zDv th day ds)=orgSum th day ds
  rw [b,c,sumF_put s1.nodup d.sh (fun _=>0) (fun s hs=>(keys_start ds []).2 d hd a s hs) ho.nd (fun _ _=>rfl),sumF_zero]
  grind
end Go.Proofs.YtieoifkdobcpiaaGreatDoor
namespace Go.Proofs
open Go.Shelf
def Tryz.laysM171_ren:Go.Shelf.Ren:=⟨fun | 171=>144 | 243=>198 | 246=>246 | 283=>125 | 284=>126 | 285=>127 | 286=>128 | 129=>161 | 317=>187 | 318=>188 | 319=>189 | 320=>190 | 337=>235 | 338=>236 | n=>n,fun | 3=>3 | 9=>9 | 2=>2 | 4=>4 | 171=>202 | 0=>0 | 53=>95 | 37=>131 | 5=>5 | 173=>205 | 212=>261 | 51=>197 | 20=>20 | 213=>262 | 46=>188 | 232=>323 | 233=>324 | n=>n,fun | 17=>0 | 18=>3 | 19=>4 | n=>n⟩
theorem Tryz.laysM171:Go.Proofs.LaysM.n171 Tryz.prog Tryz.laysM171_ren:={
 mixed:=zc
 f129:=Tryz.func161.trans (bH some zc)
 f171:=Tryz.func144.trans (bH some zc)
 f243:=Tryz.func198.trans (bH some zc)
 f246:=Tryz.func246.trans (bH some zc)
 f283:=Tryz.func125.trans (bH some zc)
 f284:=Tryz.func126.trans (bH some zc)
 f285:=Tryz.func127.trans (bH some zc)
 f286:=Tryz.func128.trans (bH some zc)
 f317:=Tryz.func187.trans (bH some zc)
 f318:=Tryz.func188.trans (bH some zc)
 f319:=Tryz.func189.trans (bH some zc)
 f320:=Tryz.func190.trans (bH some zc)
 f337:=Tryz.func235.trans (bH some zc)
 f338:=Tryz.func236.trans (bH some zc)
 t0:=Tryz.underlying0
 a0:=Tryz.isAgg0
 z0:=Tryz.sizeOf0
 v0:=Tryz.zeroValue0
 t2:=Tryz.underlying2
 a2:=Tryz.isAgg2
 z2:=Tryz.sizeOf2
 v2:=Tryz.zeroValue2
 t3:=Tryz.underlying3
 a3:=Tryz.isAgg3
 z3:=Tryz.sizeOf3
 v3:=Tryz.zeroValue3
 t4:=Tryz.underlying4
 a4:=Tryz.isAgg4
 z4:=Tryz.sizeOf4
 v4:=Tryz.zeroValue4
 t5:=Tryz.underlying5
 a5:=Tryz.isAgg5
 z5:=Tryz.sizeOf5
 v5:=Tryz.zeroValue5
 t9:=Tryz.underlying9
 a9:=Tryz.isAgg9
 z9:=Tryz.sizeOf9
 v9:=Tryz.zeroValue9
 t20:=Tryz.underlying20
 a20:=Tryz.isAgg20
 z20:=Tryz.sizeOf20
 v20:=Tryz.zeroValue20
 t37:=Tryz.underlying131
 a37:=Tryz.isAgg131
 z37:=Tryz.sizeOf131
 v37:=Tryz.zeroValue131
 t46:=Tryz.underlying188
 a46:=Tryz.isAgg188
 z46:=Tryz.sizeOf188
 v46:=Tryz.zeroValue188
 t51:=Tryz.underlying197
 a51:=Tryz.isAgg197
 z51:=Tryz.sizeOf197
 v51:=Tryz.zeroValue197
 t53:=Tryz.underlying95
 a53:=Tryz.isAgg95
 z53:=Tryz.sizeOf95
 v53:=Tryz.zeroValue95
 t171:=Tryz.underlying202
 a171:=Tryz.isAgg202
 z171:=Tryz.sizeOf202
 v171:=Tryz.zeroValue202
 t173:=Tryz.underlying205
 a173:=Tryz.isAgg205
 z173:=Tryz.sizeOf205
 v173:=Tryz.zeroValue205
 t212:=Tryz.underlying261
 a212:=Tryz.isAgg261
 z212:=Tryz.sizeOf261
 v212:=Tryz.zeroValue261
 t213:=Tryz.underlying262
 a213:=Tryz.isAgg262
 z213:=Tryz.sizeOf262
 t232:=Tryz.underlying323
 a232:=Tryz.isAgg323
 z232:=Tryz.sizeOf323
 v232:=Tryz.zeroValue323
 t233:=Tryz.underlying324
 a233:=Tryz.isAgg324
 z233:=Tryz.sizeOf324
 v233:=Tryz.zeroValue324
 g17:=zc
 g18:=zc
 g19:=zc
 i0:=zc
 i2:=zc
 i3:=zc
 i4:=zc
 i5:=zc
 i9:=zc
 i20:=zc
 i37:=zc
 i46:=zc
 i51:=zc
 i53:=zc
 i171:=zc
 i173:=zc
 i212:=zc
 i232:=zc
 i233:=zc
 m17:=zc
 m18:=zc
 m19:=by kernel_rfl }
end Go.Proofs
namespace Go.Proofs.YtieoifkdobcpiaaGreatDoor
open Go.RowKit Dw
def itoaB (n:Int):BA:=⟨(Lib.itoa n).toArray⟩
theorem dec_size (u:Nat) (k:Nat) (h:u<10 ^ k) (h1:1≤k):(Lib.decDigits u).length≤k:=by
 induction u using Nat.strongRecOn generalizing k with
 | _ u ih =>
  rw [Lib.decDigits]
  by_cases hu:u<10
  ·rw [dif_pos hu];simpa using h1
  ·rw [dif_neg hu,dA]
   have hk:2≤k:=by
    rcases aU k 2 with h2 | h2
    ·have:k=1:=by omega
     subst this;omega
    ·exact h2
   have:=ih (u / 10) za (k - 1) (by
    have e:10 ^ k=10 ^ (k - 1)*10:=by rw [←aZ];congr 1;omega
    rw [e] at h;exact Nat.div_lt_of_lt_mul (by rwa [bB])) za
   simp only [aY,eF];omega
theorem data_app (a b:BA):(a++b).data.toList=a.data.toList++b.data.toList:=by simp [ByteArray.data_append]
def POK (w:World):Prop:=Lib.TabIs Tryz.prog w "internal/strconv.uint64pow10" .u64 Lib.pow10Tab
theorem POK.below {w w':World} (h:POK w) (hb:Below w.heap.size w w'):POK w':=by
 unfold POK Lib.TabIs World.var? at *;have hg:Tryz.prog.globalNamed "internal/strconv.uint64pow10" = some 0:=zc;rw [hg] at h ⊢;simp only [Option.bind_some] at h ⊢
 have hlt:0<w.heap.size:=by
  rcases aU 0 w.heap.size with h1 | h1
  ·exact h1
  ·rw [Array.getElem?_eq_none h1] at h;cases h
 rw [hb.block _ hlt];exact h
theorem itoa_c (n:Int) (w:World) (h0 : -9223372036854775808≤n) (h1:n≤9223372036854775807) (hP:POK w):Calls Tryz.prog 144 #[.int .i64 n] w (zAe (.string (itoaB n)) w) :=
 (Any.strconv_Itoa Tryz.laysM171 n h0 h1 w hP).mono fun _ _ ⟨he,k,os,hw⟩=>⟨he,by rw [hw];exact below_regrown w (w.drawn+k) os⟩
theorem cat_big (a b:BA) (h:a.size+b.size≤1000000000):∀ W,(Op.stringOp .add a b).run Tryz.prog W = .ok (.string (a++b)) W:=fun W=>run_string_add_sum W _ _ za
end Go.Proofs.YtieoifkdobcpiaaGreatDoor
namespace Go.Proofs.YtieoifkdobcpiaaGreatDoor
open Dw
def zDx (n:Nat):BA:=⟨(Lib.decDigits n).toArray⟩
theorem digB_list (n:Nat):(zDx n).data.toList=Lib.decDigits n:=by simp [zDx]
theorem dig_one (u:Nat) (h:u<10):(UInt8.ofNat (48+u)).toNat=48+u:=by
 rw [UInt8.toNat_ofNat'];omega
theorem dig_all (n:Nat):(Lib.decDigits n).all dgB=true:=by
 induction n using Nat.strongRecOn with
 | _ n ih =>
  rw [Lib.decDigits]
  split
  ·next h=>simp [dgB];omega
  ·next h =>
   rw [dS,ih (n / 10) za];simp [dgB]
   omega
theorem dig_val (n:Nat):zBM (Lib.decDigits n)=n:=by
 induction n using Nat.strongRecOn with
 | _ n ih =>
  rw [Lib.decDigits]
  split
  ·next h =>
   show 10*0+((UInt8.ofNat (48+n)).toNat - 48)=n
   rw [dig_one n h];omega
  ·next h =>
   rw [decV_snoc,ih (n / 10) za,dig_one (n % 10) za];omega
theorem dig_pos (n:Nat):1≤(Lib.decDigits n).length:=by
 rw [Lib.decDigits]
 split<;>simp
theorem dig_head (n:Nat) (h:n≠0):((Lib.decDigits n).headD 0).toNat≠48:=by
 induction n using Nat.strongRecOn with
 | _ n ih =>
  rw [Lib.decDigits]
  split
  ·next h1=>simp only [List.headD_cons,dig_one n h1];omega
  ·next h1 =>
   have h2:=dig_pos (n / 10);have h3:=ih (n / 10) za za
   cases he:Lib.decDigits (n / 10) with
   | nil=>rw [he] at h2;simp at h2
   | cons a l=>rw [he] at h3;simpa using h3
theorem dig_len (n k:Nat) (hk:1≤k):(Lib.decDigits n).length≤k↔n<10 ^ k:=by
 constructor
 ·intro h
  have h1:=decV_lt (l:=Lib.decDigits n) fun c hc=>by
   have:=(zDP c).1 (List.all_eq_true.1 (dig_all n) c hc);omega
  rw [dig_val] at h1;exact dL h1 (bY za h)
 ·exact fun h=>dec_size n k h hk
theorem zDA (n:Nat):(zDx n).size=(Lib.decDigits n).length:=by
 show (Lib.decDigits n).toArray.size=_
 simp
theorem digB_zero:zDx 0=zCH:=by
 unfold zDx;rw [Lib.decDigits]
 rfl
theorem dg_back {c:UInt8} (h:dgB c=true):UInt8.ofNat (48+(c.toNat - 48))=c:=by
 have:=(zDP c).1 h
 apply UInt8.toNat_inj.1
 rw [UInt8.toNat_ofNat'];have:=c.toNat_lt;omega
theorem decV_pos {l:List UInt8} (h:l.all dgB=true) (hne:l≠[]) (hh:(l.headD 0).toNat≠48):0<zBM l:=by
 cases l with
 | nil=>exact absurd rfl hne
 | cons a t =>
  rw [List.all_cons,dT] at h;have h1:=(zDP a).1 h.1;have e:=zCc [a] t;rw [List.singleton_append] at e;have e2:zBM [a]=a.toNat - 48:=by show 10*0+(a.toNat - 48)=_;omega
  rw [e,e2];simp only [List.headD_cons] at hh;have:0<(a.toNat - 48)*10 ^ t.length:=dN za (Nat.pow_pos zd);omega
theorem dig_uniq:∀ (n:Nat) (l:List UInt8),l.length=n→l.all dgB=true→l≠[]→(l.length=1∨(l.headD 0).toNat≠48)→l=Lib.decDigits (zBM l)
 | 0,l,hn,_,hne,_=>absurd (List.length_eq_zero_iff.1 hn) hne
 | n+1,l,hn,hall,hne,hh=>by
  obtain ⟨m,c,rfl⟩:∃ m c,l=m++[c]:=⟨l.dropLast,l.getLast hne,(List.dropLast_concat_getLast hne).symm⟩;rw [dS,dT] at hall;have hc:dgB c=true:=by simpa using hall.2
  have hc2:=(zDP c).1 hc;rw [decV_snoc]
  cases m with
  | nil =>
   have e:zBM []=0:=rfl;rw [e,Lib.decDigits,dif_pos za];have:10*0+(c.toNat - 48)=c.toNat - 48:=za;rw [this,dg_back hc]
   rfl
  | cons a t =>
   have hhd:((a::t).headD 0).toNat≠48:=by
    rcases hh with h | h
    ·simp at h
    ·simpa using h
   have ih:=dig_uniq n (a::t) (by simpa using hn) hall.1 ze (.inr hhd)
   have hp:=decV_pos hall.1 ze hhd;rw [Lib.decDigits,dif_neg za];have e1:(10*zBM (a::t)+(c.toNat - 48)) / 10=zBM (a::t):=za;have e2:(10*zBM (a::t)+(c.toNat - 48)) % 10=c.toNat - 48:=za;rw [e1,e2,dg_back hc,←ih]
structure RevD (n0 a:Nat) (r:List UInt8):Prop where
 all:r.all dgB=true
 val:n0=a*10 ^ r.length+zBM r.reverse
theorem RevD.start (n:Nat):RevD n n []:=⟨rfl,by simp [zBM]⟩
theorem RevD.step {n0 a:Nat} {r:List UInt8} (h:RevD n0 a r):RevD n0 (a / 10) (r++[UInt8.ofNat (48+a % 10)]):=by
 have hd:=dig_one (a % 10) za;refine ⟨?_,?_⟩
 ·rw [dS,h.all]
  simp [dgB]
  omega
 ·rw [dA,List.reverse_append,List.reverse_singleton,List.length_singleton,zCc,List.length_reverse]
  have e:zBM [UInt8.ofNat (48+a % 10)]=a % 10:=by
   show 10*0+((UInt8.ofNat (48+a % 10)).toNat - 48)=_
   rw [hd];omega
  rw [e,h.val,aZ];have h3:a=a / 10*10+a % 10:=za;generalize hp:10 ^ r.length=p
  have e4:a / 10*(p*10)+(a % 10*p+zBM r.reverse)=(a / 10*10+a % 10)*p+zBM r.reverse:=by
   rw [bD,bC,bB 10 p];omega
  rw [e4,←h3]
theorem RevD.done {n0:Nat} {r:List UInt8} (h:RevD n0 0 r) (hne:r≠[]) (hl:r.length=1∨(r.getLast hne).toNat≠48):r.reverse=Lib.decDigits n0:=by
 have e:n0=zBM r.reverse:=by rw [h.val];omega
 rw [e];refine dig_uniq r.reverse.length r.reverse rfl (by rw [List.all_reverse];exact h.all) (by simpa using hne) ?_
 rcases hl with h1 | h1
 ·exact .inl j0
 ·right
  have:r.reverse.headD 0=r.getLast hne:=by
   rw [List.headD_eq_head?_getD,List.head?_reverse,List.getLast?_eq_some_getLast hne]
   rfl
  rw [this];exact h1
def zer (k:Nat):List UInt8:=List.replicate k 48
theorem zer_dg (k:Nat):(zer k).all dgB=true:=by
 unfold zer;rw [List.all_eq_true];intro x hx;rw [(List.mem_replicate.1 hx).2]
 decide
theorem zer_val:∀ k,zBM (zer k)=0
 | 0=>rfl
 | k+1=>by
  have e:zer (k+1)=[48]++zer k:=rfl;rw [e,zCc,zer_val k]
  show (10*0+(48 - 48))*_+0=0
  simp
def pad4 (l:Nat):List UInt8:=zer (4 - (Lib.decDigits l).length)++Lib.decDigits l
theorem dig4 {l:Nat} (h:l<10000):(Lib.decDigits l).length≤4:=dec_size l 4 za za
theorem pad4_len {l:Nat} (h:l<10000):(pad4 l).length=4:=by
 have:=dig4 h;unfold pad4 zer;rw [dA,List.length_replicate];omega
theorem dig_snoc4 {v l:Nat} (hv:v≠0) (hl:l<10000):Lib.decDigits (v*10000+l)=Lib.decDigits v++pad4 l:=by
 have hp:=dig_pos v
 have e:zBM (Lib.decDigits v++pad4 l)=v*10000+l:=by
  rw [zCc,pad4_len hl,dig_val];unfold pad4;rw [zCc,zer_val,dig_val];omega
 rw [←e];refine (dig_uniq _ (Lib.decDigits v++pad4 l) rfl ?_ ?_ (.inr ?_)).symm
 ·rw [dS,dig_all]
  unfold pad4;rw [dS,zer_dg,dig_all]
  rfl
 ·intro h
  rw [(List.append_eq_nil_iff.1 h).1] at hp;simp at hp
 ·have h9:=dig_head v hv
  cases hc:Lib.decDigits v with
  | nil=>rw [hc] at hp;simp at hp
  | cons a t=>rw [hc] at h9;simpa using h9
theorem last_wordsT {n:Nat}:zAc BT n=[]∨BT ^ ((zAc BT n).length - 1)≤n:=by
 rcases bR (zAc BT n).length with h0 | h0
 ·exact .inl (dQ h0)
 ·have:=zEq (B:=BT) h0 (zCn zAW h0)
  rw [zAl zAW] at this;exact .inr this
theorem drop_pos {n i:Nat} (hi:i<(zAc BT n).length):zAf BT ((zAc BT n).drop i)≠0:=by
 intro h0;have h1:=zCo BT i (zAc BT n) za;rw [h0,bT,cZ,zAl zAW] at h1;have h2:=zDs (WLt.take (zAK zAW n) i)
 have h3:(zAc BT n).length≤i:=by
  rcases last_wordsT (n:=n) with e | e
  ·rw [e];simp
  ·rw [bN,bO za,←h1] at h2
   refine Nat.le_of_not_lt fun hk=>?_
   have h4:BT ^ i≤BT ^ ((zAc BT n).length - 1):=bY BT_pos za;omega
 omega
end Go.Proofs.YtieoifkdobcpiaaGreatDoor
namespace Go.Proofs
open Go.Shelf
def Tryz.lays105_ren:Go.Shelf.Ren:=⟨fun | 105=>145 | 212=>199 | 99=>200 | 165=>201 | 166=>202 | 170=>203 | 169=>204 | 263=>247 | 264=>171 | 206=>248 | 240=>249 | 241=>250 | 276=>269 | 277=>270 | n=>n,fun | 9=>9 | 3=>3 | 4=>4 | 20=>20 | 0=>0 | 46=>188 | 109=>267 | 5=>5 | 72=>271 | 76=>163 | 51=>197 | 146=>306 | 53=>95 | 148=>245 | 70=>269 | 37=>131 | 75=>162 | 127=>308 | 164=>327 | 80=>192 | n=>n,fun | n=>n⟩
theorem Tryz.lays105:Go.Proofs.Lays.n105 Tryz.prog Tryz.lays105_ren:={
 mixed:=zc
 f99:=Tryz.func200.trans (bH some zc)
 f105:=Tryz.func145.trans (bH some zc)
 f165:=Tryz.func201.trans (bH some zc)
 f166:=Tryz.func202.trans (bH some zc)
 f169:=Tryz.func204.trans (bH some zc)
 f170:=Tryz.func203.trans (bH some zc)
 f206:=Tryz.func248.trans (bH some zc)
 f212:=Tryz.func199.trans (bH some zc)
 f240:=Tryz.func249.trans (bH some zc)
 f241:=Tryz.func250.trans (bH some zc)
 f263:=Tryz.func247.trans (bH some zc)
 f264:=Tryz.func171.trans (bH some zc)
 f276:=Tryz.func269.trans (bH some zc)
 f277:=Tryz.func270.trans (bH some zc)
 t0:=Tryz.underlying0
 a0:=Tryz.isAgg0
 z0:=Tryz.sizeOf0
 v0:=Tryz.zeroValue0
 t3:=Tryz.underlying3
 a3:=Tryz.isAgg3
 z3:=Tryz.sizeOf3
 v3:=Tryz.zeroValue3
 t4:=Tryz.underlying4
 a4:=Tryz.isAgg4
 z4:=Tryz.sizeOf4
 v4:=Tryz.zeroValue4
 t5:=Tryz.underlying5
 a5:=Tryz.isAgg5
 z5:=Tryz.sizeOf5
 v5:=Tryz.zeroValue5
 t9:=Tryz.underlying9
 a9:=Tryz.isAgg9
 z9:=Tryz.sizeOf9
 v9:=Tryz.zeroValue9
 t20:=Tryz.underlying20
 a20:=Tryz.isAgg20
 z20:=Tryz.sizeOf20
 v20:=Tryz.zeroValue20
 t37:=Tryz.underlying131
 a37:=Tryz.isAgg131
 z37:=Tryz.sizeOf131
 v37:=Tryz.zeroValue131
 t46:=Tryz.underlying188
 a46:=Tryz.isAgg188
 z46:=Tryz.sizeOf188
 v46:=Tryz.zeroValue188
 t51:=Tryz.underlying197
 a51:=Tryz.isAgg197
 z51:=Tryz.sizeOf197
 v51:=Tryz.zeroValue197
 t53:=Tryz.underlying95
 a53:=Tryz.isAgg95
 z53:=Tryz.sizeOf95
 v53:=Tryz.zeroValue95
 t70:=Tryz.underlying269
 a70:=Tryz.isAgg269
 z70:=Tryz.sizeOf269
 v70:=Tryz.zeroValue269
 t72:=Tryz.underlying271
 a72:=Tryz.isAgg271
 z72:=Tryz.sizeOf271
 v72:=Tryz.zeroValue271
 t75:=Tryz.underlying162
 a75:=Tryz.isAgg162
 z75:=Tryz.sizeOf162
 v75:=Tryz.zeroValue162
 t76:=Tryz.underlying163
 a76:=Tryz.isAgg163
 z76:=Tryz.sizeOf163
 v76:=Tryz.zeroValue163
 t109:=Tryz.underlying267
 a109:=Tryz.isAgg267
 z109:=Tryz.sizeOf267
 v109:=Tryz.zeroValue267
 t127:=Tryz.underlying308
 a127:=Tryz.isAgg308
 z127:=Tryz.sizeOf308
 v127:=Tryz.zeroValue308
 t146:=Tryz.underlying306
 a146:=Tryz.isAgg306
 z146:=Tryz.sizeOf306
 v146:=Tryz.zeroValue306
 t148:=Tryz.underlying245
 a148:=Tryz.isAgg245
 z148:=Tryz.sizeOf245
 v148:=Tryz.zeroValue245
 t164:=Tryz.underlying327
 a164:=Tryz.isAgg327
 z164:=Tryz.sizeOf327
 v164:=Tryz.zeroValue327 }
theorem Tryz.Builder_Extra_105:Builder.Extra Tryz.prog Tryz.lays105_ren:={
 sizeBuilder:=zc
 liesBuilder:=zc
 t5:=Tryz.underlying5
 a5:=Tryz.isAgg5
 z5:=Tryz.sizeOf5
 v5:=Tryz.zeroValue5
 infoByte:=zc
 cellsByte:=zc
 sizeByte:=zc
 neB5:=by decide }
end Go.Proofs
namespace Go.Proofs.YtieoifkdobcpiaaGreatDoor
open Go.RowKit Dw
theorem itoaB_nat (l:Nat):itoaB (l:Int)=zDx l:=by
 unfold itoaB Lib.itoa zDx;rw [aC za]
 rfl
theorem digB_app {v l:Nat} (hv:v≠0) (hl:l<10000):zDx (v*10000+l)=zDx v++(⟨(zer (4 - (zDx l).size)).toArray⟩++zDx l):=by
 apply ba_ext
 rw [data_app,data_app,digB_list,digB_list,digB_list,dig_snoc4 hv hl,zDA];simp [pad4]
theorem digB_lenT {n k:Nat} (h:(zAc BT n).length≤k):(zDx n).size≤4*k+1:=by
 rw [zDA];have h1:=zBp zAW n
 have h3:BT ^ (zAc BT n).length≤10 ^ (4*k):=by
  rw [Nat.pow_mul];exact dI (dU (show BT≤10 ^ 4 by decide) _) (bY zd h)
 exact (dig_len n (4*k+1) za).2 (dL h1 (dI h3 (bY zd za)))
theorem repeat_c (k:Nat) (w:World) (hk:k≤4):Calls Tryz.prog 145 #[.string ⟨#[48]⟩,.int .i64 (k:Int)] w (zAe (.string ⟨(zer k).toArray⟩) w):=by
 have h:=Any.strings_Repeat Tryz.lays105 Tryz.Builder_Extra_105 ⟨#[48]⟩ k w za (by show 1*k≤_;omega)
 change Calls Tryz.prog 145 _ _ _ at h
 have e:Lib.repeatL (⟨#[48]⟩:BA).data.toList k=zer k:=by
  have:=Lib.repeatL_replicate 48 1 k;rw [cA] at this;exact this
 rw [e] at h;exact h.mono fun _ _ ⟨he,hw⟩=>⟨he,hw⟩
def DgR (w:World) (L:List Nat) (m:Nat) (sv iv:Value) (wr:World):Prop :=
 ∃ z:Int,z=(m:Int) - 1∧m<L.length∧iv = .int .i64 z∧sv = .string (zDx (zAf BT (L.drop m)))∧Below w.heap.size w wr
theorem digitsL_zero (A:Option Addr) (c:Nat) (w:World):Calls Tryz.prog 104 #[lmV A c 0] w (zAe (.string (zDx 0)) w):=by
 rw [digB_zero]
 go_enter Tryz.func104,Tryz.ntmps104
 go_wp2;go_ret
 exact zAe.mk rfl (aS _ _)
theorem drop_last {L:List Nat} {k:Nat} (h:k<L.length) (hk:k+1=L.length):zAf BT (L.drop k)=L[k]:=by
 rw [zCQ h,List.drop_eq_nil_of_le za]
 show L[k]+BT*0=_
 rw [bT,cZ]
theorem digitsL_c (A:Option Addr) (c n:Nat) (w:World) (h:Lt w A c n) (hn:(zAc BT n).length≤100000000) (hP:POK w):Calls Tryz.prog 104 #[lmV A c n] w (zAe (.string (zDx n)) w):=by
 by_cases h0:n=0
 ·subst h0
  exact digitsL_zero A c w
 have hl:=pos_lenT (n:=n) za;obtain ⟨b,o,rfl,hb0,hc⟩:=h.rd.at_ hl;have HRD:=zq h.rd;have HWL:=zq (zAK zAW n);have HDP:Hid (∀ i,i<(zAc BT n).length→zAf BT ((zAc BT n).drop i)≠0):=fun i hi=>drop_pos hi
 have HV:Hid (zAf BT (zAc BT n)=n):=zAl zAW n
 have HSZ:Hid (∀ i,(zDx (zAf BT ((zAc BT n).drop i))).size≤400000001):=fun i=>by
  refine digB_lenT (k:=100000000) ?_
  refine dI (zAt zAW ?_) hn
  rcases aU i (zAc BT n).length with hi | hi
  ·have h1:=zCo BT i (zAc BT n) za
   rw [zAl zAW] at h1;have h2:1*zAf BT ((zAc BT n).drop i)≤BT ^ i*zAf BT ((zAc BT n).drop i):=aP _ (Nat.pow_pos BT_pos);omega
  ·rw [List.drop_eq_nil_of_le hi];exact bF _
 unfold lmV;generalize zAc BT n=L at *;obtain ⟨k,hk⟩:∃ k,k+1=L.length:=⟨L.length - 1,za⟩;have hkl:k<L.length:=za;have hc1:=hc k hkl;have hlk:L[k]<10000:=HWL.o _ (aJ hkl);have hle:(L.length:Int) - 1=(k:Int):=za;have hlb:((L.length:Int) == 0)=false:=by simp;intro e;rw [e] at hl;simp at hl
 have HI1:=zq (itoa_c (L[k]:Int) w za za hP);have HDL:=zq (drop_last hkl hk);have HP:=zq hP;have HK:=zq hk;clear h hc hk hP h0 hlk
 go_enter Tryz.func104,Tryz.ntmps104
 go_wp2_with fail
 with_reducible refine HI1.o.mono ?_
 rintro e w1 ⟨rfl,hb1⟩;have HB1:=zq hb1;clear hb1 HI1 hc1;go_wp2
 go_loopg [3,4] k (DgR w L)
 case atStart=>exact ⟨(k:Int) - 1,rfl,hkl,by rw [show (L.length:Int) - 2=(k:Int) - 1 by have:=HK.o;omega],by rw [HDL.o,itoaB_nat],HB1.o⟩
 case round =>
  obtain ⟨z,hz,hm,rfl,rfl,hb⟩:=hrel;have HB:=zq hb;clear hb
  rcases bR gk with hg | hg
  ·subst hg
   obtain rfl:z = -1:=za;clear hz;go_wp2;go_ret
   exact zAe.mk (by rw [dF,HV.o];rfl) HB.o
  ·obtain ⟨j,rfl⟩:∃ j,gk=j+1:=⟨gk - 1,za⟩
   obtain rfl:z=(j:Int):=za;have hjl:j<L.length:=za;obtain ⟨b',o',e1,hb2,hc2⟩:=(HRD.o.below HB.o).at_ za
   injection e1 with e1
   injection e1 with e1 e2 _
   subst e1;subst e2;have hc3:=hc2 j hjl;have hlj:L[j]<10000:=HWL.o _ (aJ hjl);have HI2:=zq (itoa_c (L[j]:Int) wr za za (HP.o.below HB.o));have hs1:(zDx L[j]).size≤4:=by rw [zDA];exact dig4 hlj
   have HDS:Hid (zDx (zAf BT (L.drop j))=zDx (zAf BT (L.drop (j+1)))++(⟨(zer (4 - (zDx L[j]).size)).toArray⟩++zDx L[j])):=by
    show _=_
    rw [zCQ hjl,←digB_app (HDP.o _ hm) hlj,BT_eq]
    congr 1
    omega
   rw [itoaB_nat] at HI2;have hs3:=HSZ.o (j+1);generalize zDx (zAf BT (L.drop (j+1)))=s1 at *;generalize zDx L[j]=s2 at *;have hzl:(⟨(zer (4 - s2.size)).toArray⟩:BA).size=4 - s2.size:=by show (zer (4 - s2.size)).toArray.size=_;simp [zer]
   have HRP:=zq (fun W=>repeat_c (4 - s2.size) W za)
   have hcs:((4 - s2.size:Nat):Int)=4 - (s2.size:Int):=za;rw [hcs] at HRP;have ca1:=cat_big ⟨(zer (4 - s2.size)).toArray⟩ s2 (by rw [hzl];omega)
   have ca2:=cat_big s1 (⟨(zer (4 - s2.size)).toArray⟩++s2) (by rw [ByteArray.size_append,hzl];omega)
   clear hc2 hlj hz;generalize (⟨(zer (4 - s2.size)).toArray⟩:BA)=sz at *
   go_wp2_with fail
   with_reducible refine HI2.o.mono ?_
   rintro e w2 ⟨rfl,hb3⟩;have HB3:=zq (zAa HB.o hb3);clear hb3 HI2 hc3
   go_wp2_with fail
   with_reducible refine (HRP.o _).mono ?_
   rintro e w3 ⟨rfl,hb4⟩;have HB4:=zq (zAa HB3.o hb4);clear hb4;go_wp2
   go_roundg j
   case measure=>omega
   case rel=>exact ⟨(j:Int) - 1,rfl,za,zi,by rw [HDS.o],HB4.o⟩
end Go.Proofs.YtieoifkdobcpiaaGreatDoor
namespace Go.Proofs.YtieoifkdobcpiaaGreatDoor
open Dw
theorem den_mk {n:Int} {d:Nat} (hd:d≠0):(mkRat n d).den∣d:=by
 rw [Rat.den_mkRat,aC hd];exact Nat.div_dvd_of_dvd (Nat.gcd_dvd_left _ _)
theorem as_mk {a:Rat} {M:Nat} (hM:M≠0) (h:a.den∣M):∃ x:Int,a=mkRat x M:=by
 obtain ⟨k,rfl⟩:=h;have hk:k≠0:=fun e=>hM (by rw [e,bT])
 refine ⟨a.num*k,?_⟩
 conv=>lhs;rw [←Rat.mkRat_self a]
 rw [Rat.mkRat_eq_iff a.den_nz hM]
 push_cast
 grind
theorem den_add {a b:Rat} {M:Nat} (hM:M≠0) (ha:a.den∣M) (hb:b.den∣M):(a+b).den∣M:=by
 obtain ⟨x,rfl⟩:=as_mk hM ha;obtain ⟨y,rfl⟩:=as_mk hM hb
 have:mkRat x M+mkRat y M=mkRat (x+y) M:=by
  rw [Rat.mkRat_add_mkRat _ _ hM hM,Rat.mkRat_eq_iff (fA hM hM) hM]
  push_cast
  grind
 rw [this];exact den_mk hM
theorem den_neg (a:Rat):(-a).den=a.den:=rfl
theorem den_sub {a b:Rat} {M:Nat} (hM:M≠0) (ha:a.den∣M) (hb:b.den∣M):(a - b).den∣M:=by
 have:a - b=a + -b:=by grind
 rw [this];exact den_add hM ha (by rw [den_neg];exact hb)
theorem den_mul {a b:Rat}:(a*b).den∣a.den*b.den:=by
 have h:a*b=mkRat (a.num*b.num) (a.den*b.den):=by
  conv=>lhs;rw [←Rat.mkRat_self a,←Rat.mkRat_self b]
  rw [Rat.mkRat_mul_mkRat]
 rw [h];exact den_mk (fA a.den_nz b.den_nz)
structure HoldB (N:List BA) (M:Nat) (f:zBm):Prop where
 ok:HoldOk N f
 nd:N.Nodup
 sum:zBQ N f≤1
 den:∀ p,(f p).den∣M
 nz:M≠0
theorem sum_ge {N:List BA} {f:zBm} (h:∀ p,0≤f p):0≤zBQ N f:=by
 induction N with
 | nil=>exact Rat.le_refl
 | cons a N ih=>rw [zBb];have:=h a;grind
theorem le_sum {N:List BA} {f:zBm} (h:∀ p,0≤f p) {p:BA} (hp:p∈N):f p≤zBQ N f:=by
 induction N with
 | nil=>cases hp
 | cons a N ih =>
  rw [zBb]
  rcases List.mem_cons.1 hp with rfl | hp
  ·have:=sum_ge (N:=N) h;grind
  ·have:=ih hp;have:=h a;grind
theorem HoldB.le {N:List BA} {M:Nat} {f:zBm} (h:HoldB N M f) (p:BA):f p≤1:=by
 by_cases hp:p∈N
 ·have:=le_sum h.ok.pos hp;have:=h.sum;grind
 ·rw [h.ok.out p hp];decide
theorem HoldB.num {N:List BA} {M:Nat} {f:zBm} (h:HoldB N M f) (p:BA):(f p).num.natAbs≤M∧(f p).den≤M:=by
 have h1:=(Rat.le_iff (f p) 1).1 (h.le p);have h2:=Rat.num_nonneg.2 (h.ok.pos p);have h3:=Nat.le_of_dvd (eH h.nz) (h.den p);have h4:(f p).num≤(f p).den:=j0;omega
def denP (l:List Sh):Nat:=l.foldr (fun s n=>zAz s.de*n) 1
theorem denP_dvd {l:List Sh} {s:Sh} (h:s∈l):zAz s.de∣denP l:=by
 induction l with
 | nil=>cases h
 | cons a l ih =>
  show _∣zAz a.de*denP l
  rcases List.mem_cons.1 h with rfl | h
  ·exact Nat.dvd_mul_right _ _
  ·exact fB (ih h) (Nat.dvd_mul_left _ _)
theorem denP_nz {l:List Sh} (h:∀ s∈l,0<zAz s.de):denP l≠0:=by
 induction l with
 | nil=>decide
 | cons a l ih =>
  show zAz a.de*denP l≠0
  have:=h a aX;exact fA za (ih fun s hs=>h s (aW _ hs))
theorem denP_lt {l:List Sh} (h:∀ s∈l,zAz s.de<10 ^ 2000):denP l<10 ^ (2000*l.length+1):=by
 induction l with
 | nil=>decide
 | cons a l ih =>
  show zAz a.de*denP l<_
  have h1:=h a aX;have h2:=ih fun s hs=>h s (aW _ hs)
  have e:2000*(a::l).length+1=2000+(2000*l.length+1):=by rw [aY];omega
  obtain ⟨u,hu⟩:∃ u,u=2000:=⟨_,rfl⟩;rw [e,dB];rw [←hu] at h1 h2 ⊢
  rcases bR (denP l) with h0 | h0
  ·rw [h0,bT]
   exact dN (Nat.pow_pos zd) (Nat.pow_pos zd)
  ·exact Nat.mul_lt_mul'' h1 h2
theorem shSum_app (l m:List Sh):zBW (l++m)=zBW l+zBW m:=by
 induction l with
 | nil=>show zBW m=0+zBW m;grind
 | cons a l ih=>show shQ a+zBW (l++m)=shQ a+zBW l+zBW m;rw [ih];grind
theorem shSum_pos (l:List Sh):0≤zBW l:=by
 induction l with
 | nil=>exact Rat.le_refl
 | cons a l ih=>show 0≤shQ a+zBW l;have:=shQ_pos a;grind
theorem shSum_take (l:List Sh) (j:Nat):zBW (l.take j)≤zBW l:=by
 have h:=shSum_app (l.take j) (l.drop j);rw [bQ] at h;have:=shSum_pos (l.drop j)
 grind
theorem shQ_den {s:Sh} (h:0<zAz s.de):(shQ s).den∣zAz s.de:=den_mk za
theorem HoldB.more {N K:List BA} {M:Nat} {f:zBm} (h:HoldB N M f) (hk:K.Nodup) (hs:∀ p∈N,p∈K):HoldB K M f :=
 ⟨h.ok.mono hs,hk,by rw [sum_mono hk h.nd (h.ok.mono hs) h.ok];exact h.sum,h.den,h.nz⟩
theorem mul_le {a q:Rat} (ha:0≤a) (h1:a≤1) (hq0:0≤q) (hq:q≤1):0≤a*q∧a*q≤1:=by
 have h2:=eZ hq ha;have h3:=Rat.mul_nonneg ha hq0
 grind
theorem HoldB.passMid {N:List BA} {M:Nat} {f:zBm} {fr:BA} {l:List Sh} (h:HoldB N M f) (hf:fr∈N) (hl:∀ s∈l,s.pt∈N) (hd:∀ s∈l,0<zAz s.de) (h1:zBW l=1):∀ j,j≤l.length →
  HoldB N (M*denP l) (zBG (f fr) (l.take j) (upH f fr 0)):=fun j hj=>by
 have hz:=denP_nz hd;have hM:=fA h.nz hz;have hl':∀ s∈l.take j,s.pt∈N:=fun s hs=>hl s (bZ hs)
 have k0:HoldOk N (upH f fr 0):=h.ok.up hf Rat.le_refl;refine ⟨HoldOk.pass (h.ok.pos fr) _ _ k0 hl',h.nd,?_,?_,hM⟩
 ·rw [sumF_pass h.nd _ _ _ hl',sumF_up h.nd hf]
  have a:=shSum_take l j;have b:=h.sum;have c:=eZ (show zBW (l.take j)≤1 by grind) (h.ok.pos fr)
  grind
 ·have key:∀ (m:List Sh) (g:zBm),(∀ s∈m,s∈l)→(∀ p,(g p).den∣M*denP l)→∀ p,(zBG (f fr) m g p).den∣M*denP l:=fun m=>by
   induction m with
   | nil=>exact fun g _ hg=>hg
   | cons s m ih =>
    intro g hs hg;refine ih (upH g s.pt (g s.pt+f fr*shQ s)) (fun t ht=>hs t (aW _ ht)) fun p=>?_
    by_cases hp:p=s.pt
    ·subst hp
     rw [zBI];refine den_add hM (hg _) (fB den_mul (Nat.mul_dvd_mul (h.den fr) ?_))
     have hsl:=hs s aX;exact fB (shQ_den (hd s hsl)) (denP_dvd hsl)
    ·rw [zAN _ _ hp];exact hg p
  refine key _ _ (fun s hs=>bZ hs) fun p=>?_
  by_cases hp:p=fr
  ·subst hp;rw [zBI];exact Nat.one_dvd _
  ·rw [zAN _ _ hp];exact fB (h.den p) (Nat.dvd_mul_right _ _)
theorem HoldB.giveMid {N:List BA} {M:Nat} {f:zBm} {d:De} (h:HoldB N M f) (hf:d.fr∈N) (hq:zCX d.nu d.de≤1) (hd:0<zAz d.de) :
  HoldB N (M*zAz d.de) (upH f d.fr (f d.fr - f d.fr*zCX d.nu d.de))∧(f d.fr*zCX d.nu d.de).den∣M*zAz d.de:=by
 have hM:=fA h.nz (show zAz d.de≠0 by omega)
 have hx:(f d.fr*zCX d.nu d.de).den∣M*zAz d.de:=fB den_mul (Nat.mul_dvd_mul (h.den _) (den_mk za));have hp:=mul_le (h.ok.pos d.fr) (h.le d.fr) (zEl d.nu d.de) hq;refine ⟨⟨h.ok.up hf (part_le (h.ok.pos _) hq),h.nd,?_,fun p=>?_,hM⟩,hx⟩
 ·rw [sumF_up h.nd hf]
  have:=h.sum
  grind
 ·by_cases hpp:p=d.fr
  ·subst hpp
   rw [zBI];exact den_sub hM (fB (h.den _) (Nat.dvd_mul_right _ _)) hx
  ·rw [zAN _ _ hpp];exact fB (h.den p) (Nat.dvd_mul_right _ _)
theorem HoldB.give {N:List BA} {M:Nat} {f:zBm} {d:De} (h:HoldB N M f) (hf:d.fr∈N) (ht:d.to_∈N) (hq:zCX d.nu d.de≤1) (hd:0<zAz d.de):HoldB N (M*zAz d.de) (giveF d f):=by
 obtain ⟨h1,hx⟩:=h.giveMid hf hq hd;refine ⟨h.ok.give d hf ht hq,h.nd,by rw [sumF_give h.nd d f hf ht];exact h.sum,fun p=>?_,h1.nz⟩
 unfold giveF
 by_cases hp:p=d.to_
 ·subst hp
  rw [zBI];exact den_add h1.nz (h1.den _) hx
 ·rw [zAN _ _ hp];exact h1.den p
def growD (d:De):Nat:=if d.kd=5 then denP d.sh else zAz d.de
theorem HoldB.take {N:List BA} {M:Nat} {f:zBm} {d:De} (h:HoldB N M f) (hp:ParOk d) (hk:d.kd=2∨d.kd=5) (hf:d.fr∈N) (ht:d.kd≠5→d.to_∈N) (hl:d.kd=5→∀ s∈d.sh,s.pt∈N):HoldB N (M*growD d) (zCY d f):=by
 unfold growD zCY
 rcases hk with hk | hk
 ·obtain ⟨a,b,c,_⟩:=hp.asg hk
  rw [aC za,aC za];exact h.give hf (ht za) c (zBO a)
 ·obtain ⟨a,b,_⟩:=hp.pas hk
  rw [aE hk,aE hk];have:=h.passMid hf (hl hk) (fun s hs=>zBO (a.rat s hs)) b d.sh.length (aB _)
  rwa [bX] at this
theorem valS_lt {s:BA} (h:zCR s=true) (hs:s.size≤2000):zAz s<10 ^ 2000:=by
 have h1:=decV_lt (l:=s.data.toList) fun c hc=>by
  have:=(zDP c).1 (List.all_eq_true.1 (zAQ h).1 c hc);omega
 obtain ⟨q,hq⟩:∃ q,q=2000:=⟨_,rfl⟩;rw [←hq] at hs ⊢;refine dL h1 (bY za ?_)
 rw [←Lib.size_eq];exact hs
theorem ratF_lt {nu de:BA} (h:zDq nu de=0):zAz de<10 ^ 2000:=by
 obtain ⟨_,h2,_,_,h5⟩:=zCe h;exact valS_lt h2 h5
theorem shs_le {k:Int} {l:List Sh} (h:shF k l=0):zBW l≤1:=by
 obtain ⟨h1,h2,_⟩:=shF_ok h;obtain ⟨p1,p2⟩:=sumP_toQ (fun s hs=>zBO (h1.rat s hs)) l.length (aB _)
 rw [bX] at p2;rw [←p2];exact toQ_le p1 h2
theorem chkD_sh {rs:List Rg} {us:List BA} {pre:List De} {d:De} (h:chkD rs us pre d=0) (hk:d.kd=1∨d.kd=5):shF d.kd d.sh=0:=by
 unfold chkD at h
 have hg:zAh d.kd=false:=by
  unfold zAh
  rcases hk with e | e<;>rw [e]<;>rfl
 rw [hg] at h
 split at h
 ·cases h
 split at h
 ·cases h
 split at h
 ·cases h
 split at h
 ·cases h
 split at h
 ·cases h
 split at h
 ·cases h
 split at h
 ·next h1=>cases h1
 split at h
 ·omega
 unfold divF at h
 split at h
 ·cases h
 split at h
 ·cases h
 split at h
 ·next h1=>exact absurd h h1
 next h1=>simpa using h1
theorem title_sh {rs:List Rg} {us:List BA} {ds:List De} (h:zCI rs us ds=0):∀ d∈ds,(d.kd=1∨d.kd=5)→shF d.kd d.sh=0:=fun d hd hk=>by
 obtain ⟨k,hk',rfl⟩:=aK hd;exact chkD_sh ((zAZ h).2 k hk') hk
theorem growD_lt {d:De} (hp:ParOk d) (hl:d.sh.length≤20) (hk:d.kd=2∨d.kd=5):growD d<10 ^ 40001:=by
 unfold growD
 rcases hk with hk | hk
 ·rw [aC za]
  have h9:=ratF_lt (hp.asg hk).1;obtain ⟨a,ha⟩:∃ a,a=2000:=⟨_,rfl⟩;obtain ⟨b,hb⟩:∃ b,b=40001:=⟨_,rfl⟩;rw [←ha] at h9;rw [←hb];exact dL h9 (bY za za)
 ·rw [aE hk]
  obtain ⟨b,hb⟩:∃ b,b=40001:=⟨_,rfl⟩;rw [←hb];exact dL (denP_lt fun s hs=>ratF_lt ((hp.pas hk).1.rat s hs)) (bY za za)
theorem put_den:∀ (l:List Sh) (f:zBm) (M:Nat),M≠0→(∀ p,(f p).den∣M)→(∀ s∈l,(shQ s).den∣M)→∀ p,(zAk l f p).den∣M
 | [],_,_,_,hf,_=>hf
 | s::l,f,M,hM,hf,hs=>put_den l (upH f s.pt (shQ s)) M hM (fun p=>by
   by_cases hp:p=s.pt
   ·subst hp;rw [zBI];exact hs s aX
   ·rw [zAN _ _ hp];exact hf p) fun t ht=>hs t (aW _ ht)
theorem start_bound {rs:List Rg} {us:List BA} {ds:List De} (h:zCI rs us ds=0) (th:BA) (day:Int):∃ M,HoldB (zDY th day ds) M (zDv th day ds)∧M<10 ^ 40001:=by
 obtain ⟨s1,s2⟩:=start_ok th day ds [] (fun _=>0) List.Pairwise.nil hold_none
 rcases start_one (th:=th) (day:=day) ds (title_org h) with ⟨a,_⟩ | ⟨d,hd,a,b,_⟩
 ·refine ⟨1,⟨s2,s1.nodup,?_,?_,zd⟩,by obtain ⟨b,hb⟩:∃ b,b=40001:=⟨_,rfl⟩;rw [←hb];exact Nat.one_lt_pow za zd⟩
  ·show zBQ _ (zDv th day ds)≤1
   rw [a,sumF_zero];decide
  ·intro p
   show ((zDv th day ds) p).den∣1
   rw [a];exact Nat.dvd_refl _
 ·obtain ⟨k1,_,_⟩:=zDf.1 a
  have ho:=((zBU h d hd).org k1).1;have hsh:=title_sh h d hd (.inl k1);have hz:=denP_nz fun s hs=>zBO (ho.rat s hs)
  refine ⟨denP d.sh,⟨s2,s1.nodup,?_,?_,hz⟩,?_⟩
  ·show zBQ (ds.foldl (zAJ th day) []) (zDv th day ds)≤1
   rw [b,sumF_put s1.nodup d.sh (fun _=>0) (fun s hs=>(keys_start ds []).2 d hd a s hs) ho.nd (fun _ _=>rfl),sumF_zero]
   have:=shs_le hsh
   grind
  ·intro p
   show ((zDv th day ds) p).den∣_
   rw [b];exact put_den d.sh _ _ hz (fun p=>Nat.one_dvd _) (fun s hs=>fB (shQ_den (zBO (ho.rat s hs))) (denP_dvd hs)) p
  ·obtain ⟨b,hb⟩:∃ b,b=40001:=⟨_,rfl⟩
   rw [←hb];exact dL (denP_lt fun s hs=>ratF_lt (ho.rat s hs)) (bY za (by have:=shF_len hsh;omega))
theorem zCE (d:De) {K:List BA}:(∀ p∈K,p∈zAw d K)∧d.fr∈zAw d K∧(d.kd≠5→d.to_∈zAw d K)∧(d.kd=5→∀ s∈d.sh,s.pt∈zAw d K):=by
 unfold zAw;refine ⟨fun p hp=>?_,?_,fun hk=>?_,fun hk s hs=>?_⟩
 ·split
  ·exact (zAX _).2 (.inr (zAP.2 (.inr hp)))
  ·exact zAP.2 (.inr (zAP.2 (.inr hp)))
 ·split
  ·exact (zAX _).2 (.inr (zAP.2 (.inl rfl)))
  ·exact zAP.2 (.inr (zAP.2 (.inl rfl)))
 ·rw [aC hk]
  exact zAP.2 (.inl rfl)
 ·rw [aE hk]
  exact (zAX _).2 (.inl ⟨s,hs,rfl⟩)
theorem movB_kd {rs:List Rg} {ds:List De} {i:Nat} {th use:BA} {day:Int} {d:De} (h:zDO rs ds i th use day d=true):d.kd=2∨d.kd=5:=by
 unfold zDO at h
 split at h
 ·next h1=>exact .inl h1
 ·split at h
  ·next h2=>exact .inr h2
  ·cases h
theorem take_snoc {l:List De} {k:Nat} (hk:k<l.length):l.take (k+1)=l.take k++[l[k]]:=bM hk
theorem zDH (rs:List Rg) {ds:List De} (i:Nat) (th use:BA) (day:Int) {n:Nat} (hn:n<ds.length) :
  zAH rs ds i th use day (n+1)=stepF (zDO rs ds i th use day) (zAH rs ds i th use day n) ds[n]∧zBD rs ds i th use day (n+1)=zBd (zDO rs ds i th use day) (zBD rs ds i th use day n) ds[n]:=by
 unfold zAH zBD;rw [take_snoc hn,bU,bU];exact ⟨rfl,rfl⟩
theorem zCy {rs:List Rg} {us:List BA} {ds:List De} (h:zCI rs us ds=0) (i:Nat) (th use:BA) (day:Int):∀ n,n≤ds.length→∃ M,HoldB (zBD rs ds i th use day n) M (zAH rs ds i th use day n)∧M<10 ^ (40001*(n+1))
 | 0,_=>by
  obtain ⟨M,h1,h2⟩:=start_bound h th day;exact ⟨M,by simpa [zBD,zAH] using h1,by rw [aQ,cA];exact h2⟩
 | n+1,hn=>by
  obtain ⟨M,h1,h2⟩:=zCy h i th use day n za;obtain ⟨e1,e2⟩:=zDH rs i th use day (show n<ds.length by omega)
  have hd:=aJ (show n<ds.length by omega)
  rw [e1,e2];generalize ds[n]=d at hd;obtain ⟨k1,_,_⟩:=zDI h i th use day n
  cases hm:zDO rs ds i th use day d with
  | false =>
   have g1:zBd (zDO rs ds i th use day) (zBD rs ds i th use day n) d=zBD rs ds i th use day n:=by unfold zBd;rw [hm];rfl
   have g2:stepF (zDO rs ds i th use day) (zAH rs ds i th use day n) d=zAH rs ds i th use day n:=by unfold stepF;rw [hm];rfl
   rw [g1,g2];exact ⟨M,h1,dL h2 (bY za za)⟩
  | true =>
   have g1:zBd (zDO rs ds i th use day) (zBD rs ds i th use day n) d=zAw d (zBD rs ds i th use day n):=by unfold zBd;rw [hm];rfl
   have g2:stepF (zDO rs ds i th use day) (zAH rs ds i th use day n) d=zCY d (zAH rs ds i th use day n):=by unfold stepF;rw [hm];rfl
   rw [g1,g2];obtain ⟨m1,m2,m3,m4⟩:=zCE d (K:=zBD rs ds i th use day n);have hpar:=zBU h d hd
   have hl:d.sh.length≤20:=by
    obtain ⟨k,hk,e⟩:=aK hd;have:=(zDT ((zAZ h).2 k hk) (zAZ h).1).2.2
    rwa [e] at this
   refine ⟨M*growD d,(h1.more (zDc d k1).nodup m1).take hpar (movB_kd hm) m2 m3 m4,?_⟩
   have:=growD_lt hpar hl (movB_kd hm);have e3:40001*(n+1+1)=40001*(n+1)+40001:=za;rw [e3,dB];exact Nat.mul_lt_mul'' h2 this
def zCT (K:List BA) (f:zBm):List (BA×Rat):=K.map fun q=>(q,f q)
def withR (p:BA) (x:Rat):Bool→List (BA×Rat)→List (BA×Rat)
 | done,[]=>if done=true then [] else [(p,x)]
 | done,a::l=>((if (!done&&sle p a.1)=true then [(p,x)] else [])++(if a.1=p then [] else [a]))++withR p x (done || sle p a.1) l
theorem sle_of_slt {a b:BA} (h:slt a b=true):sle a b=true:=by unfold sle slt at *;rw [h];rfl
theorem sle_self (a:BA):sle a a=true:=by unfold sle;simp
theorem sle_false {a b:BA} (h:slt b a=true):sle a b=false:=by
 cases hs:sle a b with
 | false=>rfl
 | true =>
  exfalso
  have h3:(slt a b || a.toList == b.toList)=true:=hs
  rw [Bool.or_eq_true] at h3
  rcases h3 with h3 | h3
  ·have:=zEb h h3
   rw [slt_irr] at this
   cases this
  ·rw [str_eq h3,slt_irr] at h
   cases h
theorem withR_done (p:BA) (x:Rat) (f:zBm):∀ (K:List BA),(∀ q∈K,slt p q=true)→withR p x true (zCT K f)=zCT K (upH f p x)
 | [],_=>rfl
 | a::K,h=>by
  have ha:=h a aX;have hne:a≠p:=fun e=>by rw [e,slt_irr] at ha;cases ha
  have ih:=withR_done p x f K fun q hq=>h q (aW _ hq)
  show ((if (!true&&sle p a)=true then [(p,x)] else [])++(if a=p then [] else [(a,f a)]))++withR p x (true || sle p a) (zCT K f)=(a,upH f p x a)::zCT K (upH f p x)
  rw [Bool.true_or,ih,aC hne,zAN f x hne]
  rfl
theorem withR_eq (p:BA) (x:Rat) (f:zBm):∀ {K:List BA},IncN K→withR p x false (zCT K f)=zCT (zDW p K) (upH f p x)
 | [],_=>by
  show [(p,x)]=[(p,upH f p x p)]
  rw [zBI]
 | a::K,h=>by
  obtain ⟨h1,h2⟩:=List.pairwise_cons.1 h
  show ((if (!false&&sle p a)=true then [(p,x)] else [])++(if a=p then [] else [(a,f a)]))++withR p x (false || sle p a) (zCT K f)=_
  unfold zDW
  by_cases ha:a=p
  ·subst ha
   rw [sle_self,aE rfl,aE rfl,eR,withR_done a x f K h1]
   show (a,x)::zCT K (upH f a x)=(a,upH f a x a)::zCT K (upH f a x)
   rw [zBI]
  ·rw [aC ha,aC ha]
   cases hp:slt p a with
   | true =>
    have hk:∀ q∈K,slt p q=true:=fun q hq=>zEb hp (h1 q hq)
    rw [sle_of_slt hp,aE rfl,eR,withR_done p x f K hk]
    show (p,x)::(a,f a)::zCT K (upH f p x)=(p,upH f p x p)::(a,upH f p x a)::zCT K (upH f p x)
    rw [zBI,zAN f x ha]
   | false =>
    have hap:slt a p=true:=slt_of_ne ha hp;rw [sle_false hap,aC ze,eR,withR_eq p x f h2,aC ze]
    show (a,f a)::zCT (zDW p K) (upH f p x)=(a,upH f p x a)::zCT (zDW p K) (upH f p x)
    rw [zAN f x ha]
def findQ (l:List (BA×Rat)) (p:BA):Rat:=match l.find? fun a=>decide (a.1=p) with
 | some a=>a.2
 | none=>0
theorem findQ_pairs {K:List BA} {f:zBm} (h:HoldOk K f) (p:BA):findQ (zCT K f) p=f p:=by
 unfold findQ zCT;rw [List.find?_map]
 cases hf:K.find? ((fun a:BA×Rat=>decide (a.1=p)) ∘ fun q=>(q,f q)) with
 | some q =>
  have:=List.find?_some hf;have e:q=p:=by simpa using this
  rw [e];rfl
 | none =>
  have:p∉K:=fun hp=>by
   have:=List.find?_eq_none.1 hf p hp;simp at this
  rw [h.out p this];rfl
def zDm (K:List BA) (f:zBm):Bool:=K.any fun p=>zCK (f p)
def zCl (rs:List Rg) (ds:List De) (i:Nat) (th use:BA) (day:Int) (n:Nat):Bool:=(List.range n).any fun k=>zDm (zBD rs ds i th use day (k+1)) (zAH rs ds i th use day (k+1))
end Go.Proofs.YtieoifkdobcpiaaGreatDoor
