/- The reference's parts. -/
import Derived.Test.YtieoifkdobcpiaaGreatDoorSm39
set_option maxRecDepth 100000
set_option maxHeartbeats 8000000
namespace Go.Proofs.YtieoifkdobcpiaaGreatDoor
open Go.RowKit Dw
def GivesPR (lo:Bool) (K:List BA) (f:zBm) (w:World) (e:Ending) (w':World):Prop:=∃ A c n,e = .returned (.tuple #[.slice A n c,.bool lo])∧HoS w' (.slice A n c) K f∧Below w.heap.size w w'
def PrA (W:World) (th:BA) (day:Int) (ds:List De) (m:Nat) (lv iv:Value) (wr:World):Prop :=
 ∃ (k:Nat) (v:Value),v=lv∧k+m=ds.length∧iv = .int .i64 (k:Int)∧HoS wr v ((ds.take k).foldl (zAJ th day) []) ((ds.take k).foldl (orgF th day) (fun _=>0))∧Below W.heap.size W wr
def PrB (W:World) (K:List BA) (F:zBm) (l:List Sh) (m:Nat) (lv iv:Value) (wr:World):Prop :=
 ∃ (j:Nat) (v:Value),v=lv∧j+m=l.length∧iv = .int .i64 (j:Int)∧HoS wr v (zBk (l.take j) K) (zAk (l.take j) F)∧Below W.heap.size W wr
def PrC (W:World) (rs:List Rg) (ds:List De) (i:Nat) (th use:BA) (day:Int) (n m:Nat) (lv gv iv:Value) (wr:World):Prop :=
 ∃ (k:Nat) (v:Value),v=lv∧k+m=n∧iv = .int .i64 (k:Int)∧gv = .bool (zCl rs ds i th use day k)∧HoS wr v (zBD rs ds i th use day k) (zAH rs ds i th use day k)∧Below W.heap.size W wr
def PrD (W:World) (K:List BA) (f:zBm) (d:De) (x:Rat) (m:Nat) (lv iv:Value) (wr:World):Prop :=
 ∃ (j:Nat) (v:Value),v=lv∧j+m=d.sh.length∧iv = .int .i64 (j:Int)∧HoS wr v (zBk (d.sh.take j) K) (zBG x (d.sh.take j) f)∧Below W.heap.size W wr
def PrE (W:World) (lo:Bool) (P:List (BA×Rat)) (m:Nat) (gv iv:Value) (wr:World):Prop :=
 ∃ (j:Nat) (lb:Bool),j+m=P.length∧iv = .int .i64 (j:Int)∧gv = .bool lb∧lb=(lo || (P.take j).any fun x=>zCK x.2)∧Below W.heap.size W wr
def PrF (W:World) (P:List (BA×Rat)) (m:Nat) (ov iv:Value) (wr:World):Prop :=
 ∃ (j:Nat) (v:Value) (lo:List Ho),v=ov∧j+m=P.length∧iv = .int .i64 (j:Int)∧OwnH wr W.heap.size v lo∧HoOk W lo∧lo.length≤j∧prH lo=(P.take j).filter (fun x=>decide (x.2≠0))∧Below W.heap.size W wr
theorem keysAll_succ (K:List BA) {l:List Sh} {j:Nat} (h:j<l.length):zBk (l.take (j+1)) K=zDW l[j].pt (zBk (l.take j) K):=by
 unfold zBk;rw [bM h,bU]
 rfl
theorem org_succ (th:BA) (day:Int) (K:List BA) {ds:List De} {k:Nat} (hk:k<ds.length):(ds.take (k+1)).foldl (zAJ th day) K=zAJ th day ((ds.take k).foldl (zAJ th day) K) ds[k]:=by
 rw [take_snoc hk,bU];rfl
theorem org_len {ds:List De} (hs:∀ d∈ds,d.sh.length≤20) (hdl:ds.length≤200) (th:BA) (day:Int) (k:Nat):((ds.take k).foldl (zAJ th day) []).length≤4000:=by
 have h1:∀ (l:List De) (K:List BA),(∀ d∈l,d.sh.length≤20)→(l.foldl (zAJ th day) K).length≤K.length+20*l.length:=fun l=>by
  induction l with
  | nil=>exact fun K _=>dK _ _
  | cons d l ih =>
   intro K hd;have a:=ih (zAJ th day K d) fun e he=>hd e (aW _ he)
   have b:(zAJ th day K d).length≤K.length+20:=by
    unfold zAJ
    split
    ·have:=zDE d.sh K
     have:=hd d aX;omega
    ·omega
   show (l.foldl (zAJ th day) (zAJ th day K d)).length≤_
   rw [aY];omega
 have:=h1 (ds.take k) [] fun d hd=>hs d (bZ hd)
 have e3:(ds.take k).length≤200:=js;simp only [eF] at this;omega
theorem insN_ge (p:BA):∀ l:List BA,l.length≤(zDW p l).length
 | []=>bF _
 | a::l=>by
  unfold zDW;have:=insN_ge p l
  split
  ·exact aB _
  ·split
   ·simp
   ·simp;omega
theorem keysAll_ge:∀ (l:List Sh) (K:List BA),K.length≤(zBk l K).length
 | [],_=>aB _
 | s::l,K=>dI (insN_ge s.pt K) (keysAll_ge l (zDW s.pt K))
theorem take_ask2 {rs:List Rg} {us:List BA} {ds:List De} (h:zCI rs us ds=0) {i:Nat} {th use:BA} {day:Int} {n:Nat} (hn:n<ds.length) (hm:zDO rs ds i th use day ds[n]=true) :
  ∃ M,HoldB (zAw ds[n] (zBD rs ds i th use day n)) M (zAH rs ds i th use day n)∧SzN 10000000 (M*growD ds[n]):=by
 obtain ⟨M,h1,h2⟩:=zCy h i th use day n za;have hd:=aJ hn;obtain ⟨k1,_,_⟩:=zDI h i th use day n;have hl:(ds[n]).sh.length≤20:=(zDT ((zAZ h).2 n hn) (zAZ h).1).2.2;have hz:=zCs h;generalize ds[n]=d at *;obtain ⟨m1,_⟩:=zCE d (K:=zBD rs ds i th use day n);refine ⟨M,h1.more (zDc d k1).nodup m1,?_⟩
 have h3:=growD_lt (zBU h d hd) hl (movB_kd hm);have h4:M*growD d<10 ^ (40001*(n+1)+40001):=by rw [dB];exact Nat.mul_lt_mul'' h2 h3
 exact (szN_of h4).le (by have:=hz.2.2;omega)
theorem mul_self_le {a q:Rat} (ha:0≤a) (hq:q≤1):a*q≤a:=by
 have:=eZ hq ha
 grind
theorem sub_pos {a b:Rat} (h:b≤a):0≤a - b:=by grind
def asgB (rs:List Rg) (ds:List De) (i:Nat) (th use:BA) (day:Int) (d:De):Bool:=decide (d.kd=2)&&(decide (d.th=th)&&vB rs ds i use day d)
theorem asg_mov {rs:List Rg} {ds:List De} {i:Nat} {th use:BA} {day:Int} {d:De} (h:asgB rs ds i th use day d=true):d.kd=2∧zDO rs ds i th use day d=true:=by
 unfold asgB at h;rw [dT,dT,fD,fD] at h;refine ⟨h.1,?_⟩
 unfold zDO;rw [aE h.1,cW h.2.1,h.2.2];rfl
def passB (day:Int) (d:De):Bool:=decide (d.kd=5)&&decide (d.bg≤day)
theorem mov_pass (rs:List Rg) (ds:List De) (i:Nat) (th use:BA) (day:Int) (d:De):zDO rs ds i th use day d=(asgB rs ds i th use day d || passB day d):=by
 unfold zDO asgB passB
 by_cases h2:d.kd=2
 ·have h5:¬ d.kd=5:=by omega
  rw [aE h2,cW h2,cX h5,Bool.true_and,eB,Bool.or_false]
 ·by_cases h5:d.kd=5
  ·rw [aC h2,aE h5,cX h2,cW h5,Bool.true_and,eB,eR]
  ·rw [aC h2,aC h5,cX h2,cX h5,eB,eB];rfl
theorem pass_mov {rs:List Rg} {ds:List De} {i:Nat} {th use:BA} {day:Int} {d:De} (h:passB day d=true):d.kd=5∧zDO rs ds i th use day d=true∧asgB rs ds i th use day d=false:=by
 have h5:d.kd=5:=by
  unfold passB at h;rw [dT,fD] at h;exact h.1
 refine ⟨h5,by rw [mov_pass,h,Bool.or_true],?_⟩
 unfold asgB;rw [cX (by omega:¬ d.kd=2),eB]
theorem no_pass {rs:List Rg} {ds:List De} {i:Nat} {th use:BA} {day:Int} {d:De} {K K2:List BA} {f f2:zBm} (h:passB day d=false)
  (ht:zDO rs ds i th use day d=true→f2=zCY d f∧K2=zAw d K) (hs:zDO rs ds i th use day d=false→f2=f∧K2=K) :
  (if asgB rs ds i th use day d=true then zAw d K else K)=K2∧(if asgB rs ds i th use day d=true then zCY d f else f)=f2:=by
 cases ha:asgB rs ds i th use day d with
 | true =>
  obtain ⟨e1,e2⟩:=ht (by rw [mov_pass,ha];rfl)
  rw [aE rfl,aE rfl,e1,e2];exact ⟨rfl,rfl⟩
 | false =>
  obtain ⟨e1,e2⟩:=hs (by rw [mov_pass,ha,h];rfl)
  rw [aC ze,aC ze,e1,e2];exact ⟨rfl,rfl⟩
structure PassT (d:De) (K:List BA) (f:zBm):Prop where
 so:ShsOk d.sh
 ml:∀ s∈d.sh,0≤f d.fr*shQ s∧SzQ 10000000 (f d.fr*shQ s)
 mid:∀ j,j≤d.sh.length→IncN (zBk (d.sh.take j) (zDW d.fr K))∧HoldOk (zBk (d.sh.take j) (zDW d.fr K)) (zBG (f d.fr) (d.sh.take j) (upH f d.fr 0))∧(zBk (d.sh.take j) (zDW d.fr K)).length≤1000000∧∀ p,SzQ 10000000 (zBG (f d.fr) (d.sh.take j) (upH f d.fr 0) p)
theorem pass_facts {d:De} {K:List BA} {f:zBm} {M:Nat} (hk:d.kd=5) (hpo:ParOk d) (hh:HoldB (zAw d K) M f) (hsz:SzN 10000000 (M*growD d)) (hki:IncN K) (hko:HoldOk K f) (hlen:(zAw d K).length≤1000000):PassT d K f:=by
 obtain ⟨hso,hsum,_⟩:=hpo.pas hk;have hdz:=denP_nz fun s hs=>zBO (hso.rat s hs)
 obtain ⟨_,m2,_,m4⟩:=zCE d (K:=K);unfold growD at hsz;rw [aE hk] at hsz;have hke:zAw d K=zBk d.sh (zDW d.fr K):=by unfold zAw;rw [aE hk]
 refine ⟨hso,fun s hs=>?_,fun j hj=>⟨zDD _ hki.ins,?_,?_,fun p=>?_⟩⟩
 ·have h1:zCX s.nu s.de≤1:=by
   have:=sh_le_sum hs;rw [hsum] at this;exact this
  have h2:=mul_le (hh.ok.pos d.fr) (hh.le d.fr) (shQ_pos s) h1;exact ⟨h2.1,szQ_le h2.1 h2.2 (fB den_mul (Nat.mul_dvd_mul (hh.den _) (fB (shQ_den (zBO (hso.rat s hs))) (denP_dvd hs)))) (fA hh.nz hdz) hsz⟩
 ·exact HoldOk.pass (hko.pos d.fr) _ _ (((hko.mono fun p hp=>zAP.2 (.inr hp)).up (zAP.2 (.inl rfl)) Rat.le_refl).mono fun p hp=>(zAX _).2 (.inr hp)) fun s hs=>(zAX _).2 (.inl ⟨s,hs,rfl⟩)
 ·rw [hke] at hlen
  have e:zBk d.sh (zDW d.fr K)=zBk (d.sh.drop j) (zBk (d.sh.take j) (zDW d.fr K)):=by
   unfold zBk;rw [←bU,bQ]
  rw [e] at hlen;exact dI (keysAll_ge _ _) hlen
 ·exact (hh.passMid m2 (m4 hk) (fun s hs=>zBO (hso.rat s hs)) hsum j hj).sz hsz p
theorem hos_q {l:List Ho} {K:List BA} {f:zBm} (h:prH l=zCT K f):∀ x∈l,x.q=f x.pt:=fun x hx=>by
 have h1:(x.pt,x.q)∈prH l:=List.mem_map.2 ⟨x,hx,rfl⟩;rw [h] at h1;obtain ⟨p,_,e⟩:=List.mem_map.1 h1
 injection e with e1 e2
 rw [←e2,←e1]
theorem any_pairs (K:List BA) (f:zBm):((zCT K f).any fun x=>zCK x.2)=zDm K f:=by
 unfold zDm
 induction K with
 | nil=>rfl
 | cons a K ih=>unfold zCT at ih ⊢;rw [eG,List.any_cons,List.any_cons,ih]
theorem filter_pairs (f:zBm):∀ K:List BA,(zCT K f).filter (fun x=>decide (x.2≠0))=zCT (holL K f) f
 | []=>rfl
 | a::K=>by
  have ih:=filter_pairs f K;unfold zCT holL at *
  by_cases h:f a=0
  ·rw [eG,eS zn,eS zn];exact ih
  ·rw [eG,eX zn,eX zn,eG,ih]
theorem any_snoc {l:List Ho} {j:Nat} (h:j<l.length):((prH l).take (j+1)).any (fun x=>zCK x.2)=(((prH l).take j).any (fun x=>zCK x.2) || zCK l[j].q):=by
 have hj:j<(prH l).length:=by rw [aM];exact h
 rw [bM hj,eK,List.any_cons,List.any_nil,Bool.or_false];have:(prH l)[j]=(l[j].pt,l[j].q):=by unfold prH;rw [aN]
 rw [this]
theorem filter_snoc {l:List Ho} {j:Nat} (h:j<l.length):((prH l).take (j+1)).filter (fun x=>decide (x.2≠0))=((prH l).take j).filter (fun x=>decide (x.2≠0))++(if l[j].q=0 then [] else [(l[j].pt,l[j].q)]):=by
 have hj:j<(prH l).length:=by rw [aM];exact h
 have:(prH l)[j]=(l[j].pt,l[j].q):=by unfold prH;rw [aN]
 rw [bM hj,dW,this]
 by_cases hq:l[j].q=0
 ·rw [aE hq,eS qk,List.filter_nil]
 ·rw [aC hq,eX qk,List.filter_nil]
theorem num_zero {q:Rat}:decide (q.num.natAbs=0)=decide (q=0):=by
 by_cases h:q=0
 ·rw [cW h,h];rfl
 ·rw [cX h,cX]
  intro h2;exact h (Rat.num_eq_zero.1 (Int.natAbs_eq_zero.1 h2))
def BoxT (W:World) (q:Rat) (v:Value) (wx:World):Prop:=∃ bx A c A2 c2,v = .pointer (some ⟨bx,0,none⟩)∧Bx wx bx (nuC false A c q.num.natAbs A2 c2 q.den) 45∧Lt wx A c q.num.natAbs∧Lt wx A2 c2 q.den∧Below W.heap.size W wx
theorem boxT_new {W u:World} {q:Rat} {A A2:Option Addr} {c c2:Nat} (hb:Below W.heap.size W u) (h1:Lt u A c q.num.natAbs) (h2:Lt u A2 c2 q.den):BoxT W q (.pointer (some ⟨u.heap.size,0,none⟩)) (u.alloc (.cells (nuC false A c q.num.natAbs A2 c2 q.den) 45)) :=
 ⟨_,A,c,A2,c2,rfl,Bx.new _ _ _,h1.below (ba _ _),h2.below (ba _ _),hb.alloc hb.size _⟩
theorem boxT_set {W u:World} {q:Rat} {A A2:Option Addr} {c c2 g:Nat} (hb:Below W.heap.size W u) (hz:Bx u g zBE 45) (hg:W.heap.size≤g) (h1:Lt u A c q.num.natAbs) (h2:Lt u A2 c2 q.den) :
  BoxT W q (.pointer (some ⟨g,0,none⟩)) (((u.setCell ⟨g,0,none⟩ (.bool false)).setCell ⟨g,1,none⟩ (.slice A (zAc BT q.num.natAbs).length c)).setCell ⟨g,2,none⟩ (.slice A2 (zAc BT q.den).length c2)):=by
 have k0:=Bx.set0 hz (.bool false);have k1:=Bx.set1 k0 (.slice A (zAc BT q.num.natAbs).length c);exact ⟨g,A,c,A2,c2,rfl,eI _ g 2 _ _ _ k1,h1.setR hz _ _ _ _ _,h2.setR hz _ _ _ _ _,zBo hb hg _ _ _⟩
theorem partsR_c (RA:Option Addr) (rc:Nat) (rs:List Rg) (UA:Option Addr) (uc:Nat) (us:List BA) (DA:Option Addr) (dc:Nat) (ds:List De) (i n:Nat) (th pl use:BA) (day:Int) (w:World)
  (hr:Rgs w RA rs) (hd:Des w DA ds) (hc:zCI rs us ds=0) (hi:i<rs.length) (hpl:(rs[i]).nm=pl) (hn:n≤ds.length) (hP:POK w) :
  Calls Tryz.prog 55 #[.agg (tiC RA rc rs UA uc us DA dc ds),.string th,.agg (whrC pl use day),.int .i64 (n:Int)] w (GivesPR (zCl rs ds i th use day n) (holL (zBD rs ds i th use day n) (zAH rs ds i th use day n)) (zAH rs ds i th use day n) w):=by
 have hbw:Below w.heap.size w ((w.alloc (.cells (tiC RA rc rs UA uc us DA dc ds) 26)).alloc (.cells (whrC pl use day) 117)):=((aS _ _).alloc (aB _) _).alloc ze _;have HX:Hid (Bx ((w.alloc (.cells (tiC RA rc rs UA uc us DA dc ds) 26)).alloc (.cells (whrC pl use day) 117)) w.heap.size (tiC RA rc rs UA uc us DA dc ds) 26):=(Bx.new _ _ _).alloc _;have HY:Hid (Bx ((w.alloc (.cells (tiC RA rc rs UA uc us DA dc ds) 26)).alloc (.cells (whrC pl use day) 117)) (w.heap.size+1) (whrC pl use day) 117):=Bx.new1 _ _ _ _;obtain ⟨W,hW⟩:∃ W,W=(w.alloc (.cells (tiC RA rc rs UA uc us DA dc ds) 26)).alloc (.cells (whrC pl use day) 117):=⟨_,rfl⟩;rw [←hW] at hbw HX HY;have HB:=zq hbw;have HDW:=zq (hd.below hbw);have HRW:=zq (hr.below hbw);have HPK:=zq (hP.below hbw);have HC:=zq hc;have HPL:=zq hpl;have hdl:=(zCs hc).2.2
 have HSL:Hid (∀ d∈ds,d.sh.length≤20):=fun d hd=>by
  obtain ⟨k,hk,rfl⟩:=aK hd;exact (zDT ((zAZ hc).2 k hk) (zAZ hc).1).2.2
 clear hr hd hc hpl hP hbw
 go_enter Tryz.func55,Tryz.ntmps55
 go_upto_region 1 with fail
 rw [←hW];clear hW;go_wp2
 go_loopg [10,12] ds.length (PrA W th day ds)
 case atStart=>exact ⟨0,_,rfl,za,rfl,HoS.nil _ _,aS _ _⟩
 case round =>
  obtain ⟨k,v,rfl,hkm,rfl,hho,hb⟩:=hrel;have HK:=zq hkm;have HHO:=zq hho;have HBW:=zq hb;have HX1:=zq (HX.o.below hb);have x2:=HX1.o.c 2 rfl;have hsx:=HX1.o.lt;clear hkm hho hb
  by_cases hlt:k<ds.length
  ·obtain ⟨b,o,hA,hb0,hc0⟩:=HDW.o za
   subst hA;have hpar:=zBU HC.o _ (aJ hlt);have HFS:=zq (fold_succ th day (fun _=>0) hlt)
   have HKS:=zq (org_succ th day [] hlt);have hrg:wr.rangeAt b (o+k*16) (deC ds[k]).toList:=fun q v hv=>zAg HBW.o ((hc0 k hlt).1 q v hv)
   have HSH:=zq ((hc0 k hlt).2.shs.below HBW.o);have hshl:=HSL.o _ (aJ hlt);generalize ds[k]=d at *;have HPA:=zq hpar;obtain ⟨hki,hko⟩:=start_ok th day (ds.take k) [] (fun _=>0) List.Pairwise.nil hold_none
   have hkl:=org_len HSL.o hdl th day k;clear hc0 hpar;go_upto_region 6 with fail
   iterate 14 go_step
   refine fC _ _ zk b (o+k*16) zk (deC d).toList _ hrg Tryz.underlying52 rfl zc ?_
   clear hrg;go_upto_region 7 with fail
   obtain ⟨wd,hwd⟩:∃ wd,wd=wr.alloc (.cells (deC d) 52):=⟨_,rfl⟩;rw [←hwd];have hbd:Below wr.heap.size wr wd:=zt;have HD1:Hid (Bx wd wr.heap.size (deC d) 52):=yg;have HBD:=zq (zAa HBW.o hbd);have HH1:=zq (HHO.o.below hbd);have HSH1:=zq (HSH.o.below hbd);have HYD:=zq (HY.o.below HBD.o);clear hwd hbd HHO HSH HBW x2 hsx HX1;generalize wr.heap.size=gd at *;have d2:=HD1.o.c 2 rfl;have d3:=HD1.o.c 3 rfl;have d12:=HD1.o.c 12 rfl;have hsd:=HD1.o.lt;have y2:=HYD.o.c 2 rfl;have hsy:=HYD.o.lt;generalize (ds.take k).foldl (orgF th day) (fun _=>0)=F at *
   generalize (ds.take k).foldl (zAJ th day) []=K at *;have HKI:=zq hki;have HKO:=zq hko;clear hki hko
   have HNO:orgB th day d=false→Hid (HoS wd v ((ds.take (k+1)).foldl (zAJ th day) []) ((ds.take (k+1)).foldl (orgF th day) (fun _=>0))):=fun h=>by
    show HoS _ _ _ _
    rw [HFS.o,HKS.o];unfold orgF zAJ;rw [aC jl,aC jl];exact HH1.o
   by_cases hq:d.kd=1
   case neg =>
    have e1:(d.kd == 1)=false:=qk;have HN:=HNO (by unfold orgB;rw [cX hq];rfl)
    clear hq HNO;go_wp2
    go_roundg (gk - 1)
    case measure=>have:=HK.o;omega
    case rel=>exact ⟨k+1,_,rfl,zh,zi,HN.o,HBD.o⟩
   have e1:(d.kd == 1)=true:=qk
   by_cases ht:d.th=th
   case neg =>
    have q1:=zAm ht;have HN:=HNO (by unfold orgB;rw [cX ht];simp)
    clear hq ht HNO;go_wp2
    go_roundg (gk - 1)
    case measure=>have:=HK.o;omega
    case rel=>exact ⟨k+1,_,rfl,zh,zi,HN.o,HBD.o⟩
   have q1:=zAn ht
   by_cases hy:d.bg≤day
   case neg =>
    have q2:decide (d.bg≤day)=false:=cX hy;have HN:=HNO (by unfold orgB;rw [cX hy];simp)
    clear hq ht hy HNO;go_wp2
    go_roundg (gk - 1)
    case measure=>have:=HK.o;omega
    case rel=>exact ⟨k+1,_,rfl,zh,zi,HN.o,HBD.o⟩
   have q2:decide (d.bg≤day)=true:=cW hy
   have HOT:Hid (orgF th day F d=zAk d.sh F∧zAJ th day K d=zBk d.sh K):=by
    show _∧_
    unfold orgF zAJ;rw [aE (zDf.2 ⟨hq,ht,hy⟩),aE (zDf.2 ⟨hq,ht,hy⟩)];exact ⟨rfl,rfl⟩
   have HSO:=zq (HPA.o.org hq).1;clear hq ht hy HNO;go_wp2;clear d2 d3 d12 hsd y2 hsy
   go_loopg [10,14] d.sh.length (PrB wd K F d.sh)
   case atStart=>exact ⟨0,_,rfl,za,rfl,HH1.o,aS _ _⟩
   case round =>
    obtain ⟨j,v2,rfl,hjm,rfl,hho,hb⟩:=hrel;have HJ:=zq hjm;have HH:=zq hho;have HBJ:=zq hb;have HDJ:=zq (HD1.o.below hb);clear hjm hho hb;have hsd:=HDJ.o.lt
    by_cases hjl:j<d.sh.length
    ·obtain ⟨b2,o2,hA,hb2,hc⟩:=(HSH1.o.below HBJ.o).at_ za
     have HMEM:=zq (aJ hjl);have HPS:=zq (putAll_succ F hjl);have HKA:=zq (keysAll_succ K hjl);have c0:=(hc j hjl).1;have c1:=(hc j hjl).2.1;have c2:=(hc j hjl).2.2;have hkl2:=zDE (d.sh.take j) K;have HKJ:=zq (zDD (d.sh.take j) HKI.o);have htl:(d.sh.take j).length≤20:=js;generalize d.sh[j]=s at *;have HFQ:Hid (∀ u,Calls Tryz.prog 17 #[.agg #[.string s.nu,.string s.de]] u (zDk (shQ s) u)):=fun u=>OfT_c s.nu s.de u (HSO.o.rat s HMEM.o) (HSO.o.pos s HMEM.o)
     have HA:=zq hA;have d14:wr.cell? ⟨gd,14,none⟩=some (.slice (some ⟨b2,o2,none⟩) d.sh.length d.shc):=by rw [←hA];exact HDJ.o.c 14 rfl
     clear hc hA;obtain ⟨fj,hfj⟩:∃ fj,fj=zAk (d.sh.take j) F:=⟨_,rfl⟩;obtain ⟨Kj,hKj⟩:∃ Kj,Kj=zBk (d.sh.take j) K:=⟨_,rfl⟩;rw [←hfj] at HH HPS;rw [←hKj] at HH HKA HKJ hkl2;have HFJ:=zq hfj;have HJJ:=zq hKj;clear hfj hKj;go_upto_region 11 with fail
     go_region_held3 (fun w'=>(w'.cell? ⟨gd,14,none⟩=some (.slice (some ⟨b2,o2,none⟩) d.sh.length d.shc))∧w'.cell? ⟨b2,o2+j*3,none⟩=some (.string s.pt)∧w'.cell? ⟨b2,o2+j*3+1,none⟩=some (.string s.nu)∧w'.cell? ⟨b2,o2+j*3+2,none⟩=some (.string s.de))
      ((refine ⟨?_,?_,?_,?_⟩<;>first | with_reducible assumption | go_simp))
      (first
       | ((go_at_call 17;(with_reducible refine (HFQ.o wr.drew).mono ?_);rintro e w6 ⟨A7,c7,A8,c8,rfl,h7,h8,hb6⟩;have HB6:Hid (Below wr.heap.size wr w6):=zAa (zAd (aS _ _) 1) hb6;have HH6:=zq (HH.o.below HB6.o);have H7:=zq h7;have H8:=zq h8;clear h7 h8 hb6;have k14:=zAg HB6.o d14;have k0:=zAg HB6.o c0;have k1:=zAg HB6.o c1;have k2:=zAg HB6.o c2;clear d14 c0 c1 c2))
       | ((go_at_call 98;(with_reducible refine (withS_c v2 Kj fj s.pt (shQ s) A7 A8 c7 c8 w6 HH6.o HKJ.o za H7.o H8.o).mono ?_);rintro e w7 ⟨A9,c9,n9,rfl,hh,hb7⟩;have HB7:=zq (zAa HB6.o hb7);have HH7:=zq hh;have m14:=zAg hb7 k14;have m0:=zAg hb7 k0;have m1:=zAg hb7 k1;have m2:=zAg hb7 k2;clear hh hb7 k14 k0 k1 k2)))
     have HE:Hid (HoS w7 (.slice A9 n9 c9) (zBk (d.sh.take (j+1)) K) (zAk (d.sh.take (j+1)) F)):=by show HoS _ _ _ _;rw [HPS.o,HKA.o];exact HH7.o
     have HBE:=zq (zAa HBJ.o HB7.o);clear m14 m0 m1 m2;go_wp2
     go_roundg (gk - 1)
     case measure=>have:=HJ.o;omega
     case rel=>exact ⟨j+1,_,rfl,yb,zi,HE.o,HBE.o⟩
    ·have hje:j=d.sh.length:=by have:=HJ.o;omega
     have HE:Hid (HoS wr v2 ((ds.take (k+1)).foldl (zAJ th day) []) ((ds.take (k+1)).foldl (orgF th day) (fun _=>0))):=by
      have:=HH.o;rw [hje,bX,←HOT.o.1,←HOT.o.2] at this
      show HoS _ _ _ _
      rw [HFS.o,HKS.o];exact this
     have HBE:=zq (zAa HBD.o HBJ.o);have d14:=HDJ.o.c 14 rfl;clear HH hje;go_wp2
     go_roundg (ds.length - (k+1))
     case measure=>have:=HK.o;omega
     case rel=>exact ⟨k+1,_,rfl,zh,zi,HE.o,HBE.o⟩
  ·obtain rfl:k=ds.length:=by have:=HK.o;omega
   have HH0:Hid (HoS wr v (zBD rs ds i th use day 0) (zAH rs ds i th use day 0)):=by
    have:=HHO.o;rw [bX] at this;exact this
   have HLZ:Hid (false=zCl rs ds i th use day 0):=(longF_zero rs ds i th use day).symm;clear HHO HK;go_wp2;clear x2 hsx
   go_loopg [10,11,15] n (PrC W rs ds i th use day n)
   case atStart=>exact ⟨0,_,rfl,za,rfl,by rw [←HLZ.o],HH0.o,HBW.o⟩
   clear HH0 HLZ HBW HX1
   case round =>
    obtain ⟨k,v,rfl,hkm,rfl,rfl,hho,hb⟩:=hrel;have HK:=zq hkm;have HHO:=zq hho;have HBW:=zq hb;have HX1:=zq (HX.o.below hb);have x2:=HX1.o.c 2 rfl;have hsx:=HX1.o.lt;clear hkm hho hb
    by_cases hlt:k<n
    ·have hkd:k<ds.length:=by omega
     obtain ⟨b,o,hA,hb0,hc0⟩:=HDW.o za;subst hA;have hrg:wr.rangeAt b (o+k*16) (deC ds[k]).toList:=fun q v hv=>zAg HBW.o ((hc0 k hkd).1 q v hv)
     have HSH:=zq ((hc0 k hkd).2.shs.below HBW.o);have hmem:=aJ hkd;have HVA:=zq (fun (u:World) (hu:Below W.heap.size W u) (hg:zAh (ds[k]).kd=true)=>validR_c RA rc rs UA uc us (some ⟨b,o,none⟩) dc ds k i pl use day u (HRW.o.below hu) (HDW.o.below hu) (good_of (zCs HC.o).1) hi HPL.o hkd hdl (deeds_oneEnd HC.o) hg (short_of HC.o _ hmem).2 (short_of HC.o _ hmem).1)
     have HSK:Hid (zDO rs ds i th use day ds[k]=false→zAH rs ds i th use day (k+1)=zAH rs ds i th use day k∧zBD rs ds i th use day (k+1)=zBD rs ds i th use day k):=fun hm=>by
      obtain ⟨e1,e2⟩:=zDH rs i th use day hkd;rw [e1,e2];unfold stepF zBd;rw [aC (by rw [hm];simp),aC (by rw [hm];simp)]
      exact ⟨rfl,rfl⟩
     have HTK:Hid (zDO rs ds i th use day ds[k]=true→zAH rs ds i th use day (k+1)=zCY ds[k] (zAH rs ds i th use day k)∧zBD rs ds i th use day (k+1)=zAw ds[k] (zBD rs ds i th use day k)):=fun hm=>keysF_take hkd hm
     have HTA:Hid (zDO rs ds i th use day ds[k]=true→∃ M,HoldB (zAw ds[k] (zBD rs ds i th use day k)) M (zAH rs ds i th use day k)∧SzN 10000000 (M*growD ds[k])):=fun hm=>take_ask2 HC.o hkd hm
     have HPA:=zq (zBU HC.o _ hmem);have HLS:=zq (longF_succ rs ds i th use day k);have hshl:=HSL.o _ hmem;obtain ⟨hki,hko,_⟩:=zDI HC.o i th use day k;have hkl:=keys_len HC.o i th use day k za;have HKN:=zq (keys_len HC.o i th use day (k+1) za);have HFZ:=zq (fun p=>parts_sz HC.o i th use day k za p)
     have HFN:=zq (fun p=>parts_sz HC.o i th use day (k+1) za p)
     generalize ds[k]=d at *;have HKI:=zq hki;have HKO:=zq hko;clear hc0 hmem hki hko;go_upto_region 15 with fail
     iterate 14 go_step
     refine fC _ _ zk b (o+k*16) zk (deC d).toList _ hrg Tryz.underlying52 rfl zc ?_
     clear hrg;go_upto_region 16 with fail
     obtain ⟨wd,hwd⟩:∃ wd,wd=wr.alloc (.cells (deC d) 52):=⟨_,rfl⟩;rw [←hwd];have hbd:Below wr.heap.size wr wd:=zt;have HD1:Hid (Bx wd wr.heap.size (deC d) 52):=yg;have HBD:=zq (zAa HBW.o hbd);have HH1:=zq (HHO.o.below hbd);have HSH1:=zq (HSH.o.below hbd);have HXD:=zq (HX.o.below HBD.o);have HYD:=zq (HY.o.below HBD.o);clear hwd hbd HHO HSH HBW x2 hsx HX1;generalize wr.heap.size=gd at *;obtain ⟨f,hf⟩:∃ f,f=zAH rs ds i th use day k:=⟨_,rfl⟩;obtain ⟨K,hK⟩:∃ K,K=zBD rs ds i th use day k:=⟨_,rfl⟩;rw [←hf] at HH1 HSK HTK HTA HFZ HKO;rw [←hK] at HH1 HSK HTK HTA HKO HKI hkl;have HEF:=zq hf;have HEK:=zq hK;clear hf hK
     go_cut [99] from 85 to 100 (fun v wx=>v = .bool (asgB rs ds i th use day d)∧Below wd.heap.size wd wx)
     case first =>
      have d2:=HD1.o.c 2 rfl;have d3:=HD1.o.c 3 rfl;have hsd:=HD1.o.lt;obtain ⟨x0,x1,x2⟩:=HXD.o.t;have hsx:=HXD.o.lt;obtain ⟨y0,y1,y2⟩:=HYD.o.t;have hsy:=HYD.o.lt
      by_cases hq:d.kd=2
      case neg =>
       have e1:(d.kd == 2)=false:=qk;have HE:Hid (asgB rs ds i th use day d=false):=by show _=_;unfold asgB;rw [cX hq];rfl
       clear hq;go_wp2;go_meet;exact ⟨by rw [HE.o],aS _ _⟩
      have e1:(d.kd == 2)=true:=qk
      by_cases ht:d.th=th
      case neg =>
       have q1:=zAm ht;have HE:Hid (asgB rs ds i th use day d=false):=by show _=_;unfold asgB;rw [cX ht];simp
       clear hq ht;go_wp2;go_meet;exact ⟨by rw [HE.o],aS _ _⟩
      have q1:=zAn ht;have HVB:=zq (HVA.o wd HBD.o (by unfold zAh;rw [hq];rfl))
      have HE:Hid (asgB rs ds i th use day d=vB rs ds i use day d):=by show _=_;unfold asgB;rw [cW hq,cW ht];rfl
      clear hq ht
      go_wp2_with fail
      with_reducible refine HVB.o.mono ?_
      rintro e w3 ⟨rfl,hb3⟩;have HB3:=zq hb3;clear d2 d3 hsd x0 x1 x2 hsx y0 y1 y2 hsy hb3;go_wp2;go_meet;exact ⟨by rw [HE.o],HB3.o⟩
     case rest =>
     obtain ⟨rfl,hbc⟩:=hcut;have HB3:=zq hbc;have HX3:=zq (HD1.o.below hbc);have HH3:=zq (HH1.o.below hbc);obtain ⟨w3,hw3⟩:∃ w3,w3=wc:=⟨_,rfl⟩;subst hw3;clear hbc;go_upto_if 99 with fail
     go_cut [10,17,18] from 99 to 127 (fun lv _ _ wx=>∃ v,v=lv∧HoS wx v (if asgB rs ds i th use day d=true then zAw d K else K) (if asgB rs ds i th use day d=true then zCY d f else f)∧Below wd.heap.size wd wx)
     case first =>
      cases hv:asgB rs ds i th use day d with
      | false =>
       have HE:=zq hv;clear hv;go_wp2;go_meet;refine ⟨_,rfl,?_,HB3.o⟩
       rw [aC (by rw [HE.o];simp),aC (by rw [HE.o];simp)]
       exact HH3.o
      | true =>
       have HV:=zq hv;have HQK:=zq (asg_mov hv).1;clear hv
       -- @@1
       obtain ⟨M,hM1,hM2⟩:=HTA.o (asg_mov HV.o).2
       have hK1l:(zDW d.fr K).length≤1000000:=by
        have h9:=HKN.o;rw [(HTK.o (asg_mov HV.o).2).2] at h9;unfold zAw at h9;rw [aC (by rw [HQK.o];decide)] at h9
        exact dI (insN_ge d.to_ _) h9
       obtain ⟨m1,m2,m3,m4⟩:=zCE d (K:=K);obtain ⟨hrt,hps,hle,hne⟩:=HPA.o.asg HQK.o;have hd0:=zBO hrt;obtain ⟨hmid,hxd⟩:=hM1.giveMid m2 hle hd0;have hx:=mul_le (hM1.ok.pos d.fr) (hM1.le d.fr) (zEl d.nu d.de) hle;unfold growD at hM2;rw [aC (by rw [HQK.o];decide)] at hM2
       have HFS:Hid (SzQ 10000000 (f d.fr)):=HFZ.o d.fr;have HFP:Hid (0≤f d.fr):=hM1.ok.pos _;have HQP:Hid (0≤zCX d.nu d.de):=zEl _ _;have HQS:=zq (ratQ_sz hrt);have HXP:Hid (0≤f d.fr*zCX d.nu d.de):=hx.1;have HXS:Hid (SzQ 50000000 (f d.fr*zCX d.nu d.de)):=szQ_le hx.1 hx.2 hxd hmid.nz (hM2.le za);have HNE:=zq hne
       have HXL:Hid (f d.fr*zCX d.nu d.de≤f d.fr):=by
        exact mul_self_le HFP.o hle
       have HMB:=zq hmid;have HMZ:=zq hM2;have HFQ:Hid (∀ u,Calls Tryz.prog 17 #[.agg #[.string d.nu,.string d.de]] u (zDk (zCX d.nu d.de) u)):=fun u=>OfT_c d.nu d.de u hrt hps
       clear hM1 hM2 m1 m2 m3 m4 hrt hps hle hne hd0 hmid hxd hx;have HPT:=zq (partS_c v K f d.fr w3 HH3.o HKO.o hkl);have x4:=HX3.o.c 4 rfl;have hsx:=HX3.o.lt
       go_wp2_with fail
       with_reducible refine HPT.o.mono ?_
       rintro e w4 ⟨AH,cH,AH2,cH2,rfl,h1,h2,hb4⟩;have hba:=ba w4 (.cells (nuC false AH cH (f d.fr).num.natAbs AH2 cH2 (f d.fr).den) 45);have hb5:=zAa hb4 hba;have HX:=zq (HX3.o.below hb5);have HY:Hid (Bx (w4.alloc (.cells (nuC false AH cH (f d.fr).num.natAbs AH2 cH2 (f d.fr).den) 45)) w4.heap.size (nuC false AH cH (f d.fr).num.natAbs AH2 cH2 (f d.fr).den) 45):=Bx.new _ _ _;have HN1:=zq (h1.below hba);have HN2:=zq (h2.below hba);have HL:=zq (HH3.o.below hb5);have HBH:=zq (zAa HB3.o hb5);clear x4 hsx h1 h2 hb4 hba hb5 HX3 HH3 HB3 HPT;go_upto_region 18 with fail
       obtain ⟨wh,hwh⟩:∃ wh,wh=w4.alloc (.cells (nuC false AH cH (f d.fr).num.natAbs AH2 cH2 (f d.fr).den) 45):=⟨_,rfl⟩;rw [←hwh] at HX HY HN1 HN2 HL HBH ⊢;clear hwh;generalize w4.heap.size=gh at *;have x6:=HX.o.c 6 rfl;have x7:=HX.o.c 7 rfl;obtain ⟨b0,b1,b2⟩:=HY.o.t;have sx:=HX.o.lt;have sy:=HY.o.lt
       go_cut [18] from 104 to 109 (fun v wx=>BoxT wh (f d.fr*zCX d.nu d.de) v wx)
       case first =>
        go_region_held3 (fun w'=>(w'.cell? ⟨gd,6,none⟩=some (.string d.nu)∧w'.cell? ⟨gd,7,none⟩=some (.string d.de))∧(w'.cell? ⟨gh,0,none⟩=some (.bool false)∧w'.cell? ⟨gh,1,none⟩=some (.slice AH (zAc BT (f d.fr).num.natAbs).length cH)∧w'.cell? ⟨gh,2,none⟩=some (.slice AH2 (zAc BT (f d.fr).den).length cH2)))
         ((refine ⟨⟨?_,?_⟩,?_,?_,?_⟩<;>first | with_reducible assumption | go_simp))
         (first
          | ((go_at_call 17;(with_reducible refine (HFQ.o (wh.alloc (.cells zBE 45)).drew).mono ?_);rintro x v1 ⟨A7,c7,A8,c8,rfl,h7,h8,hb⟩;have hqq:=zAa (zAd (ba wh (.cells zBE 45)) 1) hb;have HBv1:Hid (Below wh.heap.size wh v1):=zAa (zAd (ba wh (.cells zBE 45)) 1) hb;have HZ1:=zq ((Bx.new wh zBE 45).drew.below hb);have hzg:wh.heap.size≤wh.heap.size:=aB _;have HX1:=zq (HX.o.below hqq);have HY1:=zq (HY.o.below hqq);have HN11:=zq (HN1.o.below hqq);have HN21:=zq (HN2.o.below hqq);have HL1:=zq (HL.o.below hqq);have G71:=zq h7;have G81:=zq h8;clear hqq hb h7 h8 x6 x7 b0 b1 b2 sx sy;have x6:=HX1.o.c 6 rfl;have x7:=HX1.o.c 7 rfl;obtain ⟨b0,b1,b2⟩:=HY1.o.t;have sx:=HX1.o.lt;have sy:=HY1.o.lt;have q0a:¬ (gd=wh.heap.size):=yw;have q0b:¬ (wh.heap.size=gd):=yw;have q1a:¬ (gh=wh.heap.size):=yx;have q1b:¬ (wh.heap.size=gh):=yx;obtain ⟨z0,z1,z2⟩:=HZ1.o.t;have zf:=HZ1.o.frozen;have zs:=HZ1.o.lt))
          | ((go_at_call 17;(with_reducible refine (HFQ.o wh.drew).mono ?_);rintro x v1 ⟨A7,c7,A8,c8,rfl,h7,h8,hb⟩;have hqq:=zAa (zAd (aS wh.heap.size wh) 1) hb;have HBv1:Hid (Below wh.heap.size wh v1):=zAa (zAd (aS wh.heap.size wh) 1) hb;have HX1:=zq (HX.o.below hqq);have HY1:=zq (HY.o.below hqq);have HN11:=zq (HN1.o.below hqq);have HN21:=zq (HN2.o.below hqq);have HL1:=zq (HL.o.below hqq);have G71:=zq h7;have G81:=zq h8;clear hqq hb h7 h8 x6 x7 b0 b1 b2 sx sy;have x6:=HX1.o.c 6 rfl;have x7:=HX1.o.c 7 rfl;obtain ⟨b0,b1,b2⟩:=HY1.o.t;have sx:=HX1.o.lt;have sy:=HY1.o.lt))
          | ((go_at_call 101;(with_reducible refine (TimesQ_c AH AH2 A7 A8 cH cH2 c7 c8 (f d.fr) (zCX d.nu d.de) (v1.alloc (.cells zBE 45)) (HN11.o.below (ba v1 (.cells zBE 45))) (HN21.o.below (ba v1 (.cells zBE 45))) (G71.out.below (ba v1 (.cells zBE 45))) (G81.out.below (ba v1 (.cells zBE 45))) HFP.o HQP.o (HFS.o.le za) (HQS.o.le za)).mono ?_);rintro x v2 ⟨A9,c9,AD,cD,rfl,h9,hD,hb⟩;have hqq:=zAa (ba v1 (.cells zBE 45)) hb;have HBv2:Hid (Below wh.heap.size wh v2):=(zAa HBv1.o hqq);have HZ2:=zq ((Bx.new v1 zBE 45).below hb);have hzg:wh.heap.size≤v1.heap.size:=HBv1.o.size;have HX2:=zq (HX1.o.below hqq);have HY2:=zq (HY1.o.below hqq);have HN12:=zq (HN11.o.below hqq);have HN22:=zq (HN21.o.below hqq);have HL2:=zq (HL1.o.below hqq);have G72:=zq (G71.out.below hqq);have G82:=zq (G81.out.below hqq);have G92:=zq h9;have GD2:=zq hD;clear hqq hb h9 hD x6 x7 b0 b1 b2 sx sy;have x6:=HX2.o.c 6 rfl;have x7:=HX2.o.c 7 rfl;obtain ⟨b0,b1,b2⟩:=HY2.o.t;have sx:=HX2.o.lt;have sy:=HY2.o.lt;have q0a:¬ (gd=v1.heap.size):=yw;have q0b:¬ (v1.heap.size=gd):=yw;have q1a:¬ (gh=v1.heap.size):=yx;have q1b:¬ (v1.heap.size=gh):=yx;obtain ⟨z0,z1,z2⟩:=HZ2.o.t;have zf:=HZ2.o.frozen;have zs:=HZ2.o.lt))
          | ((go_at_call 101;(with_reducible refine (TimesQ_c AH AH2 A7 A8 cH cH2 c7 c8 (f d.fr) (zCX d.nu d.de) v1 HN11.o HN21.o G71.out G81.out HFP.o HQP.o (HFS.o.le za) (HQS.o.le za)).mono ?_);rintro x v2 ⟨A9,c9,AD,cD,rfl,h9,hD,hb⟩;have HBv2:Hid (Below wh.heap.size wh v2):=(zAa HBv1.o hb);(first | (have HZ2:=zq (HZ1.o.below hb);clear z0 z1 z2 zf zs) | skip);have HX2:=zq (HX1.o.below hb);have HY2:=zq (HY1.o.below hb);have HN12:=zq (HN11.o.below hb);have HN22:=zq (HN21.o.below hb);have HL2:=zq (HL1.o.below hb);have G72:=zq (G71.out.below hb);have G82:=zq (G81.out.below hb);have G92:=zq h9;have GD2:=zq hD;clear hb h9 hD x6 x7 b0 b1 b2 sx sy;have x6:=HX2.o.c 6 rfl;have x7:=HX2.o.c 7 rfl;obtain ⟨b0,b1,b2⟩:=HY2.o.t;have sx:=HX2.o.lt;have sy:=HY2.o.lt;(first | (obtain ⟨z0,z1,z2⟩:=HZ2.o.t;have zf:=HZ2.o.frozen;have zs:=HZ2.o.lt) | skip))))
        all_goals
         go_wp2_with fail
         go_meet
         first
          | exact boxT_set HBv2.o HZ2.o hzg G92.out GD2.out
          | exact boxT_new HBv2.o G92.out GD2.out
       case rest =>
        obtain ⟨bx,A9,c9,AD,cD,rfl,hbx,h9,hD,hb⟩:=hcut;obtain ⟨x,hxe⟩:∃ x,x=f d.fr*zCX d.nu d.de:=⟨_,rfl⟩;rw [←hxe] at hbx h9 hD HXP HXS HXL HMB;have HXE:=zq hxe;clear hxe;have hmi:∀ u,Calls Tryz.prog 46 #[nuV false A9 c9 x.num.natAbs AD cD x.den] u (fun e w'=>e = .returned (nuV (!false&&decide (x.num.natAbs≠0)) A9 c9 x.num.natAbs AD cD x.den)∧Below u.heap.size u w'):=fun u=>minus_c false A9 AD c9 cD x.num.natAbs x.den u
        have hlq:∀ u,Lt u AH cH (f d.fr).num.natAbs→Lt u AH2 cH2 (f d.fr).den→Lt u A9 c9 x.num.natAbs→Lt u AD cD x.den→Calls Tryz.prog 16 #[nuV false AH cH (f d.fr).num.natAbs AH2 cH2 (f d.fr).den,nuV (!false&&decide (x.num.natAbs≠0)) A9 c9 x.num.natAbs AD cD x.den] u (zDk (f d.fr - x) u):=fun u g1 g2 g3 g4=>LessQ_c AH AH2 A9 AD cH cH2 c9 cD (f d.fr) x u g1 g2 g3 g4 HXP.o HXL.o (HFS.o.le za) HXS.o
        obtain ⟨mg,hmg⟩:∃ mg,mg=(!false&&decide (x.num.natAbs≠0)):=⟨_,rfl⟩;rw [←hmg] at hmi hlq;have HMI:=zq hmi;have HLQ:=zq hlq;clear hmi hlq hmg;have HB3:=zq (zAa HBH.o hb);have HX3:=zq (HX.o.below hb);have HY3:=zq (HY.o.below hb);have HQ3:=zq hbx;have HL3:=zq (HL.o.below hb);have HN13:=zq (HN1.o.below hb);have HN23:=zq (HN2.o.below hb);have H93:=zq h9;have HD3:=zq hD;clear hbx h9 hD hb sx sy x6 x7 b0 b1 b2 HX HY HL HN1 HN2 HBH;go_upto_region 19 with fail
        have x4:=HX3.o.c 4 rfl;obtain ⟨b0,b1,b2⟩:=HY3.o.t;obtain ⟨d0,d1,d2⟩:=HQ3.o.t
        go_region_held3 (fun w'=>w'.cell? ⟨gd,4,none⟩=some (.string d.fr)∧(w'.cell? ⟨gh,0,none⟩=some (.bool false)∧w'.cell? ⟨gh,1,none⟩=some (.slice AH (zAc BT (f d.fr).num.natAbs).length cH)∧w'.cell? ⟨gh,2,none⟩=some (.slice AH2 (zAc BT (f d.fr).den).length cH2))∧(w'.cell? ⟨bx,0,none⟩=some (.bool false)∧w'.cell? ⟨bx,1,none⟩=some (.slice A9 (zAc BT x.num.natAbs).length c9)∧w'.cell? ⟨bx,2,none⟩=some (.slice AD (zAc BT x.den).length cD)))
         ((refine ⟨?_,⟨?_,?_,?_⟩,?_,?_,?_⟩<;>first | with_reducible assumption | go_simp))
         (first
          | ((go_at_call 46;(with_reducible refine (HMI.o wc.drew).mono ?_);rintro e v1 ⟨rfl,hb⟩;have HB4:Hid (Below wc.heap.size wc v1):=zAa (zAd (aS _ _) 1) hb;have HX4:=zq (HX3.o.below HB4.o);have HY4:=zq (HY3.o.below HB4.o);have HQ4:=zq (HQ3.o.below HB4.o);have HL4:=zq (HL3.o.below HB4.o);have HN14:=zq (HN13.o.below HB4.o);have HN24:=zq (HN23.o.below HB4.o);have H94:=zq (H93.o.below HB4.o);have HD4:=zq (HD3.o.below HB4.o);clear hb x4 b0 b1 b2 d0 d1 d2;have x4:=HX4.o.c 4 rfl;obtain ⟨b0,b1,b2⟩:=HY4.o.t;obtain ⟨d0,d1,d2⟩:=HQ4.o.t))
          | ((go_at_call 16;(with_reducible refine (HLQ.o v1 HN14.o HN24.o H94.o HD4.o).mono ?_);rintro e v2 ⟨AE,cE,AF,cF,rfl,hE,hF,hb⟩;have HB5:=zq (zAa HB4.o hb);have HX5:=zq (HX4.o.below hb);have HY5:=zq (HY4.o.below hb);have HQ5:=zq (HQ4.o.below hb);have HL5:=zq (HL4.o.below hb);have H95:=zq (H94.o.below hb);have HD5:=zq (HD4.o.below hb);have HE5:=zq hE;have HF5:=zq hF;clear hE hF hb x4 b0 b1 b2 d0 d1 d2;have x4:=HX5.o.c 4 rfl;obtain ⟨b0,b1,b2⟩:=HY5.o.t;obtain ⟨d0,d1,d2⟩:=HQ5.o.t))
          | ((go_at_call 98;(with_reducible refine (withS_c v K f d.fr (f d.fr - x) AE AF cE cF v2 HL5.o HKI.o hkl HE5.o HF5.o).mono ?_);rintro e v3 ⟨AG,cG,nG,rfl,hh,hb⟩;have HB6:=zq (zAa HB5.o hb);have HX6:=zq (HX5.o.below hb);have HY6:=zq (HY5.o.below hb);have HQ6:=zq (HQ5.o.below hb);have HL6:=zq hh;have H96:=zq (H95.o.below hb);have HD6:=zq (HD5.o.below hb);clear hh hb x4 b0 b1 b2 d0 d1 d2;have x4:=HX6.o.c 4 rfl;obtain ⟨b0,b1,b2⟩:=HY6.o.t;obtain ⟨d0,d1,d2⟩:=HQ6.o.t)))
        obtain ⟨f1,hf1⟩:∃ f1,f1=upH f d.fr (f d.fr - x):=⟨_,rfl⟩;obtain ⟨K1,hK1⟩:∃ K1,K1=zDW d.fr K:=⟨_,rfl⟩;rw [←hK1] at hK1l;have HKI1:Hid (IncN K1):=by show IncN K1;rw [hK1];exact HKI.o.ins
        rw [←hf1] at HL6 HMB;rw [←hK1] at HL6
        have HKO1:Hid (HoldOk K1 f1):=by
         show HoldOk _ _
         rw [hK1,hf1];exact (HKO.o.mono fun p hp=>zAP.2 (.inr hp)).up (zAP.2 (.inl rfl)) (sub_pos HXL.o)
        have HF1S:Hid (SzQ 50000000 (f1 d.to_)):=by
         show SzQ _ _
         rw [hf1,zAN _ _ (fun e=>HNE.o e.symm)]
         exact (HFZ.o d.to_).le za
        have HF1:=zq hf1;have HK1:=zq hK1;have HB7:=zq (zAa HB3.o HB6.o);clear hf1 hK1 HX3 HX4 HX5 HY3 HY4 HY5 HY6 HQ3 HQ4 HQ5 HL3 HL4 HL5 HN13 HN14 HN23 HN24 H93 H94 H95 HD3 HD4 HD5 HE5 HF5 HB3 HB4 HB5 HB6 x4 b0 b1 b2 d0 d1 d2;go_upto_region 20 with fail
        have x5:=HX6.o.c 5 rfl;obtain ⟨d0,d1,d2⟩:=HQ6.o.t
        go_region_held3 (fun w'=>w'.cell? ⟨gd,5,none⟩=some (.string d.to_)∧(w'.cell? ⟨bx,0,none⟩=some (.bool false)∧w'.cell? ⟨bx,1,none⟩=some (.slice A9 (zAc BT x.num.natAbs).length c9)∧w'.cell? ⟨bx,2,none⟩=some (.slice AD (zAc BT x.den).length cD)))
         ((refine ⟨?_,?_,?_,?_⟩<;>first | with_reducible assumption | go_simp))
         (first
          | ((go_at_call 100;(with_reducible refine (partS_c (.slice AG nG cG) K1 f1 d.to_ v3.drew (HL6.o.below (zAd (aS _ _) 1)) HKO1.o hK1l).mono ?_);rintro e v4 ⟨AI,cI,AJ,cJ,rfl,hI,hJ,hb⟩;have HB8:Hid (Below v3.heap.size v3 v4):=zAa (zAd (aS _ _) 1) hb;have HX8:=zq (HX6.o.below HB8.o);have HQ8:=zq (HQ6.o.below HB8.o);have HL8:=zq (HL6.o.below HB8.o);have H98:=zq (H96.o.below HB8.o);have HD8:=zq (HD6.o.below HB8.o);have HI8:=zq hI;have HJ8:=zq hJ;clear hI hJ hb x5 d0 d1 d2;have x5:=HX8.o.c 5 rfl;obtain ⟨d0,d1,d2⟩:=HQ8.o.t))
          | ((go_at_call 16;(with_reducible refine (PlusQ_c AI AJ A9 AD cI cJ c9 cD (f1 d.to_) x v4 HI8.o HJ8.o H98.o HD8.o (HMB.o.ok.pos _) HXP.o (HF1S.o) HXS.o).mono ?_);rintro e v5 ⟨AK,cK,AM,cM,rfl,hK,hM,hb⟩;have HB9:=zq (zAa HB8.o hb);have HX9:=zq (HX8.o.below hb);have HQ9:=zq (HQ8.o.below hb);have HL9:=zq (HL8.o.below hb);have HK9:=zq hK;have HM9:=zq hM;clear hK hM hb x5 d0 d1 d2;have x5:=HX9.o.c 5 rfl;obtain ⟨d0,d1,d2⟩:=HQ9.o.t))
          | ((go_at_call 98;(with_reducible refine (withS_c (.slice AG nG cG) K1 f1 d.to_ (f1 d.to_+x) AK AM cK cM v5 HL9.o HKI1.o hK1l HK9.o HM9.o).mono ?_);rintro e v6 ⟨AN,cN,nN,rfl,hh,hb⟩;have HBa:=zq (zAa HB9.o hb);have HXa:=zq (HX9.o.below hb);have HQa:=zq (HQ9.o.below hb);have HLa:=zq hh;clear hh hb x5 d0 d1 d2;have x5:=HXa.o.c 5 rfl;obtain ⟨d0,d1,d2⟩:=HQa.o.t)))
        have HLF:Hid (HoS v6 (.slice AN nN cN) (zAw d K) (zCY d f)):=by
         show HoS _ _ _ _
         unfold zAw zCY giveF;rw [aC (by rw [HQK.o];decide),aC (by rw [HQK.o];decide),←HXE.o,←HF1.o,←HK1.o]
         exact HLa.o
        have HBb:=zq (zAa HB7.o HBa.o);have HCD:Hid (asgB rs ds i th use day d=true):=HV.o;clear x5 d0 d1 d2;go_wp2;go_meet;refine ⟨_,rfl,?_,HBb.o⟩
        rw [aE HCD.o,aE HCD.o];exact HLF.o
       -- @@2
     case rest =>
     obtain ⟨v2,rfl,hho2,hbc⟩:=hcut;obtain ⟨w4,hw4⟩:∃ w4,w4=wc:=⟨_,rfl⟩;subst hw4;have HH4:=zq hho2;have HX4:=zq (HD1.o.below hbc);have HY4:=zq (HYD.o.below hbc);have HSH4:=zq (HSH1.o.below hbc);have HB4:=zq hbc;have HNP:Hid (passB day d=false→(if asgB rs ds i th use day d=true then zAw d K else K)=zBD rs ds i th use day (k+1)∧(if asgB rs ds i th use day d=true then zCY d f else f)=zAH rs ds i th use day (k+1)):=fun hp=>no_pass hp HTK.o HSK.o
     clear hho2 hbc HX3 HH3 HB3;go_upto_region 21 with fail
     have d2:=HX4.o.c 2 rfl;have d12:=HX4.o.c 12 rfl;have sd:=HX4.o.lt;have y2:=HY4.o.c 2 rfl;have sy:=HY4.o.lt
     go_cut [136] from 127 to 137 (fun v wx=>v = .bool (passB day d)∧wx=w4)
     case first =>
      by_cases hq:d.kd=5
      case neg =>
       have e1:(d.kd == 5)=false:=qk;have HE:Hid (passB day d=false):=by show _=_;unfold passB;rw [cX hq];rfl
       clear hq;go_wp2;go_meet;exact ⟨by rw [HE.o],rfl⟩
      have e1:(d.kd == 5)=true:=qk;have HE:Hid (passB day d=decide (d.bg≤day)):=by show _=_;unfold passB;rw [cW hq];rfl
      clear hq;go_wp2;go_meet;exact ⟨by rw [HE.o],rfl⟩
     case rest =>
     clear d2 d12 sd y2 sy;obtain ⟨rfl,hwx⟩:=hcut;subst hwx;obtain ⟨w4,hw4⟩:∃ w4,w4=wc:=⟨_,rfl⟩;subst hw4;go_upto_if 136 with fail
     go_cut [10,19,20,21] from 136 to 175 (fun lv _ _ _ wx=>∃ v,v=lv∧HoS wx v (zBD rs ds i th use day (k+1)) (zAH rs ds i th use day (k+1))∧Below w4.heap.size w4 wx)
     case first =>
      cases hpb:passB day d with
      | false =>
       have HE:=zq hpb;have HR:=HNP.o hpb;rw [HR.1,HR.2] at HH4;clear hpb HR;go_wp2;go_meet;exact ⟨_,rfl,HH4.o,aS _ _⟩
      | true =>
       -- @@3
       obtain ⟨hkd5,hmv,hag⟩:=pass_mov (rs:=rs) (ds:=ds) (i:=i) (th:=th) (use:=use) hpb;rw [aC (by rw [hag];simp),aC (by rw [hag];simp)] at HH4
       obtain ⟨M,hM1,hM2⟩:=HTA.o hmv;obtain ⟨t1,t2⟩:=HTK.o hmv;have HEP:=zq t1;have HEQ:=zq t2;have HPF:=zq (pass_facts hkd5 HPA.o hM1 hM2 HKI.o HKO.o (by rw [←t2];exact HKN.o))
       have HE5:=zq hkd5;have HPB:=zq hpb;have HFS:Hid (SzQ 10000000 (f d.fr)):=HFZ.o d.fr;have HFP:Hid (0≤f d.fr):=hM1.ok.pos _;clear hpb hkd5 hmv hag hM1 hM2 t1 t2;have HPT:=zq (partS_c v2 K f d.fr w4 HH4.o HKO.o hkl);have HI:Hid (∃ z:Rat,z=0∧∀ u,Calls Tryz.prog 14 #[.int .i64 0] u (zDk z u)):=⟨0,rfl,fun u=>Int_0 u⟩
       obtain ⟨z,hz,hi0⟩:=HI.o;clear HI;have HZ:=zq hz;have HI:=zq hi0;clear hz hi0;have x4:=HX4.o.c 4 rfl;have hsx:=HX4.o.lt
       go_wp2_with fail
       with_reducible refine HPT.o.mono ?_
       rintro e w5 ⟨AH,cH,AH2,cH2,rfl,h1,h2,hb5⟩;have hba:=ba w5 (.cells (nuC false AH cH (f d.fr).num.natAbs AH2 cH2 (f d.fr).den) 45);have hb6:=zAa hb5 hba;have HX:=zq (HX4.o.below hb6);have HY:Hid (Bx (w5.alloc (.cells (nuC false AH cH (f d.fr).num.natAbs AH2 cH2 (f d.fr).den) 45)) w5.heap.size (nuC false AH cH (f d.fr).num.natAbs AH2 cH2 (f d.fr).den) 45):=Bx.new _ _ _;have HN1:=zq (h1.below hba);have HN2:=zq (h2.below hba);have HL:=zq (HH4.o.below hb6);have HSH:=zq (HSH4.o.below hb6);have HBH:=zq hb6;clear x4 hsx h1 h2 hb5 hba hb6 HX4 HH4 HPT HSH4 HY4;go_upto_region 23 with fail
       obtain ⟨wh,hwh⟩:∃ wh,wh=w5.alloc (.cells (nuC false AH cH (f d.fr).num.natAbs AH2 cH2 (f d.fr).den) 45):=⟨_,rfl⟩;rw [←hwh] at HX HY HN1 HN2 HL HSH HBH ⊢;clear hwh;generalize w5.heap.size=gh at *;have x4:=HX.o.c 4 rfl
       go_region_held3 (fun w'=>w'.cell? ⟨gd,4,none⟩=some (.string d.fr))
        (first | with_reducible assumption | go_simp)
        (first
         | ((go_at_call 14;(with_reducible refine (HI.o wh.drew).mono ?_);rintro e v1 ⟨A5,c5,A6,c6,rfl,h5,h6,hb⟩;have HB1:Hid (Below wh.heap.size wh v1):=zAa (zAd (aS _ _) 1) hb;have HX1:=zq (HX.o.below HB1.o);have HY1:=zq (HY.o.below HB1.o);have HN11:=zq (HN1.o.below HB1.o);have HN21:=zq (HN2.o.below HB1.o);have HL1:=zq (HL.o.below HB1.o);have HSH1:=zq (HSH.o.below HB1.o);have G51:=zq h5;have G61:=zq h6;clear hb h5 h6 x4;have x4:=HX1.o.c 4 rfl))
         | ((go_at_call 98;(with_reducible refine (withS_c v2 K f d.fr z A5 A6 c5 c6 v1 HL1.o HKI.o hkl G51.out G61.out).mono ?_);rintro e v3 ⟨AG,cG,nG,rfl,hh,hb⟩;have HB2:=zq (zAa HB1.o hb);have HX2:=zq (HX1.o.below hb);have HY2:=zq (HY1.o.below hb);have HN12:=zq (HN11.o.below hb);have HN22:=zq (HN21.o.below hb);have HL2:=zq (HL1.o.below hb);have HSH2:=zq (HSH1.o.below hb);have G52:=zq (G51.out.below hb);have G62:=zq (G61.out.below hb);have HM2:=zq hh;clear hb hh x4;have x4:=HX2.o.c 4 rfl)))
       have HB3:=zq (zAa HBH.o HB2.o);have HS0:Hid (HoS v3 (.slice AG nG cG) (zBk (d.sh.take 0) (zDW d.fr K)) (zBG (f d.fr) (d.sh.take 0) (upH f d.fr 0))):=by rw [←HZ.o];exact HM2.o
       clear x4 HX HY HN1 HN2 HL HSH HX1 HY1 HN11 HN21 HL1 HSH1 HB1 HM2 HL2;have x14:=HX2.o.c 14 rfl;have sx:=HX2.o.lt;go_wp2
       go_loopg [10,20] d.sh.length (PrD v3 (zDW d.fr K) (upH f d.fr 0) d (f d.fr))
       case atStart=>exact ⟨0,_,rfl,za,rfl,HS0.o,aS _ _⟩
       clear x14 sx
       case round =>
        obtain ⟨j,v5,rfl,hjm,rfl,hho,hb⟩:=hrel;have HJ:=zq hjm;have HL:=zq hho;have HBJ:=zq hb;have HX:=zq (HX2.o.below hb);have HY:=zq (HY2.o.below hb);have HN1:=zq (HN12.o.below hb);have HN2:=zq (HN22.o.below hb);have hsx:=HX.o.lt;have hsy:=HY.o.lt;clear hjm hho hb
        by_cases hjl:j<d.sh.length
        ·obtain ⟨b2',o2,hA,hc2⟩:=(HSH2.o.below HBJ.o) za
         have k0:=(hc2 j hjl).1;have k1:=(hc2 j hjl).2.1;have k2:=(hc2 j hjl).2.2;have HMEM:=zq (aJ hjl);have HPS:=zq (passAll_succ (f d.fr) (upH f d.fr 0) hjl);have HKA:=zq (keysAll_succ (zDW d.fr K) hjl);obtain ⟨q1,q2,q3,q4⟩:=HPF.o.mid j za;have htl:d.sh.length≤20:=hshl;generalize d.sh[j]=s at *;have HFQ:Hid (∀ u,Calls Tryz.prog 17 #[.agg #[.string s.nu,.string s.de]] u (zDk (shQ s) u)):=fun u=>OfT_c s.nu s.de u (HPF.o.so.rat s HMEM.o) (HPF.o.so.pos s HMEM.o)
         have HMP:Hid (0≤f d.fr*shQ s):=(HPF.o.ml s HMEM.o).1;have HMS:Hid (SzQ 10000000 (f d.fr*shQ s)):=(HPF.o.ml s HMEM.o).2;have HQP:Hid (0≤shQ s):=shQ_pos s;have HQS:Hid (SzQ 2000 (shQ s)):=ratQ_sz (HPF.o.so.rat s HMEM.o);have HA:=zq hA;have x14:wr.cell? ⟨gd,14,none⟩=some (.slice (some ⟨b2',o2,none⟩) d.sh.length d.shc):=by rw [←hA];exact HX.o.c 14 rfl
         clear hc2 hA;obtain ⟨fj,hfj⟩:∃ fj,fj=zBG (f d.fr) (d.sh.take j) (upH f d.fr 0):=⟨_,rfl⟩;obtain ⟨Kj,hKj⟩:∃ Kj,Kj=zBk (d.sh.take j) (zDW d.fr K):=⟨_,rfl⟩;rw [←hfj] at HL HPS q2 q4;rw [←hKj] at HL HKA q1 q2 q3;have HFJ:=zq hfj;have HJJ:=zq hKj;have HKI2:=zq q1;have HKO2:=zq q2;have hkl2:=q3;have HFJP:Hid (0≤fj s.pt):=q2.pos _;have HFJS:Hid (SzQ 10000000 (fj s.pt)):=q4 _;clear hfj hKj q1 q2 q3 q4;go_upto_region 28 with fail
         obtain ⟨b0,b1,b2⟩:=HY.o.t;clear k0 hsx hsy
         go_region_held3 (fun w'=>(w'.cell? ⟨gd,14,none⟩=some (.slice (some ⟨b2',o2,none⟩) d.sh.length d.shc))∧(w'.cell? ⟨b2',o2+j*3+1,none⟩=some (.string s.nu)∧w'.cell? ⟨b2',o2+j*3+2,none⟩=some (.string s.de))∧(w'.cell? ⟨gh,0,none⟩=some (.bool false)∧w'.cell? ⟨gh,1,none⟩=some (.slice AH (zAc BT (f d.fr).num.natAbs).length cH)∧w'.cell? ⟨gh,2,none⟩=some (.slice AH2 (zAc BT (f d.fr).den).length cH2)))
          ((refine ⟨?_,⟨?_,?_⟩,?_,?_,?_⟩<;>first | with_reducible assumption | go_simp))
          (first
           | ((go_at_call 100;(with_reducible refine (partS_c v5 Kj fj s.pt wr.drew (HL.o.below (zAd (aS _ _) 1)) HKO2.o hkl2).mono ?_);rintro e u1 ⟨A1,c1,A2,c2,rfl,h1,h2,hb⟩;have HB1:Hid (Below wr.heap.size wr u1):=zAa (zAd (aS _ _) 1) hb;have HX1:=zq (HX.o.below HB1.o);have HY1:=zq (HY.o.below HB1.o);have HN11:=zq (HN1.o.below HB1.o);have HN21:=zq (HN2.o.below HB1.o);have HL1:=zq (HL.o.below HB1.o);have G11:=zq h1;have G21:=zq h2;replace x14:=zAg HB1.o x14;replace k1:=zAg HB1.o k1;replace k2:=zAg HB1.o k2;clear hb h1 h2 b0 b1 b2;obtain ⟨b0,b1,b2⟩:=HY1.o.t))
           | ((go_at_call 17;(with_reducible refine (HFQ.o u1).mono ?_);rintro e u2 ⟨A7,c7,A8,c8,rfl,h7,h8,hb⟩;have HB2:=zq (zAa HB1.o hb);have HX2:=zq (HX1.o.below hb);have HY2:=zq (HY1.o.below hb);have HN12:=zq (HN11.o.below hb);have HN22:=zq (HN21.o.below hb);have HL2:=zq (HL1.o.below hb);have G12:=zq (G11.out.below hb);have G22:=zq (G21.out.below hb);have G72:=zq h7;have G82:=zq h8;replace x14:=zAg hb x14;replace k1:=zAg hb k1;replace k2:=zAg hb k2;clear hb h7 h8 b0 b1 b2;obtain ⟨b0,b1,b2⟩:=HY2.o.t))
           | ((go_at_call 101;(with_reducible refine (TimesQ_c AH AH2 A7 A8 cH cH2 c7 c8 (f d.fr) (shQ s) u2 HN12.o HN22.o G72.out G82.out HFP.o HQP.o (HFS.o.le za) (HQS.o.le za)).mono ?_);rintro e u3 ⟨A9,c9,AD,cD,rfl,h9,hD,hb⟩;have HB3:=zq (zAa HB2.o hb);have HX3:=zq (HX2.o.below hb);have HY3:=zq (HY2.o.below hb);have HN13:=zq (HN12.o.below hb);have HN23:=zq (HN22.o.below hb);have HL3:=zq (HL2.o.below hb);have G13:=zq (G12.out.below hb);have G23:=zq (G22.out.below hb);have G73:=zq (G72.out.below hb);have G83:=zq (G82.out.below hb);have G93:=zq h9;have GD3:=zq hD;replace x14:=zAg hb x14;replace k1:=zAg hb k1;replace k2:=zAg hb k2;clear hb h9 hD b0 b1 b2;obtain ⟨b0,b1,b2⟩:=HY3.o.t))
           | ((go_at_call 16;(with_reducible refine (PlusQ_c A1 A2 A9 AD c1 c2 c9 cD (fj s.pt) (f d.fr*shQ s) u3 G13.out G23.out G93.out GD3.out HFJP.o HMP.o (HFJS.o.le za) (HMS.o.le za)).mono ?_);rintro e u4 ⟨AE,cE,AF,cF,rfl,hE,hF,hb⟩;have HB4:=zq (zAa HB3.o hb);have HX4:=zq (HX3.o.below hb);have HY4:=zq (HY3.o.below hb);have HN14:=zq (HN13.o.below hb);have HN24:=zq (HN23.o.below hb);have HL4:=zq (HL3.o.below hb);have G14:=zq (G13.out.below hb);have G24:=zq (G23.out.below hb);have G94:=zq (G93.out.below hb);have GD4:=zq (GD3.out.below hb);have GE4:=zq hE;have GF4:=zq hF;replace x14:=zAg hb x14;replace k1:=zAg hb k1;replace k2:=zAg hb k2;clear hb hE hF b0 b1 b2;obtain ⟨b0,b1,b2⟩:=HY4.o.t))
           | ((go_at_call 98;(with_reducible refine (withS_c v5 Kj fj s.pt (fj s.pt+f d.fr*shQ s) AE AF cE cF u4 HL4.o HKI2.o hkl2 GE4.out GF4.out).mono ?_);rintro e u5 ⟨AG,cG,nG,rfl,hh,hb⟩;have HB5:=zq (zAa HB4.o hb);have HX5:=zq (HX4.o.below hb);have HY5:=zq (HY4.o.below hb);have HN15:=zq (HN14.o.below hb);have HN25:=zq (HN24.o.below hb);have HL5:=zq (HL4.o.below hb);have GE5:=zq (GE4.out.below hb);have GF5:=zq (GF4.out.below hb);have HM5:=zq hh;replace x14:=zAg hb x14;replace k1:=zAg hb k1;replace k2:=zAg hb k2;clear hb hh b0 b1 b2;obtain ⟨b0,b1,b2⟩:=HY5.o.t)))
         have HE:Hid (HoS u5 (.slice AG nG cG) (zBk (d.sh.take (j+1)) (zDW d.fr K)) (zBG (f d.fr) (d.sh.take (j+1)) (upH f d.fr 0))):=by show HoS _ _ _ _;rw [HPS.o,HKA.o];exact HM5.o
         have HBE:=zq (zAa HBJ.o HB5.o);clear x14 k1 k2 b0 b1 b2;go_wp2
         go_roundg (gk - 1)
         case measure=>have:=HJ.o;omega
         case rel=>exact ⟨j+1,_,rfl,yb,zi,HE.o,HBE.o⟩
        ·obtain rfl:j=d.sh.length:=by have:=HJ.o;omega
         have x14:=HX.o.c 14 rfl
         have HE:Hid (HoS wr v5 (zBD rs ds i th use day (k+1)) (zAH rs ds i th use day (k+1))):=by
          have:=HL.o;rw [bX] at this
          show HoS _ _ _ _
          rw [HEP.o,HEQ.o];unfold zCY zAw;rw [aE HE5.o,aE HE5.o];exact this
         have HBE:=zq (zAa HB3.o HBJ.o);clear HL;go_wp2;go_meet;exact ⟨_,rfl,HE.o,HBE.o⟩
       -- @@4
     case rest =>
     obtain ⟨v5,rfl,hho5,hb5⟩:=hcut;obtain ⟨w5,hw5⟩:∃ w5,w5=wc:=⟨_,rfl⟩;subst hw5;have HBK:=zq (zAa HBD.o (zAa HB4.o hb5));have HPS:=zq (HPK.o.below HBK.o);clear hb5 HNP HX4 HY4 HH4 HSH4 HB4 HBD HTA HTK HSK HVA HPA HSH1 HD1 HXD HYD HH1 HFZ HKI HKO HEF HEK;have HHK:=zq hho5;obtain ⟨A,c,l,rfl,hrd,hok,hpr⟩:=hho5;have hll:l.length≤1000000:=by rw [zDG hpr];exact HKN.o
     have HRD:=zq hrd;have HOK:=zq hok;have HPR:=zq hpr;have HQS:Hid (∀ x∈l,SzQ 10000000 x.q):=fun x hx=>by rw [hos_q hpr x hx];exact HFN.o _
     clear hrd hok hpr HFN HKN;go_wp2
     go_loopg [11,22] l.length (PrE w5 (zCl rs ds i th use day k) (prH l))
     case atStart=>exact ⟨0,_,by rw [aM];omega,rfl,rfl,ze,aS _ _⟩
     case round =>
      obtain ⟨j,lb,hjm,rfl,rfl,hle,hb⟩:=hrel;rw [aM] at hjm;have HJ:=zq hjm;have HLE:=zq hle;have HBJ:=zq hb;clear hjm hle hb
      by_cases hjl:j<l.length
      ·obtain ⟨b2',o2,hA,hc2⟩:=HRD.o za
       subst hA;have hrg0:=ho_at hc2 hjl;have hrg:wr.rangeAt b2' (o2+j*4) (eHo l[j]):=fun q v hv=>zAg HBJ.o (hrg0 q v hv)
       have hkx:=HOK.o _ (aJ hjl);have HSN:=zq (any_snoc hjl);have hqx:=HQS.o _ (aJ hjl);generalize l[j]=x at *;obtain ⟨pt,t,b,q⟩:=x;obtain ⟨A3,c3,A4,c4,e3,e4,h3,h4⟩:=hkx;simp only at e3 e4 hqx;subst e3;subst e4;have HQX:=zq hqx;have x1:wr.cell? ⟨b2',o2+j*4+1,none⟩=some (.bool false):=hrg 1 _ rfl;have x2:wr.cell? ⟨b2',o2+j*4+1+1,none⟩=some (.slice A3 (zAc BT q.num.natAbs).length c3):=hrg 2 _ rfl;have x3:wr.cell? ⟨b2',o2+j*4+1+2,none⟩=some (.slice A4 (zAc BT q.den).length c4):=hrg 3 _ rfl;have HLQ:=zq (LongQ_c A3 A4 c3 c4 q wr (h3.below HBJ.o) (h4.below HBJ.o) (hqx.le za) (HPS.o.below HBJ.o));clear hrg0 hrg hqx h3 h4 hc2
       cases lb with
       | true =>
        have HE:Hid (true=(zCl rs ds i th use day k || ((prH l).take (j+1)).any fun x=>zCK x.2)):=by
         show _=_
         rw [HSN.o,←Bool.or_assoc,←HLE.o];rfl
        clear HLQ;go_wp2
        go_roundg (gk - 1)
        case measure=>have:=HJ.o;omega
        case rel=>exact ⟨j+1,true,jo,zi,rfl,HE.o,HBJ.o⟩
       | false =>
        have HE:Hid (zCK q=(zCl rs ds i th use day k || ((prH l).take (j+1)).any fun x=>zCK x.2)):=by
         show _=_
         rw [HSN.o,←Bool.or_assoc,←HLE.o];rfl
        go_wp2_with fail
        with_reducible refine HLQ.o.mono ?_
        rintro e w6 ⟨rfl,hb6⟩;have HBX:=zq (zAa HBJ.o hb6);clear x1 x2 x3 hb6 HLQ;go_wp2
        go_roundg (gk - 1)
        case measure=>have:=HJ.o;omega
        case rel=>exact ⟨j+1,_,jo,zi,rfl,HE.o,HBX.o⟩
      ·obtain rfl:j=l.length:=by have:=HJ.o;omega
       have HE:Hid (lb=zCl rs ds i th use day (k+1)):=by
        show _=_
        have h1:=HLE.o;rw [cY (by rw [aM];exact aB _),HPR.o,any_pairs] at h1
        rw [HLS.o];exact h1
       have HHF:=zq (HHK.o.below HBJ.o);have HBF:=zq (zAa HBK.o HBJ.o);clear HLE;go_wp2
       go_roundg (n - (k+1))
       case measure=>have:=HK.o;omega
       case rel=>exact ⟨k+1,_,rfl,zh,zi,by rw [HE.o],HHF.o,HBF.o⟩
    ·obtain rfl:k=n:=by have:=HK.o;omega
     obtain ⟨w5,hw5⟩:∃ w5,w5=wr:=⟨_,rfl⟩;subst hw5;obtain ⟨A,c,l,rfl,hrd,hok,hpr⟩:=HHO.o;have hll:l.length≤1000000:=by rw [zDG hpr];exact keys_len HC.o i th use day k hn
     have HRD:=zq hrd;have HOK:=zq hok;have HPR:=zq hpr;have HQS:Hid (∀ x∈l,True):=fun _ _=>trivial
     clear hrd hok hpr x2 hsx HX1 HHO;go_wp2
     go_loopg [23,24] l.length (PrF w5 (prH l))
     case atStart=>exact ⟨0,_,[],rfl,by rw [aM];omega,rfl,zAT.nil _ _ _ _ _,fun x hx=>(by cases hx),aB _,ze,aS _ _⟩
     case round =>
      obtain ⟨j,v,lo,rfl,hjm,rfl,hown,hoko,hlo,hprl,hb⟩:=hrel;rw [aM] at hjm;have HJ:=zq hjm;have HOW:=zq hown;have HKO:=zq hoko;have HPL:=zq hprl;have HBJ:=zq hb;clear hjm hown hoko hprl hb
      by_cases hjl:j<l.length
      ·obtain ⟨b2',o2,hA,hc2⟩:=HRD.o za
       subst hA;have hrg0:=ho_at hc2 hjl;have hrg:wr.rangeAt b2' (o2+j*4) (eHo l[j]):=fun q v hv=>zAg HBJ.o (hrg0 q v hv)
       have hkx:=HOK.o _ (aJ hjl);have HSN:=zq (filter_snoc hjl);have hqx:=HQS.o _ (aJ hjl);generalize l[j]=x at *;obtain ⟨pt,t,b,q⟩:=x;obtain ⟨A3,c3,A4,c4,e3,e4,h3,h4⟩:=hkx;simp only at e3 e4 hqx;subst e3;subst e4;have HQX:=zq hqx;have x1:wr.cell? ⟨b2',o2+j*4+1,none⟩=some (.bool false):=hrg 1 _ rfl;have x2:wr.cell? ⟨b2',o2+j*4+1+1,none⟩=some (.slice A3 (zAc BT q.num.natAbs).length c3):=hrg 2 _ rfl;have x3:wr.cell? ⟨b2',o2+j*4+1+2,none⟩=some (.slice A4 (zAc BT q.den).length c4):=hrg 3 _ rfl;have HNT:Hid (NumT w5 (lmV A3 c3 q.num.natAbs) (lmV A4 c4 q.den) q):=⟨A3,c3,A4,c4,rfl,rfl,h3,h4⟩;have HRG:=zq hrg;have hiz:=isZero_c false A3 A4 c3 c4 q.num.natAbs q.den wr;rw [num_zero] at hiz;obtain ⟨zb,hzb⟩:∃ zb,zb=decide (q=0):=⟨_,rfl⟩;rw [←hzb] at hiz;have HIZ:=zq hiz;have HZB:=zq hzb;clear hrg0 hrg h3 h4 hc2 hiz hzb hqx HQX
       go_wp2_with fail
       with_reducible refine HIZ.o.mono ?_
       rintro e w6 ⟨rfl,hb6⟩;have HB6:=zq (zAa HBJ.o hb6);have HOW6:=zq (HOW.o.below hb6);have hrg6:w6.rangeAt b2' (o2+j*4) (eHo ⟨pt,lmV A3 c3 q.num.natAbs,lmV A4 c4 q.den,q⟩):=fun i v hv=>zAg hb6 (HRG.o i v hv)
       have hWr:w5.heap.size≤w6.heap.size:=HB6.o.size;clear x1 x2 x3 hb6 HIZ HRG HOW
       cases zb with
       | true =>
        have HE:Hid (prH lo=((prH l).take (j+1)).filter fun x=>decide (x.2≠0)):=by
         show _=_
         have hq0:q=0:=of_decide_eq_true HZB.o.symm;rw [HSN.o,HPL.o,aE hq0,aD]
        clear hrg6;go_wp2
        go_roundg (gk - 1)
        case measure=>have:=HJ.o;omega
        case rel=>exact ⟨j+1,_,lo,rfl,jo,zi,HOW6.o,HKO.o,za,HE.o,HB6.o⟩
       | false =>
        have HE:Hid (prH (lo++[⟨pt,lmV A3 c3 q.num.natAbs,lmV A4 c4 q.den,q⟩])=((prH l).take (j+1)).filter fun x=>decide (x.2≠0)):=by
         show _=_
         have hq0:¬ q=0:=of_decide_eq_false HZB.o.symm;rw [HSN.o,prH_app,HPL.o,aC hq0];rfl
        go_upto_region 38 with fail
        iterate 14 go_step
        refine fC _ _ zk b2' (o2+j*4) zk (eHo ⟨pt,lmV A3 c3 q.num.natAbs,lmV A4 c4 q.den,q⟩) _ hrg6 Tryz.underlying123 rfl zc ?_
        go_wp2_with (at_builtin;refine zBB _ _ _ elHo rfl rfl w5.heap.size v lo rfl (HOW6.o.alloc _) w6.heap.size 1 (⟨pt,lmV A3 c3 q.num.natAbs,lmV A4 c4 q.den,q⟩:Ho) rfl (cS _ _) rfl (oneHo HNT.o) zm za zg ?_;intro v3 w7 hown7 hg7 hb7)
        have HO7:=zq hown7;have HB7:=zq ((HB6.o.alloc hWr _).trans hb7);clear hown7 hg7 hb7;go_wp2
        go_roundg (gk - 1)
        case measure=>have:=HJ.o;omega
        case rel =>
         refine ⟨j+1,_,lo++[⟨pt,lmV A3 c3 q.num.natAbs,lmV A4 c4 q.den,q⟩],rfl,jo,zi,HO7.o,fun y hy=>?_,by rw [dA];simp;omega,HE.o,HB7.o⟩
         rcases List.mem_append.1 hy with h | h
         ·exact HKO.o y h
         ·rw [List.mem_singleton.1 h];exact HNT.o
      ·obtain rfl:j=l.length:=by have:=HJ.o;omega
       have HE:Hid (prH lo=zCT (holL (zBD rs ds i th use day k) (zAH rs ds i th use day k)) (zAH rs ds i th use day k)):=by
        show _=_
        rw [HPL.o,cY (by rw [aM];exact aB _),HPR.o,filter_pairs]
       obtain ⟨A5,c5,rfl,hrd5⟩:=HOW.o.rdk;have HR5:=zq hrd5;have HK5:=zq (HKO.o.below HBJ.o);have HBF:=zq (zAa HB.o (zAa HBW.o HBJ.o));clear hrd5;go_wp2;go_ret2
       exact ⟨A5,c5,_,rfl,⟨A5,c5,lo,rfl,HR5.o,HK5.o,HE.o⟩,HBF.o⟩
end Go.Proofs.YtieoifkdobcpiaaGreatDoor
