/- Package right: parts: take. -/
import Derived.Test.YtieoifkdobcpiaaGreatDoorSg25
set_option maxRecDepth 100000
set_option maxHeartbeats 8000000
namespace Go.Proofs.YtieoifkdobcpiaaGreatDoor
open Go.RowKit Dw
def TkR (W:World) (g _bd _bh:Nat) (d:De) (f:zBa) (_hasC:Array Value) (m:Nat) (iv:Value) (wr:World):Prop :=
 ∃ j:Nat,j+m=d.sh.length∧iv = .int .i64 (j:Int)∧zAw wr g (zBN (f d.fr) (d.sh.take j) (upH f d.fr 0))∧W.grownBy wr (some g)
theorem passAll_succ (x:Rat) {l:List Sh} (f:zBa) {j:Nat} (h:j<l.length):zBN x (l.take (j+1)) f=upH (zBN x (l.take j) f) l[j].pt (zBN x (l.take j) f l[j].pt+x*shQ l[j]):=by
 unfold zBN;rw [bF h,bL]
 rfl
theorem sh_le_sum {s:Sh}:∀ {l:List Sh},s∈l→shQ s≤zBw l
 | [],h=>qh
 | a::l,h=>by
  have e:zBw (a::l)=shQ a+zBw l:=rfl;rw [e];have h1:=shSum_pos l;have h2:=shQ_pos a
  rcases List.mem_cons.1 h with rfl | h
  ·grind
  ·have:=sh_le_sum h
   grind
abbrev shCl (s:Sh):Array Value:=#[.string s.pt,.string s.nu,.string s.de]
theorem take_pass (g:Nat) (N:List BA) (M:Nat) (f:zBa) (d:De) (w:World) (hp:zAw w g f) (hs:Shs w d.shA d.sh) (hk:d.kd=5) (hpo:ParOk d) (hh:HoldB N M f) (hfr:d.fr∈N) (hsh:∀ s∈d.sh,s.pt∈N) (hsz:SzN 90000000 (M*denP d.sh)) (hl:d.sh.length≤1000000) :
  Calls Tryz.prog 72 #[.map (some g),deV d] w (GivesP g (zDt d f) w):=by
 have hko:(d.kd == 5)=true:=by simp [hk]
 obtain ⟨hso,hsum,hne⟩:=hpo.pas hk;have hdz:=denP_nz fun s hs=>zCe (hso.rat s hs)
 have HMID:Hid (∀ j,j≤d.sh.length→HoldB N (M*denP d.sh) (zBN (f d.fr) (d.sh.take j) (upH f d.fr 0))):=fun j hj=>hh.passMid hfr hsh (fun s hs=>zCe (hso.rat s hs)) hsum j hj
 have HTK:Hid (zDt d f=zBN (f d.fr) d.sh (upH f d.fr 0)):=by show _=_;unfold zDt;rw [aF hk]
 have HMD:Hid (M∣M*denP d.sh):=Nat.dvd_mul_right _ _;have HSZ:=zq hsz;have HH:=zq hh;have HSO:=zq hso;have HFS:Hid (SzQ 90000000 (f d.fr)):=szQ_le (hh.ok.pos _) (hh.le _) (eS (hh.den _) HMD.o) (eO hh.nz hdz) hsz;have HFP:Hid (0≤f d.fr):=hh.ok.pos _
 have HML:Hid (∀ s∈d.sh,0≤f d.fr*shQ s∧SzQ 90000000 (f d.fr*shQ s)):=fun s hs=>by
  have h1:zCX s.nu s.de≤1:=by
   have:=sh_le_sum hs;rw [hsum] at this;exact this
  have h2:=mul_le (hh.ok.pos d.fr) (hh.le d.fr) (shQ_pos s) h1;exact ⟨h2.1,szQ_le h2.1 h2.2 (eS den_mul (Nat.mul_dvd_mul (hh.den _) (eS (shQ_den (zCe (hso.rat s hs))) (denP_dvd hs)))) (eO hh.nz hdz) hsz⟩
 rw [HTK.o];clear hpo hh hfr hsh hsz hso hsum hne hdz hk;have hbw:Below w.heap.size w (w.alloc (.cells (deC d) 52)):=(aN _ _).alloc (aC _) _;have HX:Hid (Bx (w.alloc (.cells (deC d) 52)) w.heap.size (deC d) 52):=Bx.new _ _ _;obtain ⟨W,hW⟩:∃ W,W=w.alloc (.cells (deC d) 52):=⟨_,rfl⟩;rw [←hW] at hbw HX;have HB:=zq hbw;have HPM:=zq (hp.below hbw);have HSH:=zq (hs.below hbw);have HOF:=zq (of_c g f d.fr W HPM.o);clear hp hs hbw
 go_enter Tryz.func72,Tryz.ntmps72
 go_upto_region 1 with fail
 rw [←hW];clear hW;have x4:=HX.o.c 4 rfl;have hsx:=HX.o.lt
 go_wp2_with fail
 with_reducible refine HOF.o.mono ?_
 rintro e w1 ⟨A,c,A2,c2,rfl,h1,h2,hb1⟩;have hb2:Below w1.heap.size w1 (w1.alloc (.cells (raC A c (f d.fr).num.natAbs A2 c2 (f d.fr).den) 89)):=(aN _ _).alloc (aC _) _;have hb3:=zAa hb1 hb2;have HX2:=zq (HX.o.below hb3);have HB2:=zq (zAa HB.o hb3);have HPM2:=zq (HPM.o.below hb3);have HSH2:=zq (HSH.o.below hb3);have HH1:=zq (h1.below hb2);have HH2:=zq (h2.below hb2);have HY2:Hid (Bx (w1.alloc (.cells (raC A c (f d.fr).num.natAbs A2 c2 (f d.fr).den) 89)) w1.heap.size (raC A c (f d.fr).num.natAbs A2 c2 (f d.fr).den) 89):=Bx.new _ _ _;clear x4 hsx h1 h2 hb1 hb2 hb3 HX HB HPM HSH HOF;go_upto_region 2 with fail
 obtain ⟨w2,hw2⟩:∃ w2,w2=w1.alloc (.cells (raC A c (f d.fr).num.natAbs A2 c2 (f d.fr).den) 89):=⟨_,rfl⟩;rw [←hw2] at HX2 HB2 HPM2 HSH2 HH1 HH2 HY2 ⊢;clear hw2;have x2:=HX2.o.c 2 rfl;have x4:=HX2.o.c 4 rfl;have hsx:=HX2.o.lt;go_upto_region 3 with fail
 obtain ⟨w3,hr3,hp3,hg3,hs3⟩:=run_del HPM2.o d.fr 0;have HX3:=zq (HX2.o.parts HPM2.o hg3);have HY3:=zq (HY2.o.parts HPM2.o hg3);have HSH3:=zq (HSH2.o.parts HPM2.o hg3);have HN1:=zq (HH1.o.parts HPM2.o hg3);have HN2:=zq (HH2.o.parts HPM2.o hg3);have HG3:Hid (w.grownBy w3 (some g)):=(zAH HB2.o _).trans hg3;have HPM3:=zq hp3;go_upto_region 4 with fail
 clear hr3 hp3 hg3 hs3 x2 x4 hsx hko HX2 HY2 HB2 HPM2 HSH2 HH1 HH2;have x14:=HX3.o.c 14 rfl;have hsx:=HX3.o.lt;go_wp2
 go_loopg [21] d.sh.length (TkR w3 g w.heap.size w1.heap.size d f (raC A c (f d.fr).num.natAbs A2 c2 (f d.fr).den))
 case atStart=>exact ⟨0,za,rfl,HPM3.o,World.grownBy.refl _ _⟩
 clear x14 hsx
 case round =>
  obtain ⟨j,hjm,rfl,hpm,hg⟩:=hrel;have HJ:=zq hjm;have HPM:=zq hpm;have HG:=zq hg;clear hjm hpm hg
  by_cases hlt:j<d.sh.length
  ·obtain ⟨b,o,hA,hc⟩:=(HSH3.o.parts HPM3.o HG.o) za
   have c0:=(hc j hlt).1;have c1:=(hc j hlt).2.1;have c2':=(hc j hlt).2.2;have HMEM:=zq (aJ hlt);have HPS:=zq (passAll_succ (f d.fr) (upH f d.fr 0) hlt);have HHJ:=zq (HMID.o j za);have HHJ1:=zq (HMID.o (j+1) za);generalize d.sh[j]=s at *;have HFQ:Hid (∀ u,Calls Tryz.prog 70 #[.agg #[.string s.nu,.string s.de]] u (zCx (shQ s) u)):=fun u=>FromQ_c s.nu s.de u (HSO.o.rat s HMEM.o) (HSO.o.pos s HMEM.o)
   have HM1:=HML.o s HMEM.o;have HMP:Hid (0≤f d.fr*shQ s):=HM1.1;have HMS:Hid (SzQ 90000000 (f d.fr*shQ s)):=HM1.2;have HQP:Hid (0≤shQ s):=shQ_pos s;have HQS:Hid (SzQ 2000 (shQ s)):=ratQ_sz (HSO.o.rat s HMEM.o);have HXr:=zq (HX3.o.parts HPM3.o HG.o);have HYr:=zq (HY3.o.parts HPM3.o HG.o);have HN1r:=zq (HN1.o.parts HPM3.o HG.o);have HN2r:=zq (HN2.o.parts HPM3.o HG.o);have HA:=zq hA;have hba:Below wr.heap.size wr (wr.alloc (.cells (shCl s) 42)):=(aN _ _).alloc (aC _) _;have HZ:Hid (Bx (wr.alloc (.cells (shCl s) 42)) wr.heap.size (shCl s) 42):=Bx.new _ _ _;have HBA:=zq hba;rw [hA];clear hc hA HM1 hba;go_upto_region 7 with fail
   clear c0 c1 c2';obtain ⟨fj,hfj⟩:∃ fj,fj=zBN (f d.fr) (d.sh.take j) (upH f d.fr 0):=⟨_,rfl⟩;rw [←hfj] at HPM HHJ HPS;have HFJ:=zq hfj;clear hfj;obtain ⟨w4,hw4⟩:∃ w4,w4=wr.alloc (.cells (shCl s) 42):=⟨_,rfl⟩;rw [←hw4] at HZ HBA ⊢;clear hw4;have HX4:=zq (HXr.o.below HBA.o);have HY4:=zq (HYr.o.below HBA.o);have HPM4:=zq (HPM.o.below HBA.o);have HN14:=zq (HN1r.o.below HBA.o);have HN24:=zq (HN2r.o.below HBA.o);obtain ⟨a0,a1,a2⟩:=HZ.o.t;obtain ⟨b0,b1,b2⟩:=HY4.o.t
   go_region_held3 (fun w'=>(w'.cell? ⟨wr.heap.size,0,none⟩=some (.string s.pt)∧w'.cell? ⟨wr.heap.size,1,none⟩=some (.string s.nu)∧w'.cell? ⟨wr.heap.size,2,none⟩=some (.string s.de))∧(w'.cell? ⟨w1.heap.size,0,none⟩=some (.bool false)∧w'.cell? ⟨w1.heap.size,1,none⟩=some (.slice A (zAd B32 (f d.fr).num.natAbs).length c)∧w'.cell? ⟨w1.heap.size,2,none⟩=some (.slice A2 (zAd B32 (f d.fr).den).length c2)))
    ((refine ⟨⟨?_,?_,?_⟩,?_,?_,?_⟩<;>first | with_reducible assumption | go_simp))
    (first
     | ((go_at_call 49;(with_reducible refine (of_c g fj s.pt w4.drew (HPM4.o.below (zAc (aN _ _) 1))).mono ?_);rintro e1 w5 ⟨A5,c5,A6,c6,rfl,h5,h6,hb5⟩;have HB5:Hid (Below w4.heap.size w4 w5):=(zAc (aN _ _) 1).trans hb5;have HZ5:=zq (HZ.o.below HB5.o);have HY5:=zq (HY4.o.below HB5.o);have HX5:=zq (HX4.o.below HB5.o);have HPM5:=zq (HPM4.o.below HB5.o);have HN15:=zq (HN14.o.below HB5.o);have HN25:=zq (HN24.o.below HB5.o);have H5:=zq h5;have H6:=zq h6;clear h5 h6 hb5 a0 a1 a2 b0 b1 b2;obtain ⟨a0,a1,a2⟩:=HZ5.o.t;obtain ⟨b0,b1,b2⟩:=HY5.o.t))
     | ((go_at_call 70;(with_reducible refine (HFQ.o w5).mono ?_);rintro e2 w6 ⟨A7,c7,A8,c8,rfl,h7,h8,hb6⟩;have HB6:=zq (zAa HB5.o hb6);have HZ6:=zq (HZ5.o.below hb6);have HY6:=zq (HY5.o.below hb6);have HX6:=zq (HX5.o.below hb6);have HPM6:=zq (HPM5.o.below hb6);have HN16:=zq (HN15.o.below hb6);have HN26:=zq (HN25.o.below hb6);have H56:=zq (H5.o.below hb6);have H66:=zq (H6.o.below hb6);have H7:=zq h7;have H8:=zq h8;clear h7 h8 hb6 a0 a1 a2 b0 b1 b2;obtain ⟨a0,a1,a2⟩:=HZ6.o.t;obtain ⟨b0,b1,b2⟩:=HY6.o.t))
     | ((go_at_call 113;(with_reducible refine (MulQ_c A A2 A7 A8 c c2 c7 c8 (f d.fr) (shQ s) w6 HN16.o HN26.o H7.o H8.o HFP.o HQP.o (HFS.o.le za) (HQS.o.le za)).mono ?_);rintro e3 w7 ⟨A9,c9,AD,cD,rfl,h9,hD,hb7⟩;have HB7:=zq (zAa HB6.o hb7);have HZ7:=zq (HZ6.o.below hb7);have HY7:=zq (HY6.o.below hb7);have HX7:=zq (HX6.o.below hb7);have HPM7:=zq (HPM6.o.below hb7);have H57:=zq (H56.o.below hb7);have H67:=zq (H66.o.below hb7);have H9:=zq h9;have HD:=zq hD;clear h9 hD hb7 a0 a1 a2 b0 b1 b2;obtain ⟨a0,a1,a2⟩:=HZ7.o.t;obtain ⟨b0,b1,b2⟩:=HY7.o.t))
     | ((go_at_call 75;(with_reducible refine (AddQ_c A5 A6 A9 AD c5 c6 c9 cD (fj s.pt) (f d.fr*shQ s) w7 H57.o H67.o H9.o HD.o (HHJ.o.ok.pos _) HMP.o ((HHJ.o.sz HSZ.o _).le za) (HMS.o.le za)).mono ?_);rintro e4 w8 ⟨AE,cE,AF,cF,rfl,hE,hF,hb8⟩;have HB8:=zq (zAa HB7.o hb8);have HZ8:=zq (HZ7.o.below hb8);have HY8:=zq (HY7.o.below hb8);have HX8:=zq (HX7.o.below hb8);have HPM8:=zq (HPM7.o.below hb8);have HE:=zq hE;have HF:=zq hF;clear hE hF hb8 a0 a1 a2 b0 b1 b2;obtain ⟨a0,a1,a2⟩:=HZ8.o.t;obtain ⟨b0,b1,b2⟩:=HY8.o.t))
     | ((go_at_call 69;(with_reducible refine (put_c g fj s.pt AE AF cE cF (fj s.pt+f d.fr*shQ s) w8 HPM8.o HE.o HF.o).mono ?_);rintro e5 w9 ⟨rfl,hp9,hg9⟩;have HZ9:=zq (HZ8.o.parts HPM8.o hg9);have HY9:=zq (HY8.o.parts HPM8.o hg9);have HPM9:=zq hp9;have HG9:=zq hg9;clear hp9 hg9 a0 a1 a2 b0 b1 b2;obtain ⟨a0,a1,a2⟩:=HZ9.o.t;obtain ⟨b0,b1,b2⟩:=HY9.o.t)))
   have HE:Hid (zAw w9 g (zBN (f d.fr) (d.sh.take (j+1)) (upH f d.fr 0))):=by show zAw _ _ _;rw [HPS.o];exact HPM9.o
   have HGE:Hid (w3.grownBy w9 (some g)):=(HG.o.trans (zAH (zAa HBA.o HB8.o) _)).trans HG9.o;clear a0 a1 a2 b0 b1 b2;rw [←HA.o];go_wp2
   go_roundg (gk - 1)
   case measure=>have:=HJ.o;omega
   case rel=>exact ⟨j+1,zt,zi,HE.o,HGE.o⟩
  ·have hje:j=d.sh.length:=by have:=HJ.o;omega
   have HE:Hid (zAw wr g (zBN (f d.fr) d.sh (upH f d.fr 0))):=by
    have:=HPM.o;rw [hje,bO] at this;exact this
   clear HPM;go_wp2;exact dL (v:=.tuple #[]) (by simp [results,Tryz.results72,go_sem]) rfl ⟨rfl,HE.o,HG3.o.trans HG.o⟩
theorem ba (u:World) (o:Obj):Below u.heap.size u (u.alloc o):=(aN _ _).alloc (aC _) _
def BoxQ (W:World) (q:Rat) (v:Value) (wx:World):Prop:=∃ bx A c A2 c2,v = .pointer (some ⟨bx,0,none⟩)∧Bx wx bx (raC A c q.num.natAbs A2 c2 q.den) 89∧Nt wx A c q.num.natAbs∧Nt wx A2 c2 q.den∧Below W.heap.size W wx
theorem box_new {W u:World} {q:Rat} {A A2:Option Addr} {c c2:Nat} (hb:Below W.heap.size W u) (h1:Nt u A c q.num.natAbs) (h2:Nt u A2 c2 q.den):BoxQ W q (.pointer (some ⟨u.heap.size,0,none⟩)) (u.alloc (.cells (raC A c q.num.natAbs A2 c2 q.den) 89)) :=
 ⟨_,A,c,A2,c2,rfl,Bx.new _ _ _,h1.alloc _,h2.alloc _,hb.alloc hb.size _⟩
theorem box_set {W u:World} {q:Rat} {A A2:Option Addr} {c c2 g:Nat} (hb:Below W.heap.size W u) (hz:Bx u g zBx 89) (hg:W.heap.size≤g) (h1:Nt u A c q.num.natAbs) (h2:Nt u A2 c2 q.den) :
  BoxQ W q (.pointer (some ⟨g,0,none⟩)) (((u.setCell ⟨g,0,none⟩ (.bool false)).setCell ⟨g,1,none⟩ (.slice A (zAd B32 q.num.natAbs).length c)).setCell ⟨g,2,none⟩ (.slice A2 (zAd B32 q.den).length c2)):=by
 have k0:=Bx.set0 hz (.bool false);have k1:=Bx.set1 k0 (.slice A (zAd B32 q.num.natAbs).length c);exact ⟨g,A,c,A2,c2,rfl,dY _ g 2 _ _ _ k1,h1.setR hz _ _ _,h2.setR hz _ _ _,below_box hb hg _ _ _⟩
theorem take_give (g:Nat) (N:List BA) (M:Nat) (f:zBa) (d:De) (w:World) (hp:zAw w g f) (hk:d.kd=2) (hpo:ParOk d) (hh:HoldB N M f) (hfr:d.fr∈N) (_hto:d.to_∈N) (hsz:SzN 90000000 (M*zAF d.de)) :
  Calls Tryz.prog 72 #[.map (some g),deV d] w (GivesP g (zDt d f) w):=by
 have hko:(d.kd == 5)=false:=by simp [hk]
 obtain ⟨hrt,hps,hle,hne⟩:=hpo.asg hk;have hd0:=zCe hrt;obtain ⟨hmid,hxd⟩:=hh.giveMid hfr hle hd0;have hx:=mul_le (hh.ok.pos d.fr) (hh.le d.fr) (ratQ_pos d.nu d.de) hle;have hmz:M*zAF d.de≠0:=hmid.nz;have HTK:Hid (zDt d f=upH (upH f d.fr (f d.fr - f d.fr*zCX d.nu d.de)) d.to_ (upH f d.fr (f d.fr - f d.fr*zCX d.nu d.de) d.to_+f d.fr*zCX d.nu d.de)):=by show _=_;unfold zDt giveF;rw [aD za]
 have HFS:Hid (SzQ 90000000 (f d.fr)):=szQ_le (hh.ok.pos _) (hh.le _) (eS (hh.den _) (Nat.dvd_mul_right _ _)) hmz hsz;have HFP:Hid (0≤f d.fr):=hh.ok.pos _;have HQP:Hid (0≤zCX d.nu d.de):=ratQ_pos _ _;have HQS:=zq (ratQ_sz hrt);have HXP:Hid (0≤f d.fr*zCX d.nu d.de):=hx.1;have HXS:Hid (SzQ 90000000 (f d.fr*zCX d.nu d.de)):=szQ_le hx.1 hx.2 hxd hmz hsz
 have HXL:Hid (f d.fr*zCX d.nu d.de≤f d.fr):=by
  have:=Rat.mul_le_mul_of_nonneg_left hle HFP.o
  show _≤_
  grind
 have HMB:=zq hmid;have HSZ:=zq hsz;have HFQ:Hid (∀ u,Calls Tryz.prog 70 #[.agg #[.string d.nu,.string d.de]] u (zCx (zCX d.nu d.de) u)):=fun u=>FromQ_c d.nu d.de u hrt hps
 rw [HTK.o];clear hpo hh hfr _hto hsz hrt hps hle hne hd0 hmid hxd hx hmz hk;obtain ⟨x,hxe⟩:∃ x,x=f d.fr*zCX d.nu d.de:=⟨_,rfl⟩;rw [←hxe] at HTK HXP HXS HXL HMB ⊢;have HXE:=zq hxe;clear hxe;have hbw:Below w.heap.size w (w.alloc (.cells (deC d) 52)):=(aN _ _).alloc (aC _) _;have HX:Hid (Bx (w.alloc (.cells (deC d) 52)) w.heap.size (deC d) 52):=Bx.new _ _ _;obtain ⟨W,hW⟩:∃ W,W=w.alloc (.cells (deC d) 52):=⟨_,rfl⟩;rw [←hW] at hbw HX;have HB:=zq hbw;have HPM:=zq (hp.below hbw);have HOF:=zq (of_c g f d.fr W HPM.o);clear hp hbw
 go_enter Tryz.func72,Tryz.ntmps72
 go_upto_region 1 with fail
 rw [←hW];clear hW;have x4:=HX.o.c 4 rfl;have hsx:=HX.o.lt
 go_wp2_with fail
 with_reducible refine HOF.o.mono ?_
 rintro e w1 ⟨A,c,A2,c2,rfl,h1,h2,hb1⟩;have hb2:Below w1.heap.size w1 (w1.alloc (.cells (raC A c (f d.fr).num.natAbs A2 c2 (f d.fr).den) 89)):=(aN _ _).alloc (aC _) _;have hb3:=zAa hb1 hb2;have HX2:=zq (HX.o.below hb3);have HB2:=zq (zAa HB.o hb3);have HPM2:=zq (HPM.o.below hb3);have HH1:=zq (h1.below hb2);have HH2:=zq (h2.below hb2);have HY2:Hid (Bx (w1.alloc (.cells (raC A c (f d.fr).num.natAbs A2 c2 (f d.fr).den) 89)) w1.heap.size (raC A c (f d.fr).num.natAbs A2 c2 (f d.fr).den) 89):=Bx.new _ _ _;clear x4 hsx h1 h2 hb1 hb2 hb3 HX HB HPM HOF;go_upto_region 2 with fail
 obtain ⟨w2,hw2⟩:∃ w2,w2=w1.alloc (.cells (raC A c (f d.fr).num.natAbs A2 c2 (f d.fr).den) 89):=⟨_,rfl⟩;rw [←hw2] at HX2 HB2 HPM2 HH1 HH2 HY2 ⊢;clear hw2;have x2:=HX2.o.c 2 rfl;have hsx:=HX2.o.lt;go_upto_region 9 with fail
 clear x2 hko;have x4:=HX2.o.c 4 rfl;have x6:=HX2.o.c 6 rfl;have x7:=HX2.o.c 7 rfl;obtain ⟨b0,b1,b2⟩:=HY2.o.t;have sx:=HX2.o.lt;have sy:=HY2.o.lt;have HX:=HX2;have HY:=HY2;have HN1:=HH1;have HN2:=HH2;have HPM:=HPM2;clear x4 hsx HX2 HY2 HH1 HH2 HPM2;have sx:=HX.o.lt;have sy:=HY.o.lt
 go_cut [7] from 40 to 45 (fun v wx=>BoxQ w2 x v wx)
 case first =>
  go_region_held3 (fun w'=>(w'.cell? ⟨w.heap.size,6,none⟩=some (.string d.nu)∧w'.cell? ⟨w.heap.size,7,none⟩=some (.string d.de))∧(w'.cell? ⟨w1.heap.size,0,none⟩=some (.bool false)∧w'.cell? ⟨w1.heap.size,1,none⟩=some (.slice A (zAd B32 (f d.fr).num.natAbs).length c)∧w'.cell? ⟨w1.heap.size,2,none⟩=some (.slice A2 (zAd B32 (f d.fr).den).length c2)))
   ((refine ⟨⟨?_,?_⟩,?_,?_,?_⟩<;>first | with_reducible assumption | go_simp))
   (first
    | ((go_at_call 70;(with_reducible refine (HFQ.o (w2.alloc (.cells zBx 89)).drew).mono ?_);rintro x v1 ⟨A7,c7,A8,c8,rfl,h7,h8,hb⟩;have hqq:=zAa (zAc (ba w2 (.cells zBx 89)) 1) hb;have HBv1:Hid (Below w2.heap.size w2 v1):=zAa (zAc (ba w2 (.cells zBx 89)) 1) hb;have HZ1:=zq ((Bx.new w2 zBx 89).drew.below hb);have hzg:w2.heap.size≤w2.heap.size:=aC _;have HX1:=zq (HX.o.below hqq);have HY1:=zq (HY.o.below hqq);have HN11:=zq (HN1.o.below hqq);have HN21:=zq (HN2.o.below hqq);have HPM1:=zq (HPM.o.below hqq);have G71:=zq h7;have G81:=zq h8;clear hqq hb h7 h8 x6 x7 b0 b1 b2 sx sy;have x6:=HX1.o.c 6 rfl;have x7:=HX1.o.c 7 rfl;obtain ⟨b0,b1,b2⟩:=HY1.o.t;have sx:=HX1.o.lt;have sy:=HY1.o.lt;have q0a:¬ (w.heap.size=w2.heap.size):=qn;have q0b:¬ (w2.heap.size=w.heap.size):=qn;have q1a:¬ (w1.heap.size=w2.heap.size):=qo;have q1b:¬ (w2.heap.size=w1.heap.size):=qo;obtain ⟨z0,z1,z2⟩:=HZ1.o.t;have zf:=HZ1.o.frozen;have zs:=HZ1.o.lt))
    | ((go_at_call 70;(with_reducible refine (HFQ.o w2.drew).mono ?_);rintro x v1 ⟨A7,c7,A8,c8,rfl,h7,h8,hb⟩;have hqq:=zAa (zAc (aN w2.heap.size w2) 1) hb;have HBv1:Hid (Below w2.heap.size w2 v1):=zAa (zAc (aN w2.heap.size w2) 1) hb;have HX1:=zq (HX.o.below hqq);have HY1:=zq (HY.o.below hqq);have HN11:=zq (HN1.o.below hqq);have HN21:=zq (HN2.o.below hqq);have HPM1:=zq (HPM.o.below hqq);have G71:=zq h7;have G81:=zq h8;clear hqq hb h7 h8 x6 x7 b0 b1 b2 sx sy;have x6:=HX1.o.c 6 rfl;have x7:=HX1.o.c 7 rfl;obtain ⟨b0,b1,b2⟩:=HY1.o.t;have sx:=HX1.o.lt;have sy:=HY1.o.lt))
    | ((go_at_call 113;(with_reducible refine (MulQ_c A A2 A7 A8 c c2 c7 c8 (f d.fr) (zCX d.nu d.de) (v1.alloc (.cells zBx 89)) (HN11.o.below (ba v1 (.cells zBx 89))) (HN21.o.below (ba v1 (.cells zBx 89))) (G71.out.below (ba v1 (.cells zBx 89))) (G81.out.below (ba v1 (.cells zBx 89))) HFP.o HQP.o (HFS.o.le za) (HQS.o.le za)).mono ?_);rintro x v2 ⟨A9,c9,AD,cD,rfl,h9,hD,hb⟩;have hqq:=zAa (ba v1 (.cells zBx 89)) hb;have HBv2:Hid (Below w2.heap.size w2 v2):=(zAa HBv1.o hqq);have HZ2:=zq ((Bx.new v1 zBx 89).below hb);have hzg:w2.heap.size≤v1.heap.size:=HBv1.o.size;have HX2:=zq (HX1.o.below hqq);have HY2:=zq (HY1.o.below hqq);have HN12:=zq (HN11.o.below hqq);have HN22:=zq (HN21.o.below hqq);have HPM2:=zq (HPM1.o.below hqq);have G72:=zq (G71.out.below hqq);have G82:=zq (G81.out.below hqq);have G92:=zq h9;have GD2:=zq hD;clear hqq hb h9 hD x6 x7 b0 b1 b2 sx sy;have x6:=HX2.o.c 6 rfl;have x7:=HX2.o.c 7 rfl;obtain ⟨b0,b1,b2⟩:=HY2.o.t;have sx:=HX2.o.lt;have sy:=HY2.o.lt;have q0a:¬ (w.heap.size=v1.heap.size):=qn;have q0b:¬ (v1.heap.size=w.heap.size):=qn;have q1a:¬ (w1.heap.size=v1.heap.size):=qo;have q1b:¬ (v1.heap.size=w1.heap.size):=qo;obtain ⟨z0,z1,z2⟩:=HZ2.o.t;have zf:=HZ2.o.frozen;have zs:=HZ2.o.lt))
    | ((go_at_call 113;(with_reducible refine (MulQ_c A A2 A7 A8 c c2 c7 c8 (f d.fr) (zCX d.nu d.de) v1 HN11.o HN21.o G71.out G81.out HFP.o HQP.o (HFS.o.le za) (HQS.o.le za)).mono ?_);rintro x v2 ⟨A9,c9,AD,cD,rfl,h9,hD,hb⟩;have HBv2:Hid (Below w2.heap.size w2 v2):=(zAa HBv1.o hb);(first | (have HZ2:=zq (HZ1.o.below hb);clear z0 z1 z2 zf zs) | skip);have HX2:=zq (HX1.o.below hb);have HY2:=zq (HY1.o.below hb);have HN12:=zq (HN11.o.below hb);have HN22:=zq (HN21.o.below hb);have HPM2:=zq (HPM1.o.below hb);have G72:=zq (G71.out.below hb);have G82:=zq (G81.out.below hb);have G92:=zq h9;have GD2:=zq hD;clear hb h9 hD x6 x7 b0 b1 b2 sx sy;have x6:=HX2.o.c 6 rfl;have x7:=HX2.o.c 7 rfl;obtain ⟨b0,b1,b2⟩:=HY2.o.t;have sx:=HX2.o.lt;have sy:=HY2.o.lt;(first | (obtain ⟨z0,z1,z2⟩:=HZ2.o.t;have zf:=HZ2.o.frozen;have zs:=HZ2.o.lt) | skip))))
  all_goals
   go_wp2_with fail
   go_meet;rw [HXE.o]
   first
    | exact box_set HBv2.o HZ2.o hzg G92.out GD2.out
    | exact box_new HBv2.o G92.out GD2.out
 case rest =>
  obtain ⟨bx,A9,c9,AD,cD,rfl,hbx,h9,hD,hb⟩:=hcut;have HB3:=zq hb;have HX3:=zq (HX.o.below hb);have HY3:=zq (HY.o.below hb);have HQ3:=zq hbx;have HPM3:=zq (HPM.o.below hb);have HN13:=zq (HN1.o.below hb);have HN23:=zq (HN2.o.below hb);have H93:=zq h9;have HD3:=zq hD;have HGA:Hid (w.grownBy wc (some g)):=zAH (zAa HB2.o hb) _;clear hbx h9 hD hb sx sy x6 x7 b0 b1 b2 HX HY HPM HN1 HN2;go_upto_region 10 with fail
  have x4:=HX3.o.c 4 rfl;obtain ⟨b0,b1,b2⟩:=HY3.o.t;obtain ⟨d0,d1,d2⟩:=HQ3.o.t
  go_region_held3 (fun w'=>w'.cell? ⟨w.heap.size,4,none⟩=some (.string d.fr)∧(w'.cell? ⟨w1.heap.size,0,none⟩=some (.bool false)∧w'.cell? ⟨w1.heap.size,1,none⟩=some (.slice A (zAd B32 (f d.fr).num.natAbs).length c)∧w'.cell? ⟨w1.heap.size,2,none⟩=some (.slice A2 (zAd B32 (f d.fr).den).length c2))∧(w'.cell? ⟨bx,0,none⟩=some (.bool false)∧w'.cell? ⟨bx,1,none⟩=some (.slice A9 (zAd B32 x.num.natAbs).length c9)∧w'.cell? ⟨bx,2,none⟩=some (.slice AD (zAd B32 x.den).length cD)))
   ((refine ⟨?_,⟨?_,?_,?_⟩,?_,?_,?_⟩<;>first | with_reducible assumption | go_simp))
   (first
    | ((go_at_call 114;(with_reducible refine (SubQ_c A A2 A9 AD c c2 c9 cD (f d.fr) x wc.drew (HN13.o.below (zAc (aN _ _) 1)) (HN23.o.below (zAc (aN _ _) 1)) (H93.o.below (zAc (aN _ _) 1)) (HD3.o.below (zAc (aN _ _) 1)) HXP.o HXL.o (HFS.o.le za) (HXS.o.le za)).mono ?_);rintro e v1 ⟨AE,cE,AF,cF,rfl,hE,hF,hb⟩;have HB4:Hid (Below wc.heap.size wc v1):=zAa (zAc (aN _ _) 1) hb;have HX4:=zq (HX3.o.below HB4.o);have HY4:=zq (HY3.o.below HB4.o);have HQ4:=zq (HQ3.o.below HB4.o);have HPM4:=zq (HPM3.o.below HB4.o);have H94:=zq (H93.o.below HB4.o);have HD4:=zq (HD3.o.below HB4.o);have HE4:=zq hE;have HF4:=zq hF;clear hE hF hb x4 b0 b1 b2 d0 d1 d2;have x4:=HX4.o.c 4 rfl;obtain ⟨b0,b1,b2⟩:=HY4.o.t;obtain ⟨d0,d1,d2⟩:=HQ4.o.t))
    | ((go_at_call 69;(with_reducible refine (put_c g f d.fr AE AF cE cF (f d.fr - x) v1 HPM4.o HE4.o HF4.o).mono ?_);rintro e v2 ⟨rfl,hp,hg⟩;have HX5:=zq (HX4.o.parts HPM4.o hg);have HY5:=zq (HY4.o.parts HPM4.o hg);have HQ5:=zq (HQ4.o.parts HPM4.o hg);have H95:=zq (H94.o.parts HPM4.o hg);have HD5:=zq (HD4.o.parts HPM4.o hg);have HPM5:=zq hp;have HG5:=zq hg;clear hp hg x4 b0 b1 b2 d0 d1 d2;have x4:=HX5.o.c 4 rfl;obtain ⟨b0,b1,b2⟩:=HY5.o.t;obtain ⟨d0,d1,d2⟩:=HQ5.o.t)))
  obtain ⟨f1,hf1⟩:∃ f1,f1=upH f d.fr (f d.fr - x):=⟨_,rfl⟩;rw [←hf1] at HPM5 HMB;have HF1:=zq hf1;have HGB:Hid (w.grownBy v2 (some g)):=(HGA.o.trans (zAH HB4.o _)).trans HG5.o;clear hf1 HX3 HX4 HY3 HY4 HQ3 HQ4 HPM3 HPM4 HN13 HN23 H93 H94 HD3 HD4 HE4 HF4 HGA HG5 HB3 HB4 x4 b0 b1 b2 d0 d1 d2;go_upto_region 11 with fail
  have x5:=HX5.o.c 5 rfl;obtain ⟨d0,d1,d2⟩:=HQ5.o.t
  go_region_held3 (fun w'=>w'.cell? ⟨w.heap.size,5,none⟩=some (.string d.to_)∧(w'.cell? ⟨bx,0,none⟩=some (.bool false)∧w'.cell? ⟨bx,1,none⟩=some (.slice A9 (zAd B32 x.num.natAbs).length c9)∧w'.cell? ⟨bx,2,none⟩=some (.slice AD (zAd B32 x.den).length cD)))
   ((refine ⟨?_,?_,?_,?_⟩<;>first | with_reducible assumption | go_simp))
   (first
    | ((go_at_call 49;(with_reducible refine (of_c g f1 d.to_ v2.drew (HPM5.o.below (zAc (aN _ _) 1))).mono ?_);rintro e v3 ⟨AG,cG,AH,cH,rfl,hG,hH,hb⟩;have HB6:Hid (Below v2.heap.size v2 v3):=zAa (zAc (aN _ _) 1) hb;have HX6:=zq (HX5.o.below HB6.o);have HQ6:=zq (HQ5.o.below HB6.o);have HPM6:=zq (HPM5.o.below HB6.o);have H96:=zq (H95.o.below HB6.o);have HD6:=zq (HD5.o.below HB6.o);have HG6:=zq hG;have HH6:=zq hH;clear hG hH hb x5 d0 d1 d2;have x5:=HX6.o.c 5 rfl;obtain ⟨d0,d1,d2⟩:=HQ6.o.t))
    | ((go_at_call 75;(with_reducible refine (AddQ_c AG AH A9 AD cG cH c9 cD (f1 d.to_) x v3 HG6.o HH6.o H96.o HD6.o (HMB.o.ok.pos _) HXP.o ((HMB.o.sz HSZ.o _).le za) (HXS.o.le za)).mono ?_);rintro e v4 ⟨AI,cI,AJ,cJ,rfl,hI,hJ,hb⟩;have HB7:=zq (zAa HB6.o hb);have HX7:=zq (HX6.o.below hb);have HQ7:=zq (HQ6.o.below hb);have HPM7:=zq (HPM6.o.below hb);have HI7:=zq hI;have HJ7:=zq hJ;clear hI hJ hb x5 d0 d1 d2;have x5:=HX7.o.c 5 rfl;obtain ⟨d0,d1,d2⟩:=HQ7.o.t))
    | ((go_at_call 69;(with_reducible refine (put_c g f1 d.to_ AI AJ cI cJ (f1 d.to_+x) v4 HPM7.o HI7.o HJ7.o).mono ?_);rintro e v5 ⟨rfl,hp,hg⟩;have HX8:=zq (HX7.o.parts HPM7.o hg);have HQ8:=zq (HQ7.o.parts HPM7.o hg);have HPM8:=zq hp;have HG8:=zq hg;clear hp hg x5 d0 d1 d2;have x5:=HX8.o.c 5 rfl;obtain ⟨d0,d1,d2⟩:=HQ8.o.t)))
  have HGC:Hid (w.grownBy v5 (some g)):=(HGB.o.trans (zAH HB7.o _)).trans HG8.o
  have HE:Hid (zAw v5 g (upH (upH f d.fr (f d.fr - x)) d.to_ (upH f d.fr (f d.fr - x) d.to_+x))):=by
   show zAw _ _ _
   rw [←HF1.o];exact HPM8.o
  clear x5 d0 d1 d2;go_wp2;exact dL (v:=.tuple #[]) (by simp [results,Tryz.results72,go_sem]) rfl ⟨rfl,HE.o,HGC.o⟩
theorem take_c (g:Nat) (N:List BA) (M:Nat) (f:zBa) (d:De) (w:World) (hp:zAw w g f) (hs:Shs w d.shA d.sh) (hk:d.kd=2∨d.kd=5) (hpo:ParOk d) (hh:HoldB N M f) (hfr:d.fr∈N) (hto:d.kd≠5→d.to_∈N) (hsh:d.kd=5→∀ s∈d.sh,s.pt∈N) (hsz:SzN 90000000 (M*growD d)) (hl:d.sh.length≤1000000) :
  Calls Tryz.prog 72 #[.map (some g),deV d] w (GivesP g (zDt d f) w):=by
 unfold growD at hsz
 rcases hk with hk | hk
 ·rw [aD za] at hsz
  exact take_give g N M f d w hp hk hpo hh hfr (hto za) hsz
 ·rw [aF hk] at hsz
  exact take_pass g N M f d w hp hs hk hpo hh hfr (hsh hk) hsz hl
end Go.Proofs.YtieoifkdobcpiaaGreatDoor
