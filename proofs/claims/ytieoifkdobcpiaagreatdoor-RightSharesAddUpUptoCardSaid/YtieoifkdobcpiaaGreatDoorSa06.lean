/- Parts of the proof, joined: Package num: a product with a number below 0, a difference of whole nu. -/
import Derived.Test.YtieoifkdobcpiaaGreatDoorSa05
set_option maxRecDepth 100000
set_option maxHeartbeats 8000000
namespace Go.Proofs.YtieoifkdobcpiaaGreatDoor
open Go.RowKit Dw
theorem wl_zero {n:Nat} (h:n=0):(zAc B32 n).length=0:=by rw [(zCa zAo).2 h];rfl
theorem wl_pos {n:Nat} (h:n≠0):(0:Int)<((zAc B32 n).length:Int):=by
 have:(zAc B32 n).length≠0:=fun e=>h ((zCa zAo).1 (List.length_eq_zero_iff.1 e))
 omega
theorem IMulN_c (A A2:Option Addr) (c c2 a b:Nat) (w:World) (h:Nt w A c a) (h2:Nt w A2 c2 b) (hn:(zAc B32 a).length≤400000000) (hm:(zAc B32 b).length≤400000000) :
  Calls Tryz.prog 76 #[inV true A c a,inV false A2 c2 b] w (GivesI (decide (a*b≠0)) (a*b) w):=by
 have HM:=zq (Mul_c A A2 c c2 a b (((w.alloc (.cells #[.bool true,.slice A (zAc B32 a).length c] 87)).alloc (.cells #[.bool false,.slice A2 (zAc B32 b).length c2] 87)).alloc (.cells #[.bool false,.slice none 0 0] 87)) (((h.alloc _).alloc _).alloc _) (((h2.alloc _).alloc _).alloc _) hn hm);obtain ⟨p,hp⟩:∃ p,p=a*b:=⟨_,rfl⟩;rw [←hp] at HM ⊢;clear hp
 cases hz:decide (p≠0)
 all_goals
  have hz':(p=0∨p≠0):=Classical.em _
  go_enter Tryz.func76,Tryz.ntmps76
  go_wp2_with fail
  with_reducible refine HM.o.mono ?_
  rintro e w1 ⟨A5,c5,rfl,h5,hb⟩;obtain ⟨hc,hf⟩:=bcellK hb;have hs3:w.heap.size+2<w1.heap.size:=qg;have c0:w1.cell? ⟨w.heap.size+1+1,0,none⟩=some (.bool false):=zj;have c1:w1.cell? ⟨w.heap.size+1+1,1,none⟩=some (.slice none 0 0):=zj;have HB:Hid (Below w.heap.size w w1):=((((Below.refl w.heap.size w).alloc (Nat.le_refl _) _).alloc zd _).alloc ze _).trans (hb.mono ze)
 ·have h0:p=0:=by simpa using hz
  have hl:=wl_zero h0;have hl2:¬ (0:Int)<((zAc B32 p).length:Int):=za;clear hz hz' h0;go_wp2;refine bodyPost_ret (v:=inV false A5 c5 p) (by simp [results,Tryz.results76,go_sem,hc,hl]) rfl ⟨A5,c5,rfl,?_,?_⟩
  ·exact h5.set2 c0 c1 (nb_ _) (ns_ _ _ _) _ _
  ·exact (HB.o.setCell ze _).setCell ze _
 ·have h0:p≠0:=by simpa using hz
  have hl2:=wl_pos h0;have hl3:0<(zAc B32 p).length:=za;clear hz hz' h0;go_wp2;refine bodyPost_ret (v:=inV true A5 c5 p) (by simp [results,Tryz.results76,go_sem,hc]) rfl ⟨A5,c5,rfl,?_,?_⟩
  ·exact h5.set2 c0 c1 (nb_ _) (ns_ _ _ _) _ _
  ·exact (HB.o.setCell ze _).setCell ze _
theorem IAddN_c (A A2:Option Addr) (c c2 a b:Nat) (w:World) (h:Nt w A c a) (h2:Nt w A2 c2 b) (hn:(zAc B32 a).length≤400000000) (hba:b≤a) :
  Calls Tryz.prog 118 #[inV false A c a,inV true A2 c2 b] w (GivesI false (a - b) w):=by
 have HCM:=zq (fun W (q:Nt W A c a) (q2:Nt W A2 c2 b)=>Cmp_c A A2 c c2 a b W q q2 za)
 have HA:=zq (fun W (q:Nt W A c a) (q2:Nt W A2 c2 b)=>sub_c A A2 c c2 a b W q q2 za hba)
 rcases Nat.eq_or_lt_of_le hba with he | hl
 ·have hd:a - b=0:=by omega
  have hk:zCM a b=0:=zCq he.symm;rw [hk] at HCM;rw [hd];clear hd hk he hba HA
  go_enter Tryz.func118,Tryz.ntmps118
  go_wp2_with fail
  with_reducible refine (HCM.o _ (((h.alloc _).alloc _).alloc _) (((h2.alloc _).alloc _).alloc _)).mono ?_
  rintro e w1 ⟨rfl,nd,rfl⟩;go_wp2;refine bodyPost_ret (v:=inV false none 0 0) (by simp [results,Tryz.results118,go_sem];rfl) rfl ⟨none,0,rfl,Nt.zero _,?_⟩
  exact ((zAd ((((Below.refl w.heap.size w).alloc (Nat.le_refl _) _).alloc zd _).alloc ze _) nd).setCell (by first | (simp;omega) | omega) _).setCell (by first | (simp;omega) | omega) _
 ·have hk:zCM a b=1:=zBu hl
  rw [hk] at HCM;clear hk hl hba;generalize a - b=p at *
  go_enter Tryz.func118,Tryz.ntmps118
  go_wp2_with fail
  with_reducible refine (HCM.o _ (((h.alloc _).alloc _).alloc _) (((h2.alloc _).alloc _).alloc _)).mono ?_
  rintro e w1 ⟨rfl,nd,rfl⟩;have g1:Nt ((((w.alloc (.cells #[.bool false,.slice A (zAc B32 a).length c] 87)).alloc (.cells #[.bool true,.slice A2 (zAc B32 b).length c2] 87)).alloc (.cells #[.bool false,.slice none 0 0] 87)).drewN (nd+1)) A c a:=(((h.alloc _).alloc _).alloc _).drewN _;have g2:Nt ((((w.alloc (.cells #[.bool false,.slice A (zAc B32 a).length c] 87)).alloc (.cells #[.bool true,.slice A2 (zAc B32 b).length c2] 87)).alloc (.cells #[.bool false,.slice none 0 0] 87)).drewN (nd+1)) A2 c2 b:=(((h2.alloc _).alloc _).alloc _).drewN _;have HB0:Hid (Below w.heap.size w ((((w.alloc (.cells #[.bool false,.slice A (zAc B32 a).length c] 87)).alloc (.cells #[.bool true,.slice A2 (zAc B32 b).length c2] 87)).alloc (.cells #[.bool false,.slice none 0 0] 87)).drewN (nd+1))):=zAd ((((Below.refl w.heap.size w).alloc (Nat.le_refl _) _).alloc zd _).alloc ze _) (nd+1);have HBz:Hid (Bx ((((w.alloc (.cells #[.bool false,.slice A (zAc B32 a).length c] 87)).alloc (.cells #[.bool true,.slice A2 (zAc B32 b).length c2] 87)).alloc (.cells #[.bool false,.slice none 0 0] 87)).drewN (nd+1)) (w.heap.size+1+1) #[.bool false,.slice none 0 0] 87):=(Bx.new2 _ _ _ _ _).drewN _;have HBx:Hid (Bx ((((w.alloc (.cells #[.bool false,.slice A (zAc B32 a).length c] 87)).alloc (.cells #[.bool true,.slice A2 (zAc B32 b).length c2] 87)).alloc (.cells #[.bool false,.slice none 0 0] 87)).drewN (nd+1)) w.heap.size #[.bool false,.slice A (zAc B32 a).length c] 87):=(((Bx.new _ _ _).alloc _).alloc _).drewN _;have HBy:Hid (Bx ((((w.alloc (.cells #[.bool false,.slice A (zAc B32 a).length c] 87)).alloc (.cells #[.bool true,.slice A2 (zAc B32 b).length c2] 87)).alloc (.cells #[.bool false,.slice none 0 0] 87)).drewN (nd+1)) (w.heap.size+1) #[.bool true,.slice A2 (zAc B32 b).length c2] 87):=((Bx.new1 _ _ _ _).alloc _).drewN _;go_wp2
  go_region_held3 (fun w'=>w'.cell? ⟨w.heap.size,0,none⟩=some (.bool false)∧w'.cell? ⟨w.heap.size,1,none⟩=some (.slice A (zAc B32 a).length c)∧w'.cell? ⟨w.heap.size+1,1,none⟩=some (.slice A2 (zAc B32 b).length c2)) ((refine ⟨?_,?_,?_⟩<;>first | with_reducible assumption | go_simp))
   (first
    | ((go_at_call 170;(with_reducible refine (HA.o _ g1 g2).mono ?_);rintro e w1 ⟨A5,c5,rfl,h5,hb⟩;have HZ:=zq (HBz.o.below hb);have HB:=zq (zAb HB0.o hb);have HX:=zq (HBx.o.below hb);have HY:=zq (HBy.o.below hb);have x0:=HX.o.cell (i:=0) rfl;have x1:=HX.o.cell (i:=1) rfl;have y1:=HY.o.cell (i:=1) rfl;have r0:=HZ.o.cell (i:=0) rfl;have r1:=HZ.o.cell (i:=1) rfl;have fr:=HZ.o.frozen;have rl:=HZ.o.lt;clear hb)))
  go_wp2;refine bodyPost_ret (v:=inV false A5 c5 p) (by simp [results,Tryz.results118,go_sem,r0,r1]) rfl ⟨A5,c5,rfl,?_,?_⟩
  ·exact h5.set2 r0 r1 (nb_ _) (ns_ _ _ _) _ _
  ·exact (HB.o.setCell (by first | (simp;omega) | omega) _).setCell (by first | (simp;omega) | omega) _
abbrev raN (A:Option Addr) (c n:Nat) (A2:Option Addr) (c2 d:Nat):Array Value:=#[.bool true,.slice A (zAc B32 n).length c,.slice A2 (zAc B32 d).length c2]
def subP (p q:Nat×Nat):Nat×Nat:=zBS (p.1*q.2 - q.1*p.2) (p.2*q.2)
theorem subP_same (n m d:Nat) (h:0<d):subP (n,d) (m,d)=zBS (n - m) d:=by
 unfold subP
 show zBS (n*d - m*d) (d*d)=_
 rw [←Nat.sub_mul,Nat.mul_comm,lowP_scale h]
theorem RAddN_same (A A2 A3 A4:Option Addr) (c c2 c3 c4 n d m e:Nat) (w:World) (h:Nt w A c n) (h2:Nt w A2 c2 d) (h3:Nt w A3 c3 m) (h4:Nt w A4 c4 e)
  (hn:(zAc B32 n).length≤100000000) (hd:(zAc B32 d).length≤100000000) (_hm:(zAc B32 m).length≤100000000) (he:(zAc B32 e).length≤100000000) (hd0:0<d) (he0:0<e) (_hm0:m≠0) (hle:m*d≤n*e) (hde:d=e) :
  Calls Tryz.prog 75 #[raV false A c n A2 c2 d,raV true A3 c3 m A4 c4 e] w (zCl false (subP (n,d) (m,e)).1 (subP (n,d) (m,e)).2 w):=by
 subst hde;rw [subP_same n m d hd0];have hle2:m≤n:=Nat.le_of_mul_le_mul_right hle hd0;have HC:=zq (fun W (x:Nt W A2 c2 d) (y:Nt W A4 c4 d)=>Cmp_c A2 A4 c2 c4 d d W x y za)
 have HA:=zq (fun W (x:Nt W A c n) (y:Nt W A3 c3 m)=>IAddN_c A A3 c c3 n m W x y za hle2)
 have HO:=zq (fun A5 c5 W (x:Nt W A5 c5 (n - m)) (y:Nt W A2 c2 d)=>Over_c A5 A2 c5 c2 (n - m) d false W x y hd0 (by have:=zAq zAo (Nat.sub_le n m);omega) za)
 rw [zCq rfl] at HC;simp only [Bool.false_and] at HO;generalize (zBS (n - m) d).1=pp at *;generalize (zBS (n - m) d).2=pq at *;clear hle hle2;generalize n - m=nm at *;have HX0:Hid (Bx (((w.alloc (.cells (raC A c n A2 c2 d) 89)).alloc (.cells (raN A3 c3 m A4 c4 d) 89)).alloc (.cells zBM 89)) w.heap.size (raC A c n A2 c2 d) 89):=((Bx.new _ _ _).alloc _).alloc _;have HY0:Hid (Bx (((w.alloc (.cells (raC A c n A2 c2 d) 89)).alloc (.cells (raN A3 c3 m A4 c4 d) 89)).alloc (.cells zBM 89)) (w.heap.size+1) (raN A3 c3 m A4 c4 d) 89):=(Bx.new1 _ _ _ _).alloc _;have HZ0:Hid (Bx (((w.alloc (.cells (raC A c n A2 c2 d) 89)).alloc (.cells (raN A3 c3 m A4 c4 d) 89)).alloc (.cells zBM 89)) (w.heap.size+1+1) zBM 89):=Bx.new2 _ _ _ _ _;have HB0:Hid (Below w.heap.size w (((w.alloc (.cells (raC A c n A2 c2 d) 89)).alloc (.cells (raN A3 c3 m A4 c4 d) 89)).alloc (.cells zBM 89))):=(((Below.refl w.heap.size w).alloc (Nat.le_refl _) _).alloc zd _).alloc ze _;obtain ⟨W,hW⟩:∃ W,W=(((w.alloc (.cells (raC A c n A2 c2 d) 89)).alloc (.cells (raN A3 c3 m A4 c4 d) 89)).alloc (.cells zBM 89)):=⟨_,rfl⟩;have g1:Nt W A c n:=yg;have g2:Nt W A2 c2 d:=yb;have g3:Nt W A3 c3 m:=yc;have g4:Nt W A4 c4 d:=yf;rw [←hW] at HX0 HY0 HZ0 HB0;clear hn hd _hm he hd0 he0 _hm0
 go_enter Tryz.func75,Tryz.ntmps75
 go_wp2_with fail
 rw [←hW];clear hW;have x0:=HX0.o.cell (i:=0) rfl;have x1:=HX0.o.cell (i:=1) rfl;have x2:=HX0.o.cell (i:=2) rfl;have y0:=HY0.o.cell (i:=0) rfl;have y1:=HY0.o.cell (i:=1) rfl;have y2:=HY0.o.cell (i:=2) rfl;have z0:=HZ0.o.frozen;have z1:=HZ0.o.lt
 go_wp2_with fail
 with_reducible refine (HC.o _ g2 g4).mono ?_
 rintro e0 w0 ⟨rfl,nd,rfl⟩;clear x0 x1 x2 y0 y1 y2 z0 z1;have HX:=zq (HX0.o.drewN (nd+1));have HY:=zq (HY0.o.drewN (nd+1));have HZ:=zq (HZ0.o.drewN (nd+1));have HB:=zq (zAd HB0.o (nd+1));have x0:=HX.o.cell (i:=0) rfl;have x1:=HX.o.cell (i:=1) rfl;have x2:=HX.o.cell (i:=2) rfl;have y0:=HY.o.cell (i:=0) rfl;have y1:=HY.o.cell (i:=1) rfl;have y2:=HY.o.cell (i:=2) rfl;clear HX0 HY0 HZ0 HB0;go_wp2
 go_region_held3 (fun w'=>(w'.cell? ⟨w.heap.size,0,none⟩=some (.bool false)∧w'.cell? ⟨w.heap.size,1,none⟩=some (.slice A (zAc B32 n).length c)∧w'.cell? ⟨w.heap.size,2,none⟩=some (.slice A2 (zAc B32 d).length c2))∧(w'.cell? ⟨w.heap.size+1,0,none⟩=some (.bool true)∧w'.cell? ⟨w.heap.size+1,1,none⟩=some (.slice A3 (zAc B32 m).length c3)∧w'.cell? ⟨w.heap.size+1,2,none⟩=some (.slice A4 (zAc B32 d).length c4)))
  ((refine ⟨⟨?_,?_,?_⟩,?_,?_,?_⟩<;>first | with_reducible assumption | go_simp))
  (first
   | ((go_at_call 118;(with_reducible refine (HA.o _ (g1.drewN (nd+1)) (g3.drewN (nd+1))).mono ?_);rintro e1 w1 ⟨A5,c5,rfl,h5,hb1⟩;have HX1:=zq (HX.o.below hb1);have HY1:=zq (HY.o.below hb1);have HZ1:=zq (HZ.o.below hb1);have HB1:=zq (HB.o.trans (hb1.mono HB.o.size));have g21:=(g2.drewN (nd+1)).below hb1;have a0:=HX1.o.cell (i:=0) rfl;have a1:=HX1.o.cell (i:=1) rfl;have a2:=HX1.o.cell (i:=2) rfl;have b0:=HY1.o.cell (i:=0) rfl;have b1:=HY1.o.cell (i:=1) rfl;have b2:=HY1.o.cell (i:=2) rfl;clear hb1))
   | ((go_at_call 117;(with_reducible refine (HO.o _ _ _ h5 g21).mono ?_);rintro e2 w2 ⟨A6,c6,A7,c7,rfl,h6,h7,hb2⟩;have HX2:=zq (HX1.o.below hb2);have HY2:=zq (HY1.o.below hb2);have HZ2:=zq (HZ1.o.below hb2);have HB2:=zq (zAb HB1.o hb2);clear a0 a1 a2 b0 b1 b2;have a0:=HX2.o.cell (i:=0) rfl;have a1:=HX2.o.cell (i:=1) rfl;have a2:=HX2.o.cell (i:=2) rfl;have b0:=HY2.o.cell (i:=0) rfl;have b1:=HY2.o.cell (i:=1) rfl;have b2:=HY2.o.cell (i:=2) rfl;have r0:=HZ2.o.cell (i:=0) rfl;have r1:=HZ2.o.cell (i:=1) rfl;have r2:=HZ2.o.cell (i:=2) rfl;have fr:=HZ2.o.frozen;have rl:=HZ2.o.lt;clear hb2)))
 clear HX HY HZ HB;go_wp2;refine bodyPost_ret (v:=raV false A6 c6 pp A7 c7 pq) yq rfl ⟨A6,c6,A7,c7,rfl,h6.setR HZ2.o _ _ _,h7.setR HZ2.o _ _ _,?_⟩
 exact ((HB2.o.setCell ze _).setCell ze _).setCell ze _
theorem RAddN_diff (A A2 A3 A4:Option Addr) (c c2 c3 c4 n d m e:Nat) (w:World) (h:Nt w A c n) (h2:Nt w A2 c2 d) (h3:Nt w A3 c3 m) (h4:Nt w A4 c4 e)
  (hn:(zAc B32 n).length≤100000000) (hd:(zAc B32 d).length≤100000000) (hm:(zAc B32 m).length≤100000000) (he:(zAc B32 e).length≤100000000) (hd0:0<d) (he0:0<e) (hm0:m≠0) (hle:m*d≤n*e) (hde:d≠e) :
  Calls Tryz.prog 75 #[raV false A c n A2 c2 d,raV true A3 c3 m A4 c4 e] w (zCl false (subP (n,d) (m,e)).1 (subP (n,d) (m,e)).2 w):=by
 have HC:=zq (fun W (x:Nt W A2 c2 d) (y:Nt W A4 c4 e)=>Cmp_c A2 A4 c2 c4 d e W x y za)
 have hk:(zCM d e == 0)=false:=by
  rcases Nat.lt_or_gt_of_ne hde with h | h
  ·rw [zBw h];rfl
  ·rw [zBu h];rfl
 have l1:=zCF n e;have l2:=zCF m d;have l3:=zCF d e;have l4:=zAq zAo (Nat.sub_le (n*e) (m*d));have HM1:=zq (fun W (x:Nt W A c n) (y:Nt W A4 c4 e)=>IMul_c A A4 c c4 n e W x y za za)
 have HM2:=zq (fun W (x:Nt W A3 c3 m) (y:Nt W A2 c2 d)=>IMulN_c A3 A2 c3 c2 m d W x y za za)
 rw [show decide (m*d≠0)=true from decide_eq_true (Nat.mul_ne_zero hm0 za)] at HM2
 have HM3:=zq (fun W (x:Nt W A2 c2 d) (y:Nt W A4 c4 e)=>Mul_c A2 A4 c2 c4 d e W x y za za)
 have HA:=zq (fun A5 c5 A6 c6 W (x:Nt W A5 c5 (n*e)) (y:Nt W A6 c6 (m*d))=>IAddN_c A5 A6 c5 c6 (n*e) (m*d) W x y za hle)
 have HO:=zq (fun A5 c5 A6 c6 W (x:Nt W A5 c5 (n*e - m*d)) (y:Nt W A6 c6 (d*e))=>Over_c A5 A6 c5 c6 (n*e - m*d) (d*e) false W x y (Nat.mul_pos hd0 he0) za za)
 simp only [Bool.false_and] at HO;have hap:subP (n,d) (m,e)=zBS (n*e - m*d) (d*e):=rfl;rw [hap];clear hap l1 l2 l3 l4 hle hm0;generalize (zBS (n*e - m*d) (d*e)).1=pp at *;generalize (zBS (n*e - m*d) (d*e)).2=pq at *;generalize n*e=p1 at *;generalize m*d=p2 at *;generalize d*e=p3 at *;generalize p1 - p2=p4 at *;generalize zCM d e=cz at *;have HX0:Hid (Bx (((w.alloc (.cells (raC A c n A2 c2 d) 89)).alloc (.cells (raN A3 c3 m A4 c4 e) 89)).alloc (.cells zBM 89)) w.heap.size (raC A c n A2 c2 d) 89):=((Bx.new _ _ _).alloc _).alloc _;have HY0:Hid (Bx (((w.alloc (.cells (raC A c n A2 c2 d) 89)).alloc (.cells (raN A3 c3 m A4 c4 e) 89)).alloc (.cells zBM 89)) (w.heap.size+1) (raN A3 c3 m A4 c4 e) 89):=(Bx.new1 _ _ _ _).alloc _;have HZ0:Hid (Bx (((w.alloc (.cells (raC A c n A2 c2 d) 89)).alloc (.cells (raN A3 c3 m A4 c4 e) 89)).alloc (.cells zBM 89)) (w.heap.size+1+1) zBM 89):=Bx.new2 _ _ _ _ _;have HB0:Hid (Below w.heap.size w (((w.alloc (.cells (raC A c n A2 c2 d) 89)).alloc (.cells (raN A3 c3 m A4 c4 e) 89)).alloc (.cells zBM 89))):=(((Below.refl w.heap.size w).alloc (Nat.le_refl _) _).alloc zd _).alloc ze _;obtain ⟨W,hW⟩:∃ W,W=(((w.alloc (.cells (raC A c n A2 c2 d) 89)).alloc (.cells (raN A3 c3 m A4 c4 e) 89)).alloc (.cells zBM 89)):=⟨_,rfl⟩;have g1:Nt W A c n:=yg;have g2:Nt W A2 c2 d:=yb;have g3:Nt W A3 c3 m:=yc;have g4:Nt W A4 c4 e:=yf;rw [←hW] at HX0 HY0 HZ0 HB0;clear hn hd hm he hd0 he0 hde
 go_enter Tryz.func75,Tryz.ntmps75
 go_wp2_with fail
 rw [←hW];clear hW;have x0:=HX0.o.cell (i:=0) rfl;have x1:=HX0.o.cell (i:=1) rfl;have x2:=HX0.o.cell (i:=2) rfl;have y0:=HY0.o.cell (i:=0) rfl;have y1:=HY0.o.cell (i:=1) rfl;have y2:=HY0.o.cell (i:=2) rfl;have z0:=HZ0.o.frozen;have z1:=HZ0.o.lt
 go_wp2_with fail
 with_reducible refine (HC.o _ g2 g4).mono ?_
 rintro e0 w0 ⟨rfl,nd,rfl⟩;clear x0 x1 x2 y0 y1 y2 z0 z1;have HX:=zq (HX0.o.drewN (nd+1));have HY:=zq (HY0.o.drewN (nd+1));have HZ:=zq (HZ0.o.drewN (nd+1));have HB:=zq (zAd HB0.o (nd+1));have x0:=HX.o.cell (i:=0) rfl;have x1:=HX.o.cell (i:=1) rfl;have x2:=HX.o.cell (i:=2) rfl;have y0:=HY.o.cell (i:=0) rfl;have y1:=HY.o.cell (i:=1) rfl;have y2:=HY.o.cell (i:=2) rfl;clear HX0 HY0 HZ0 HB0;go_wp2
 go_region_held3 (fun w'=>(w'.cell? ⟨w.heap.size,0,none⟩=some (.bool false)∧w'.cell? ⟨w.heap.size,1,none⟩=some (.slice A (zAc B32 n).length c)∧w'.cell? ⟨w.heap.size,2,none⟩=some (.slice A2 (zAc B32 d).length c2))∧(w'.cell? ⟨w.heap.size+1,0,none⟩=some (.bool true)∧w'.cell? ⟨w.heap.size+1,1,none⟩=some (.slice A3 (zAc B32 m).length c3)∧w'.cell? ⟨w.heap.size+1,2,none⟩=some (.slice A4 (zAc B32 e).length c4)))
  ((refine ⟨⟨?_,?_,?_⟩,?_,?_,?_⟩<;>first | with_reducible assumption | go_simp))
  (first
   | ((go_at_call 76;(with_reducible refine (HM1.o _ (g1.drewN (nd+1)) (g4.drewN (nd+1))).mono ?_);rintro e1 w1 ⟨A5,c5,rfl,h5,hb1⟩;have HX1:=zq (HX.o.below hb1);have HY1:=zq (HY.o.below hb1);have HZ1:=zq (HZ.o.below hb1);have HB1:=zq (HB.o.trans (hb1.mono HB.o.size));have g21:=(g2.drewN (nd+1)).below hb1;have g31:=(g3.drewN (nd+1)).below hb1;have g41:=(g4.drewN (nd+1)).below hb1;have a0:=HX1.o.cell (i:=0) rfl;have a1:=HX1.o.cell (i:=1) rfl;have a2:=HX1.o.cell (i:=2) rfl;have b0:=HY1.o.cell (i:=0) rfl;have b1:=HY1.o.cell (i:=1) rfl;have b2:=HY1.o.cell (i:=2) rfl;clear hb1))
   | ((go_at_call 76;(with_reducible refine (HM2.o _ g31 g21).mono ?_);rintro e2 w2 ⟨A6,c6,rfl,h6,hb2⟩;have HX2:=zq (HX1.o.below hb2);have HY2:=zq (HY1.o.below hb2);have HZ2:=zq (HZ1.o.below hb2);have HB2:=zq (zAb HB1.o hb2);have h52:=h5.below hb2;have g22:=g21.below hb2;have g42:=g41.below hb2;clear a0 a1 a2 b0 b1 b2;have a0:=HX2.o.cell (i:=0) rfl;have a1:=HX2.o.cell (i:=1) rfl;have a2:=HX2.o.cell (i:=2) rfl;have b0:=HY2.o.cell (i:=0) rfl;have b1:=HY2.o.cell (i:=1) rfl;have b2:=HY2.o.cell (i:=2) rfl;clear hb2))
   | ((go_at_call 118;(with_reducible refine (HA.o _ _ _ _ _ h52 h6).mono ?_);rintro e3 w3 ⟨A7,c7,rfl,h7,hb3⟩;have HX3:=zq (HX2.o.below hb3);have HY3:=zq (HY2.o.below hb3);have HZ3:=zq (HZ2.o.below hb3);have HB3:=zq (zAb HB2.o hb3);have g23:=g22.below hb3;have g43:=g42.below hb3;clear a0 a1 a2 b0 b1 b2;have a0:=HX3.o.cell (i:=0) rfl;have a1:=HX3.o.cell (i:=1) rfl;have a2:=HX3.o.cell (i:=2) rfl;have b0:=HY3.o.cell (i:=0) rfl;have b1:=HY3.o.cell (i:=1) rfl;have b2:=HY3.o.cell (i:=2) rfl;clear hb3))
   | ((go_at_call 119;(with_reducible refine (HM3.o _ g23 g43).mono ?_);rintro e4 w4 ⟨A8,c8,rfl,h8,hb4⟩;have HX4:=zq (HX3.o.below hb4);have HY4:=zq (HY3.o.below hb4);have HZ4:=zq (HZ3.o.below hb4);have HB4:=zq (zAb HB3.o hb4);have h74:=h7.below hb4;clear a0 a1 a2 b0 b1 b2;have a0:=HX4.o.cell (i:=0) rfl;have a1:=HX4.o.cell (i:=1) rfl;have a2:=HX4.o.cell (i:=2) rfl;have b0:=HY4.o.cell (i:=0) rfl;have b1:=HY4.o.cell (i:=1) rfl;have b2:=HY4.o.cell (i:=2) rfl;clear hb4))
   | ((go_at_call 117;(with_reducible refine (HO.o _ _ _ _ _ h74 h8).mono ?_);rintro e5 w5 ⟨A9,c9,AD,cE,rfl,h9,hF,hb5⟩;have HX5:=zq (HX4.o.below hb5);have HY5:=zq (HY4.o.below hb5);have HZ5:=zq (HZ4.o.below hb5);have HB5:=zq (zAb HB4.o hb5);clear a0 a1 a2 b0 b1 b2;have a0:=HX5.o.cell (i:=0) rfl;have a1:=HX5.o.cell (i:=1) rfl;have a2:=HX5.o.cell (i:=2) rfl;have b0:=HY5.o.cell (i:=0) rfl;have b1:=HY5.o.cell (i:=1) rfl;have b2:=HY5.o.cell (i:=2) rfl;have r0:=HZ5.o.cell (i:=0) rfl;have r1:=HZ5.o.cell (i:=1) rfl;have r2:=HZ5.o.cell (i:=2) rfl;have fr:=HZ5.o.frozen;have rl:=HZ5.o.lt;clear hb5)))
 clear HX HY HZ HB;go_wp2;refine bodyPost_ret (v:=raV false A9 c9 pp AD cE pq) yq rfl ⟨A9,c9,AD,cE,rfl,h9.setR HZ5.o _ _ _,hF.setR HZ5.o _ _ _,?_⟩
 exact ((HB5.o.setCell ze _).setCell ze _).setCell ze _
theorem RAddN_c (A A2 A3 A4:Option Addr) (c c2 c3 c4 n d m e:Nat) (w:World) (h:Nt w A c n) (h2:Nt w A2 c2 d) (h3:Nt w A3 c3 m) (h4:Nt w A4 c4 e)
  (hn:(zAc B32 n).length≤100000000) (hd:(zAc B32 d).length≤100000000) (hm:(zAc B32 m).length≤100000000) (he:(zAc B32 e).length≤100000000) (hd0:0<d) (he0:0<e) (hm0:m≠0) (hle:m*d≤n*e) :
  Calls Tryz.prog 75 #[raV false A c n A2 c2 d,raV true A3 c3 m A4 c4 e] w (zCl false (subP (n,d) (m,e)).1 (subP (n,d) (m,e)).2 w):=by
 by_cases hde:d=e
 ·exact RAddN_same A A2 A3 A4 c c2 c3 c4 n d m e w h h2 h3 h4 hn hd hm he hd0 he0 hm0 hle hde
 ·exact RAddN_diff A A2 A3 A4 c c2 c3 c4 n d m e w h h2 h3 h4 hn hd hm he hd0 he0 hm0 hle hde
theorem zCW:(⟨#[48]⟩:ByteArray).toList=[48]:=by rw [Dw.toList_eq]
theorem zBa {s:ByteArray} (h:zCj s=true):s.data.toList.all dgB=true∧1≤s.size:=by
 unfold zCj at h;simp only [Bool.and_eq_true,Bool.or_eq_true,decide_eq_true_eq] at h;refine ⟨h.1,?_⟩
 rcases h.2 with h2 | h2<;>omega
def DigRel (w:World) (s:ByteArray) (m:Nat) (iv:Value) (wr:World):Prop :=
 wr=w∧∃ k:Nat,k+m=s.size∧iv = .int .i64 k∧(s.data.toList.take k).all dgB=true
theorem all_take_succ {s:ByteArray} {k:Nat} (hk:k<s.size) (h:(s.data.toList.take k).all dgB=true) (h2:dgB s[k]=true):(s.data.toList.take (k+1)).all dgB=true:=by
 rw [List.take_succ_eq_append_getElem (by simpa using hk),List.all_append,h,zCy s k hk]
 simp [h2]
theorem not_all {s:ByteArray} {k:Nat} (hk:k<s.size) (h2:dgB s[k]=false):s.data.toList.all dgB=false:=by
 rw [List.all_eq_false];exact ⟨s[k],by rw [←zCy s k hk];exact List.getElem_mem _,by simp [h2]⟩
theorem digits_c (s:ByteArray) (w:World) (hs:s.size≤9223372036854775807):Calls Tryz.prog 252 #[.string s] w (zAP (.bool (zCj s)) w):=by
 go_enter Tryz.func252,Tryz.ntmps252
 go_wp2
 go_loopg [6] s.size (DigRel w s)
 case atStart=>exact ⟨rfl,0,za,rfl,rfl⟩
 case round =>
  obtain ⟨hw,k,hkm,rfl,hall⟩:=hrel;subst hw;have HM:=zq hkm;have HA:=zq hall;clear hkm hall
  by_cases hlt:k<s.size
  ·by_cases h1:s[k].toNat<48
   ·have HD:=zq (not_all hlt (show dgB s[k]=false by unfold dgB;simp;omega))
    go_wp2;go_ret
    refine zAP.mk (zAU ?_) rfl
    unfold zCj;rw [HD.o];rfl
   ·by_cases h2:57<s[k].toNat
    ·have HD:=zq (not_all hlt (show dgB s[k]=false by unfold dgB;simp;omega))
     have h1b:(48:Int)≤(s[k].toNat:Int):=za;go_wp2;go_ret
     refine zAP.mk (zAU ?_) rfl
     unfold zCj;rw [HD.o];rfl
    ·have HD:=zq (all_take_succ hlt HA.o (show dgB s[k]=true by unfold dgB;simp;omega))
     have h1b:(48:Int)≤(s[k].toNat:Int):=za;have h2b:(s[k].toNat:Int)≤57:=za;go_wp2
     go_roundg (gk - 1)
     case measure=>have:=HM.o;omega
     case rel=>exact ⟨rfl,k+1,zx,zi,HD.o⟩
  ·obtain rfl:k=s.size:=by have:=HM.o;omega
   have HALL:Hid (s.data.toList.all dgB=true):=by
    show _=_
    have:=HA.o
    rwa [List.take_of_length_le zd] at this
   have hr:zCj s=(decide (s.size=1) || decide (1<s.size)&&decide ((s.data.toList.headD 0).toNat≠48)):=by
    unfold zCj;rw [HALL.o];rfl
   rcases Nat.eq_zero_or_pos s.size with h0 | h0
   ·have he:s=emp:=by
     apply Dw.toList_inj
     rw [Dw.toList_eq,Dw.toList_eq,List.eq_nil_of_length_eq_zero (l:=s.data.toList) (by simpa using h0)]
     rfl
    have hv:zCj s=false:=by rw [hr,h0];rfl
    rw [hv];have q1:=zAt he;have q2:(s.toList == [48])=false:=by rw [←zCW];exact zBG (by rw [he];decide)
    have HV:=zq hv;clear hr hv he;go_wp2;go_ret
    exact zAP.mk (zAU HV.o.symm) rfl
   ·have hne:s≠emp:=fun e=>by rw [e] at h0;exact absurd h0 zc
    have q1:=zAu hne
    by_cases hz:s=zCf
    ·have hv:zCj s=true:=by rw [hz];decide +kernel
     rw [hv];have q2:(s.toList == [48])=true:=by rw [←zCW];exact zBW hz
     have HV:=zq hv;clear hr hv hz hne;go_wp2;go_ret
     exact zAP.mk (zAU HV.o.symm) rfl
    ·have q2:(s.toList == [48])=false:=by rw [←zCW];exact zBG hz
     have hd0:s.data.toList.headD 0=s[0]:=headD_get s h0
     by_cases hh:s[0].toNat=48
     ·have h1:s.size≠1:=fun e=>hz (by
       apply Dw.toList_inj
       rw [Dw.toList_eq,Dw.toList_eq]
       apply List.ext_getElem
       ·simp [zCf,e]
       ·intro i hi1 hi2
        obtain rfl:i=0:=by simp [e] at hi1;omega
        rw [zCy s 0 h0];have:s[0]=48:=UInt8.toNat_inj.1 (by simpa using hh)
        rw [this];rfl)
      have hv:zCj s=false:=by rw [hr,hd0,hh];simp [h1]
      have q3:((s[0].toNat:Int) != 48)=false:=by simp [hh]
      rw [hv];have HV:=zq hv;clear hr hv hz hne hh hd0 h1;go_wp2;go_ret
      exact zAP.mk (zAU HV.o.symm) rfl
     ·have hv:zCj s=true:=by
       rw [hr,hd0]
       rcases Nat.lt_or_ge 1 s.size with h | h
       ·simp [h,hh]
       ·have:s.size=1:=by omega
        simp [this]
      have q3:((s[0].toNat:Int) != 48)=true:=ze;rw [hv];have HV:=zq hv;clear hr hv hz hne hh hd0;go_wp2;go_ret
      exact zAP.mk (zAU HV.o.symm) rfl
theorem len_val {s:ByteArray} (h:s.data.toList.all dgB=true) (hs:s.size≤2000):(zAc B32 (zAy s)).length≤2000:=by
 have h1:=decV_dg h;have h2:10 ^ s.data.toList.length≤B32 ^ s.data.toList.length:=Nat.pow_le_pow_left zc _;have h3:=zAY zAo (Nat.lt_of_lt_of_le h1 h2);have h4:s.data.toList.length=s.size:=zd;unfold zAy;omega
theorem den_pos {s:ByteArray} (h:zCj s=true) (hz:s≠zCf):0<zAy s:=by
 obtain ⟨h1,h2⟩:=zBa h;unfold zCj at h;rw [h1] at h;simp only [Bool.true_and,Bool.or_eq_true,decide_eq_true_eq,Bool.and_eq_true] at h;have hd0:s.data.toList.headD 0=s[0]:=headD_get s za
 have hne:s[0].toNat≠48:=by
  rcases h with h | ⟨_,h⟩
  ·intro e
   apply hz
   apply Dw.toList_inj
   rw [Dw.toList_eq,Dw.toList_eq]
   apply List.ext_getElem
   ·simp [zCf,h]
   ·intro i hi1 hi2
    obtain rfl:i=0:=by simp [h] at hi1;omega
    rw [zCy s 0 za];have:s[0]=48:=UInt8.toNat_inj.1 (by simpa using e)
    rw [this];rfl
  ·rwa [hd0] at h
 have hdg:=dgB_of (List.all_eq_true.1 h1 s[0] (by rw [←zCy s 0 za];exact List.getElem_mem _))
 unfold zAy;rw [decV_cut s.data.toList 1]
 have e1:s.data.toList.take 1=[s[0]]:=by
  rw [List.take_succ_eq_append_getElem ze,zCy s 0 za];rfl
 have e2:zBv [s[0]]=s[0].toNat - 48:=by simp [zBv]
 rw [e1,e2];have h3:1*10 ^ (s.data.toList.length - 1)≤(s[0].toNat - 48)*10 ^ (s.data.toList.length - 1):=Nat.mul_le_mul_right _ za;have h4:0<10 ^ (s.data.toList.length - 1):=Nat.pow_pos za;omega
theorem CheckRatio_c (nu de:ByteArray) (w:World) (hs:(zAS nu).size≤9223372036854775807) (hs2:de.size≤9223372036854775807) :
  Calls Tryz.prog 208 #[.agg #[.string nu,.string de]] w (zAe (.int .i64 (zCN nu de)) w):=by
 generalize hres:zCN nu de=res;have HR:=zq hres;clear hres;unfold zCN at HR;have HB0:Hid (Below w.heap.size w (w.alloc (.cells #[.string nu,.string de] 40))):=(Below.refl w.heap.size w).alloc (Nat.le_refl _) _;have HC:=zq (fun W=>cut_c nu W)
 have HD1:=zq (fun W=>digits_c (zAS nu) W hs)
 have HD2:=zq (fun W=>digits_c de W hs2)
 have HF:=zq (fun (h1:zCj (zAS nu)=true) (h2:zCj de=true) (h3:(zAS nu).size≤2000) (h4:de.size≤2000) W=>From_c nu de W (zBa h1).1 h3 (zBa h2).1 h4)
 have HL:=zq (fun (h1:zCj (zAS nu)=true) (h2:zCj de=true) (hz:de≠zCf) (h3:(zAS nu).size≤2000) (h4:de.size≤2000) A c A2 c2 W (x:Nt W A c (zAy (zAS nu))) (y:Nt W A2 c2 (zAy de)) =>
  Lowest_c (sgB nu) A A2 c c2 (zAy (zAS nu)) (zAy de) W x y (den_pos h2 hz) (Nat.le_trans (len_val (zBa h1).1 h3) za) (Nat.le_trans (len_val (zBa h2).1 h4) za))
 go_enter Tryz.func208,Tryz.ntmps208
 go_wp2_with fail
 with_reducible refine (HC.o _).mono ?_
 rintro e w1 ⟨rfl,rfl⟩
 go_wp2_with fail
 with_reducible refine (HD1.o _).mono ?_
 rintro e w1 ⟨rfl,rfl⟩
 cases h1:zCj (zAS nu) with
 | false =>
  have HS:Hid (res=3):=by show _=_;rw [←HR.o,if_pos (.inl h1)]
  clear h1;go_wp2;go_ret
  exact zAe.mk (zAW HS.o.symm) HB0.o
 | true =>
  by_cases h2:negB nu=true∧zAS nu=zCf
  ·have HS:Hid (res=3):=by show _=_;rw [←HR.o,if_pos (.inr (.inl h2))]
   have q1:=h2.1;have q2:((zAS nu).toList == [48])=true:=by rw [←zCW];exact zBW h2.2
   rw [q1];clear h1 h2 q1;go_wp2;go_ret
   exact zAe.mk (zAW HS.o.symm) HB0.o
  ·have HQ:Hid (negB nu=false∨((zAS nu).toList == [48])=false):=by
    show _∨_
    by_cases h3:negB nu=true
    ·exact .inr (by rw [←zCW];exact zBG fun e=>h2 ⟨h3,e⟩)
    ·exact .inl (by simpa using h3)
   have hr1:=HR.o
   have HR1:Hid ((if zCj de=false∨de=zCf then 3 else if 2000<(zAS nu).size∨2000<de.size then 2 else if Nat.gcd (zAy (zAS nu)) (zAy de)=1 then 0 else 3)=res):=by
    show _=_
    rw [←hr1]
    by_cases h4:zCj de=false∨de=zCf
    ·rw [if_pos h4,if_pos (.inr (.inr h4))]
    ·have hno:¬(zCj (zAS nu)=false∨(negB nu=true∧zAS nu=zCf)∨zCj de=false∨de=zCf):=by
      rintro (h | h | h)
      ·rw [h1] at h;cases h
      ·exact h2 h
      ·exact h4 h
     rw [if_neg h4,if_neg hno]
   have H1:=zq h1;clear hr1 HR h2 h1 HD1 HC
   rcases HQ.o with q | q
   case' inr=>cases hng:negB nu
   case' inl=>rw [q]
   all_goals
    clear HQ
    go_wp2_with fail
    with_reducible refine (HD2.o _).mono ?_
    rintro e w1 ⟨rfl,rfl⟩
    cases h3:zCj de with
    | false =>
     have HS:Hid (res=3):=by show _=_;rw [←HR1.o,if_pos (.inl h3)]
     clear h3;go_wp2;go_ret
     exact zAe.mk (zAW HS.o.symm) HB0.o
    | true =>
     by_cases h4:de=zCf
     ·have HS:Hid (res=3):=by show _=_;rw [←HR1.o,if_pos (.inr h4)]
      have q2:(de.toList == [48])=true:=by rw [←zCW];exact zBW h4
      clear h3 h4;go_wp2;go_ret
      exact zAe.mk (zAW HS.o.symm) HB0.o
     ·have q2:(de.toList == [48])=false:=by rw [←zCW];exact zBG h4
      have HR2:Hid ((if 2000<(zAS nu).size∨2000<de.size then 2 else if Nat.gcd (zAy (zAS nu)) (zAy de)=1 then 0 else 3)=res):=by
       show _=_
       have hno:¬(zCj de=false∨de=zCf):=by
        rintro (h | h)
        ·rw [h3] at h;cases h
        ·exact h4 h
       rw [←HR1.o,if_neg hno]
      by_cases h5:2000<(zAS nu).size
      ·have HS:Hid (res=2):=by show _=_;rw [←HR2.o,if_pos (.inl h5)]
       clear h3 h4;go_wp2;go_ret
       exact zAe.mk (zAW HS.o.symm) HB0.o
      ·by_cases h6:2000<de.size
       ·have HS:Hid (res=2):=by show _=_;rw [←HR2.o,if_pos (.inr h6)]
        clear h3 h4;go_wp2;go_ret
        exact zAe.mk (zAW HS.o.symm) HB0.o
       ·have HR3:Hid ((if Nat.gcd (zAy (zAS nu)) (zAy de)=1 then (0:Int) else 3)=res):=by
         show _=_
         rw [←HR2.o,if_neg (show ¬(2000<(zAS nu).size∨2000<de.size) by omega)]
        have HF2:=zq (HF.o H1.o h3 za za);have HL2:=zq (HL.o H1.o h3 h4 za za);clear h3 h4
        go_wp2_with fail
        with_reducible refine (HF2.o _).mono ?_
        rintro e w2 ⟨A5,c5,A6,c6,rfl,h7,h8,hb2⟩;have HB2:=zq (HB0.o.trans (hb2.mono HB0.o.size));clear hb2
        go_wp2_with fail
        with_reducible refine (HL2.o A5 c5 A6 c6 _ h7 h8).mono ?_
        rintro e w3 ⟨rfl,hb3⟩;have HB3:=zq (zAb HB2.o hb3);clear hb3 HF HL HF2 HL2 HB2
        by_cases h9:Nat.gcd (zAy (zAS nu)) (zAy de)=1
        ·have HS:Hid (res=0):=by show _=_;rw [←HR3.o,if_pos h9]
         have hlb:lowB (zAy (zAS nu)) (zAy de)=true:=by unfold lowB;exact decide_eq_true h9
         rw [hlb];clear h9 hlb;go_wp2;go_ret
         exact zAe.mk (zAW HS.o.symm) HB3.o
        ·have HS:Hid (res=3):=by show _=_;rw [←HR3.o,if_neg h9]
         have hlb:lowB (zAy (zAS nu)) (zAy de)=false:=by unfold lowB;exact decide_eq_false h9
         rw [hlb];clear h9 hlb;go_wp2;go_ret
         exact zAe.mk (zAW HS.o.symm) HB3.o
def posS (l:List ByteArray) (s:ByteArray):Int:=match l.findIdx? fun x=>decide (x=s) with
 | some i=>i
 | none=>-1
theorem posS_mem (l:List ByteArray) (s:ByteArray):decide ((0:Int)≤posS l s)=memS l s:=by
 unfold posS memS
 cases h:l.findIdx? fun x=>decide (x=s) with
 | none =>
  have:(l.any fun x=>decide (x=s))=false:=by
   rw [List.any_eq_false];intro x hx;have:=List.findIdx?_eq_none_iff.1 h x hx
   simpa using this
  rw [this];rfl
 | some i =>
  obtain ⟨hi,hp,_⟩:=List.findIdx?_eq_some_iff_getElem.1 h;have:(l.any fun x=>decide (x=s))=true:=List.any_eq_true.2 ⟨l[i],List.getElem_mem hi,hp⟩
  rw [this];simp
def PosIRel (w:World) (l:List ByteArray) (s:ByteArray) (m:Nat) (i:Value) (wr:World):Prop :=
 w=wr∧∃ k:Nat,k+m=l.length∧i = .int .i64 k∧∀ j (h:j<l.length),j<k→l[j]≠s
theorem indexS_c (A:Option Addr) (c:Nat) (l:List ByteArray) (s:ByteArray) (w:World) (hn:l.length≤1000000) (h:Strs w A l) :
  Calls Tryz.prog 51 #[.slice A l.length c,.string s] w (zAP (.int .i64 (posS l s)) w):=by
 generalize hres:posS l s=res;have HR:=zq hres;clear hres
 go_enter Tryz.func51,Tryz.ntmps51
 go_wp2
 go_loopg [8] l.length (PosIRel w l s)
 case atStart=>exact ⟨rfl,0,za,rfl,fun j _ hj=>absurd hj za⟩
 case round =>
  obtain ⟨hw,k,hk,rfl,hpre⟩:=hrel;subst hw;have HK:=zq hk;have HP:=zq hpre;have hk1:k≤l.length:=za;clear hk hpre
  by_cases hlt:k<l.length
  ·obtain ⟨b,o,rfl,hb,hc⟩:=h.at_ za
   have hc0:=hc k hlt;clear hc
   by_cases hq:s=l[k]
   ·have hqb:=zBW hq
    have HQ:=zq hq;clear hq;go_wp2;go_ret
    refine zAP.mk (zAW ?_) rfl
    rw [←HR.o];unfold posS;rw [List.findIdx?_eq_some_iff_getElem.2 ⟨hlt,by simp [HQ.o],fun j hj=>by simpa using HP.o j za hj⟩]
   ·have hqb:=zBG hq
    have HQ:=zq hq;clear hq;go_wp2
    go_roundg (gk - 1)
    case measure=>have:=HK.o;omega
    case rel =>
     refine ⟨rfl,k+1,zh,zi,fun j hj hjk=>?_⟩
     rcases Nat.lt_or_ge j k with h1 | h1
     ·exact HP.o j hj h1
     ·obtain rfl:j=k:=by omega
      exact fun e=>HQ.o e.symm
  ·go_wp2
   go_ret
   refine zAP.mk (zAW ?_) rfl
   rw [←HR.o];unfold posS
   rw [List.findIdx?_eq_none_iff.2 fun x hx=>by
    obtain ⟨j,hj,rfl⟩:=List.getElem_of_mem hx
    simpa using HP.o j hj za]
theorem containsS_c (A:Option Addr) (c:Nat) (l:List ByteArray) (s:ByteArray) (w:World) (hn:l.length≤1000000) (h:Strs w A l) :
  Calls Tryz.prog 21 #[.slice A l.length c,.string s] w (zAP (.bool (memS l s)) w):=by
 have hm:=posS_mem l s;generalize memS l s=res at *;have HM:=zq hm;clear hm
 go_enter Tryz.func21,Tryz.ntmps21
 go_wp2_with (go_at_call 51;refine (indexS_c _ _ _ _ _ hn h).mono ?_;rintro e w' ⟨rfl,rfl⟩)
 go_ret
 exact zAP.mk (zAU HM.o) rfl
abbrev Ints:=Rd1 (fun n:Int=>Value.int .i64 n)
def cmpI (a b:Int):Int:=if a<b then -1 else if b<a then 1 else 0
theorem isNaN_c (a:Int) (w:World):Calls Tryz.prog 223 #[.int .i64 a] w (zAP (.bool false) w):=by
 have hb:(a != a)=false:=zd
 go_enter Tryz.func223,Tryz.ntmps223
 go_wp2;go_ret
 exact zAP.mk rfl rfl
theorem cmpI_c (a b:Int) (w:World):Calls Tryz.prog 206 #[.int .i64 a,.int .i64 b] w (zAP (.int .i64 (cmpI a b)) w):=by
 generalize hres:cmpI a b=res;have HR:=zq hres;clear hres
 by_cases h1:a<b
 ·have HS:Hid (res = -1):=by
   show res = -1
   rw [←HR.o];unfold cmpI;rw [if_pos h1]
  go_enter Tryz.func206,Tryz.ntmps206
  go_wp2_with (go_at_call 223;refine (isNaN_c _ _).mono ?_;rintro e w' ⟨rfl,rfl⟩)
  go_ret
  exact zAP.mk (zAW HS.o.symm) rfl
 ·by_cases h2:b<a
  ·have HS:Hid (res=1):=by
    show res=1
    rw [←HR.o];unfold cmpI;rw [if_neg h1,if_pos h2]
   go_enter Tryz.func206,Tryz.ntmps206
   go_wp2_with (go_at_call 223;refine (isNaN_c _ _).mono ?_;rintro e w' ⟨rfl,rfl⟩)
   go_ret
   exact zAP.mk (zAW HS.o.symm) rfl
  ·have HS:Hid (res=0):=by
    show res=0
    rw [←HR.o];unfold cmpI;rw [if_neg h1,if_neg h2]
   go_enter Tryz.func206,Tryz.ntmps206
   go_wp2_with (go_at_call 223;refine (isNaN_c _ _).mono ?_;rintro e w' ⟨rfl,rfl⟩)
   go_ret
   exact zAP.mk (zAW HS.o.symm) rfl
def orI:List Int→Int
 | []=>0
 | a::l=>if a=0 then orI l else a
theorem orI_at {l:List Int} {k:Nat} (hk:k<l.length) (hp:∀ j (h:j<l.length),j<k→l[j]=0) (h:l[k]≠0):orI l=l[k]:=by
 induction l generalizing k with
 | nil=>simp at hk
 | cons a t ih =>
  cases k with
  | zero=>simp at h;simp [orI,h]
  | succ k =>
   have h0:a=0:=hp 0 zd za;rw [orI,if_pos h0];exact ih (by simpa using hk) (fun j hj hjk=>hp (j+1) qm za) zv
theorem orI_none {l:List Int} (hp:∀ j (h:j<l.length),l[j]=0):orI l=0:=by
 induction l with
 | nil=>rfl
 | cons a t ih =>
  have h0:a=0:=hp 0 zd;rw [orI,if_pos h0];exact ih fun j hj=>hp (j+1) qm
def OrRel (w:World) (l:List Int) (m:Nat) (i:Value) (wr:World):Prop :=
 w=wr∧∃ k:Nat,k+m=l.length∧i = .int .i64 k∧∀ j (h:j<l.length),j<k→l[j]=0
theorem cmpOr_c (A:Option Addr) (c:Nat) (l:List Int) (w:World) (hn:l.length≤1000000) (h:Ints w A l) :
  Calls Tryz.prog 205 #[.slice A l.length c] w (zAP (.int .i64 (orI l)) w):=by
 generalize hres:orI l=res;have HR:=zq hres;clear hres
 go_enter Tryz.func205,Tryz.ntmps205
 go_wp2
 go_loopg [8] l.length (OrRel w l)
 case atStart=>exact ⟨rfl,0,za,rfl,fun j _ hj=>absurd hj za⟩
 case round =>
  obtain ⟨hw,k,hk,rfl,hpre⟩:=hrel;subst hw;have HK:=zq hk;have HP:=zq hpre;have hk1:k≤l.length:=za;clear hk hpre
  by_cases hlt:k<l.length
  ·obtain ⟨b,o,rfl,hb,hc⟩:=h.at_ za
   have hc0:=hc k hlt;clear hc
   by_cases hq:l[k]=0
   ·have hqb:(l[k] != 0)=false:=by simpa using hq
    have HQ:=zq hq;clear hq;go_wp2
    go_roundg (gk - 1)
    case measure=>have:=HK.o;omega
    case rel =>
     refine ⟨rfl,k+1,zh,zi,fun j hj hjk=>?_⟩
     rcases Nat.lt_or_ge j k with h1 | h1
     ·exact HP.o j hj h1
     ·obtain rfl:j=k:=by omega
      exact HQ.o
   ·have hqb:(l[k] != 0)=true:=by simpa using hq
    have HQ:=zq hq;clear hq;go_wp2;go_ret
    exact zAP.mk (zAW (by rw [←HR.o,orI_at hlt HP.o HQ.o])) rfl
  ·go_wp2
   go_ret
   exact zAP.mk (zAW (by rw [←HR.o,orI_none fun j hj=>HP.o j hj za])) rfl
def cfS (x y:ByteArray):Int:=Lib.compareBytes x.data.toList y.data.toList
theorem compare_less:∀ (a b:List UInt8),decide (Lib.compareBytes a b<0)=Op.bytesLess a b
 | [],[]=>by simp [Lib.compareBytes,Op.bytesLess]
 | [],_::_=>by simp [Lib.compareBytes,Op.bytesLess]
 | _::_,[]=>by simp [Lib.compareBytes,Op.bytesLess]
 | a::x,b::y=>by
  have ih:=compare_less x y;rw [Lib.compareBytes,Op.bytesLess]
  by_cases h1:a<b
  ·simp [h1]
  ·by_cases h2:b<a
   ·have h3:¬ a=b:=fun e=>by subst e;exact h1 h2
    simp [h1,h2,h3]
   ·have h3:a=b:=UInt8.le_antisymm (UInt8.not_lt.1 h2) (UInt8.not_lt.1 h1)
    subst h3;simp only [h1,if_false];rw [ih];simp
theorem cfS_lt (x y:ByteArray):decide (cfS x y<0)=slt x y:=by
 unfold cfS slt;rw [compare_less,Dw.toList_eq,Dw.toList_eq]
theorem compareS_c (x y:ByteArray) (w:World):Calls Tryz.prog 207 #[.string x,.string y] w (zAP (.int .i64 (cfS x y)) w):=by
 have h:=Any.strings_Compare Tryz.lays106 x y w
 change Calls Tryz.prog 207 _ _ _ at h
 exact h.mono fun _ _ ⟨he,hw⟩=>⟨he,hw.symm⟩
def Shs (w:World) (A:Option Addr) (l:List Sh):Prop :=
 0<l.length→∃ b o:Nat,A=some ⟨b,o,none⟩∧∀ i (h:i<l.length),w.cell? ⟨b,o+i*3,none⟩=some (.string (l[i]).pt)∧w.cell? ⟨b,o+i*3+1,none⟩=some (.string (l[i]).nu)∧w.cell? ⟨b,o+i*3+2,none⟩=some (.string (l[i]).de)
theorem Shs.at_ {w:World} {A:Option Addr} {l:List Sh} (h:Shs w A l) (hl:0<l.length):∃ b o:Nat,A=some ⟨b,o,none⟩∧b<w.heap.size∧∀ i (h:i<l.length),w.cell? ⟨b,o+i*3,none⟩=some (.string (l[i]).pt)∧w.cell? ⟨b,o+i*3+1,none⟩=some (.string (l[i]).nu)∧w.cell? ⟨b,o+i*3+2,none⟩=some (.string (l[i]).de):=by
 obtain ⟨b,o,rfl,hc⟩:=h hl;exact ⟨b,o,rfl,World.block_lt_of_cell? w _ (hc 0 hl).1,hc⟩
theorem Shs.below {w w':World} {A:Option Addr} {l:List Sh} (h:Shs w A l) (hb:Below w.heap.size w w'):Shs w' A l:=fun hl=>by
 obtain ⟨b,o,rfl,hlt,hc⟩:=h.at_ hl;refine ⟨b,o,rfl,fun i hi=>?_⟩
 rw [hb.cell hlt,hb.cell hlt,hb.cell hlt];exact hc i hi
abbrev deC (d:De):Array Value:=#[.string d.id,.int .i64 d.day,.int .i64 d.kd,.string d.th,.string d.fr,.string d.to_,.string d.nu,.string d.de,.bool d.ex,.bool d.sb,.slice d.arA d.ar.length d.arc,.slice d.usA d.us.length d.usc,.int .i64 d.bg,.int .i64 d.en,.slice d.shA d.sh.length d.shc,.string d.ot]
abbrev deV (d:De):Value:=.agg (deC d)
structure DeOk (w:World) (d:De):Prop where
 ars:Ars w d.arA d.ar
 uses:Strs w d.usA d.us
 shs:Shs w d.shA d.sh
 lens:d.ar.length≤140737488355328∧d.us.length≤140737488355328∧d.sh.length≤140737488355328
 strs:d.id.size≤9223372036854775807∧d.th.size≤9223372036854775807∧d.fr.size≤9223372036854775807∧d.to_.size≤9223372036854775807∧d.nu.size≤9223372036854775807∧d.de.size≤9223372036854775807
 shz:∀ s∈d.sh,s.pt.size≤9223372036854775807∧s.nu.size≤9223372036854775807∧s.de.size≤9223372036854775807
theorem DeOk.below {w w':World} {d:De} (h:DeOk w d) (hb:Below w.heap.size w w'):DeOk w' d:=⟨h.ars.below hb,h.uses.below hb,h.shs.below hb,h.lens,h.strs,h.shz⟩
theorem isDay_c (n:Int) (w:World):Calls Tryz.prog 68 #[.int .i64 n] w (zAP (.bool (zDr n)) w):=by
 by_cases h1:0≤n
 ·by_cases h2:n≤200000
  ·have hv:zDr n=true:=by simp [zDr,h1,h2]
   rw [hv];have HV:=zq hv;clear hv
   go_enter Tryz.func68,Tryz.ntmps68
   go_wp2;go_ret
   exact zAP.mk rfl rfl
  ·have hv:zDr n=false:=by simp [zDr,h2]
   rw [hv];have HV:=zq hv;have h2':200000<n:=za;clear hv h2
   go_enter Tryz.func68,Tryz.ntmps68
   go_wp2;go_ret
   exact zAP.mk (zAU (decide_eq_false za)) rfl
 ·have hv:zDr n=false:=by simp [zDr,h1]
  rw [hv];have HV:=zq hv;have h1':n<0:=za;clear hv h1
  go_enter Tryz.func68,Tryz.ntmps68
  go_wp2;go_ret
  exact zAP.mk rfl rfl
def kindB (n:Int):Bool:=decide (1≤n)&&decide (n≤5)
theorem isKindD_c (n:Int) (w:World):Calls Tryz.prog 147 #[.int .i64 n] w (zAP (.bool (kindB n)) w):=by
 by_cases h1:1≤n
 ·by_cases h2:n≤5
  ·have hv:kindB n=true:=by simp [kindB,h1,h2]
   rw [hv];have HV:=zq hv;clear hv
   go_enter Tryz.func147,Tryz.ntmps147
   go_wp2;go_ret
   exact zAP.mk rfl rfl
  ·have hv:kindB n=false:=by simp [kindB,h2]
   rw [hv];have HV:=zq hv;have h2':5<n:=za;clear hv h2
   go_enter Tryz.func147,Tryz.ntmps147
   go_wp2;go_ret
   exact zAP.mk (zAU (decide_eq_false za)) rfl
 ·have hv:kindB n=false:=by simp [kindB,h1]
  rw [hv];have HV:=zq hv;have h1':n<1:=za;clear hv h1
  go_enter Tryz.func147,Tryz.ntmps147
  go_wp2;go_ret
  exact zAP.mk rfl rfl
def deCmp (a b:De):Int:=orI [cmpI a.day b.day,cfS a.id b.id]
theorem deCmp_lt (a b:De):decide (deCmp a b<0)=deLt a b:=by
 unfold deCmp deLt cmpI
 rcases Int.lt_trichotomy a.day b.day with h | h | h
 ·simp [h,orI]
 ·rw [h]
  have e1:=cfS_lt a.id b.id;rw [←e1]
  by_cases hz:cfS a.id b.id=0
  ·simp [orI,hz]
  ·simp [orI,hz]
 ·have h1:¬ a.day<b.day:=by omega
  have h2:¬ a.day=b.day:=za;simp [orI,h,h1,h2]
theorem ints_twoR (w:World) (a b:Int) (t:TypeId):Ints (w.alloc (.cells #[.int .i64 a,.int .i64 b] t)) (some ⟨w.heap.size,0,none⟩) [a,b]:=fun _=>by
 refine ⟨w.heap.size,0,rfl,fun i hi=>?_⟩
 have h2:i=0∨i=1:=by simp at hi;omega
 rcases h2 with rfl | rfl
 ·exact (Bx.new w _ t).cell rfl
 ·exact (Bx.new w _ t).cell rfl
theorem compareDeeds_c (a b:De) (w:World):Calls Tryz.prog 146 #[deV a,deV b] w (zAe (.int .i64 (deCmp a b)) w):=by
 have HX:Hid (Bx ((w.alloc (.cells (deC a) 52)).alloc (.cells (deC b) 52)) w.heap.size (deC a) 52):=(Bx.new _ _ _).alloc _;have HY:Hid (Bx ((w.alloc (.cells (deC a) 52)).alloc (.cells (deC b) 52)) (w.heap.size+1) (deC b) 52):=Bx.new1 _ _ _ _;have HB:Hid (Below w.heap.size w ((w.alloc (.cells (deC a) 52)).alloc (.cells (deC b) 52))):=((Below.refl w.heap.size w).alloc (Nat.le_refl _) _).alloc zd _;obtain ⟨W,hW⟩:∃ W,W=(w.alloc (.cells (deC a) 52)).alloc (.cells (deC b) 52):=⟨_,rfl⟩;rw [←hW] at HX HY HB;unfold deCmp;have HC:=zq (fun W'=>cmpI_c a.day b.day W')
 have HS:=zq (fun W'=>compareS_c a.id b.id W')
 go_enter Tryz.func146,Tryz.ntmps146
 go_wp2_with fail
 rw [←hW];clear hW;have x0:=HX.o.cell (i:=0) rfl;have x1:=HX.o.cell (i:=1) rfl;have y0:=HY.o.cell (i:=0) rfl;have y1:=HY.o.cell (i:=1) rfl;generalize cmpI a.day b.day=z1 at *;generalize cfS a.id b.id=z2 at *
 have ho:∀ W':World,Calls Tryz.prog 205 #[.slice (some ⟨W'.heap.size,0,none⟩) 2 2] (W'.alloc (.cells #[.int .i64 z1,.int .i64 z2] 3)).drew (zAP (.int .i64 (orI [z1,z2])) (W'.alloc (.cells #[.int .i64 z1,.int .i64 z2] 3)).drew) :=
  fun W'=>cmpOr_c (some ⟨W'.heap.size,0,none⟩) 2 [z1,z2] _ zd (Rd1.drew (ints_twoR W' z1 z2 _))
 have HO:=zq ho;clear ho;refine wp_region_still_tail 10 zb zb ?_
 simp only [List.take_succ_cons,List.take_zero,List.drop_succ_cons,List.drop_zero]
 iterate 4 still_step
 still_call ((HC.o _).mono (fun _ _ h=>⟨h.1,h.2.symm⟩))
 iterate 4 still_step
 still_call ((HS.o _).mono (fun _ _ h=>⟨h.1,h.2.symm⟩))
 refine wpStill_nil ?_
 change wpList _ _ _ _ _ W.drew
 clear x0 x1 y0 y1 HC HS
 go_wp2_with fail
 with_reducible refine (HO.o W).mono ?_
 rintro e w3 ⟨rfl,rfl⟩;have HB3:Hid (Below w.heap.size w (W.alloc (.cells #[.int .i64 z1,.int .i64 z2] 3)).drew):=zAd (HB.o.alloc HB.o.size _) 1;go_wp2;go_ret
 exact zAe.mk rfl HB3.o
def fldC (k:Int):Array Value :=
 if k=1 then #[.bool true,.bool false,.bool false,.bool false,.bool false,.bool false,.bool false,.bool true,.bool false]
 else if k=2 then #[.bool true,.bool true,.bool true,.bool true,.bool false,.bool true,.bool true,.bool false,.bool false]
 else if k=3 then #[.bool true,.bool true,.bool true,.bool false,.bool true,.bool true,.bool true,.bool false,.bool false]
 else if k=4 then #[.bool false,.bool false,.bool false,.bool false,.bool false,.bool false,.bool false,.bool false,.bool true]
 else #[.bool false,.bool true,.bool false,.bool false,.bool false,.bool false,.bool false,.bool true,.bool false]
theorem zCs (k:Int) (w:World) (hk:1≤k∧k≤5):Calls Tryz.prog 63 #[.int .i64 k] w (zAe (.agg (fldC k)) w):=by
 have h5:k=1∨k=2∨k=3∨k=4∨k=5:=za
 rcases h5 with rfl | rfl | rfl | rfl | rfl
 all_goals
  clear hk
  go_enter Tryz.func63,Tryz.ntmps63
  go_wp2;refine bodyPost_ret (v:=.agg (fldC _)) (by simp [results,Tryz.results63,go_sem];rfl) rfl ⟨rfl,?_⟩
  exact (Below.refl w.heap.size w).alloc (Nat.le_refl _) _
end Go.Proofs.YtieoifkdobcpiaaGreatDoor
