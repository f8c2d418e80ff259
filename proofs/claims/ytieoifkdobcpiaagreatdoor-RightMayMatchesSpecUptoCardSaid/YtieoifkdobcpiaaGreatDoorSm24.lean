/- Parts of the proof, joined: Package num: a product with a number below 0, a difference of whole nu. -/
import Derived.Test.YtieoifkdobcpiaaGreatDoorSm23
set_option maxRecDepth 100000
set_option maxHeartbeats 8000000
namespace Go.Proofs.YtieoifkdobcpiaaGreatDoor
open Go.RowKit Dw
theorem wl_zero {n:Nat} (h:n=0):(zAc B32 n).length=0:=by rw [(zCv zAu).2 h];rfl
theorem wl_pos {n:Nat} (h:n≠0):(0:Int)<((zAc B32 n).length:Int):=by
 have:(zAc B32 n).length≠0:=fun e=>h ((zCv zAu).1 (List.length_eq_zero_iff.1 e))
 omega
theorem IMulN_c (A A2:Option Addr) (c c2 a b:Nat) (w:World) (h:Nt w A c a) (h2:Nt w A2 c2 b) (hn:(zAc B32 a).length≤400000000) (hm:(zAc B32 b).length≤400000000) :
  Calls Tryz.prog 76 #[inV true A c a,inV false A2 c2 b] w (GivesI (decide (a*b≠0)) (a*b) w):=by
 have HM:=zq (Mul_c A A2 c c2 a b (((w.alloc (.cells #[.bool true,.slice A (zAc B32 a).length c] 87)).alloc (.cells #[.bool false,.slice A2 (zAc B32 b).length c2] 87)).alloc (.cells #[.bool false,.slice none 0 0] 87)) (((h.alloc _).alloc _).alloc _) (((h2.alloc _).alloc _).alloc _) hn hm);obtain ⟨p,hp⟩:∃ p,p=a*b:=⟨_,rfl⟩;rw [←hp] at HM ⊢;clear hp
 cases hz:decide (p≠0)
 all_goals
  have hz':(p=0∨p≠0):=Classical.em _
  go_enter Tryz.func76,Tryz.ntmps76
  go_wp2_with fail
  with_reducible refine HM.o.mono ?_
  rintro e w1 ⟨A5,c5,rfl,h5,hb⟩;obtain ⟨hc,hf⟩:=bcellK hb;have hs3:w.heap.size+2<w1.heap.size:=jh;have c0:w1.cell? ⟨w.heap.size+1+1,0,none⟩=some (.bool false):=zo;have c1:w1.cell? ⟨w.heap.size+1+1,1,none⟩=some (.slice none 0 0):=zo;have HB:Hid (Below w.heap.size w w1):=((((aS w.heap.size w).alloc (aB _) _).alloc ze _).alloc zg _).trans (hb.mono zg)
 ·have h0:p=0:=by simpa using hz
  have hl:=wl_zero h0;have hl2:¬ (0:Int)<((zAc B32 p).length:Int):=za;clear hz hz' h0;go_wp2;refine dY (v:=inV false A5 c5 p) (by simp [results,Tryz.results76,go_sem,hc,hl]) rfl ⟨A5,c5,rfl,?_,?_⟩
  ·exact h5.set2 c0 c1 (nb_ _) (ns_ _ _ _) _ _
  ·exact (HB.o.setCell zg _).setCell zg _
 ·have h0:p≠0:=by simpa using hz
  have hl2:=wl_pos h0;have hl3:0<(zAc B32 p).length:=za;clear hz hz' h0;go_wp2;refine dY (v:=inV true A5 c5 p) (by simp [results,Tryz.results76,go_sem,hc]) rfl ⟨A5,c5,rfl,?_,?_⟩
  ·exact h5.set2 c0 c1 (nb_ _) (ns_ _ _ _) _ _
  ·exact (HB.o.setCell zg _).setCell zg _
theorem IAddN_c (A A2:Option Addr) (c c2 a b:Nat) (w:World) (h:Nt w A c a) (h2:Nt w A2 c2 b) (hn:(zAc B32 a).length≤400000000) (hba:b≤a) :
  Calls Tryz.prog 118 #[inV false A c a,inV true A2 c2 b] w (GivesI false (a - b) w):=by
 have HCM:=zq (fun W (q:Nt W A c a) (q2:Nt W A2 c2 b)=>Cmp_c A A2 c c2 a b W q q2 za)
 have HA:=zq (fun W (q:Nt W A c a) (q2:Nt W A2 c2 b)=>sub_c A A2 c c2 a b W q q2 za hba)
 rcases Nat.eq_or_lt_of_le hba with he | hl
 ·have hd:a - b=0:=by omega
  have hk:zCZ a b=0:=zCx he.symm;rw [hk] at HCM;rw [hd];clear hd hk he hba HA
  go_enter Tryz.func118,Tryz.ntmps118
  go_wp2_with fail
  with_reducible refine (HCM.o _ (((h.alloc _).alloc _).alloc _) (((h2.alloc _).alloc _).alloc _)).mono ?_
  rintro e w1 ⟨rfl,nd,rfl⟩;go_wp2;refine dY (v:=inV false none 0 0) (by simp [results,Tryz.results118,go_sem];rfl) rfl ⟨none,0,rfl,Nt.zero _,?_⟩
  exact ((zAd ((((aS w.heap.size w).alloc (aB _) _).alloc ze _).alloc zg _) nd).setCell (by first | (simp;omega) | omega) _).setCell (by first | (simp;omega) | omega) _
 ·have hk:zCZ a b=1:=zBy hl
  rw [hk] at HCM;clear hk hl hba;generalize a - b=p at *
  go_enter Tryz.func118,Tryz.ntmps118
  go_wp2_with fail
  with_reducible refine (HCM.o _ (((h.alloc _).alloc _).alloc _) (((h2.alloc _).alloc _).alloc _)).mono ?_
  rintro e w1 ⟨rfl,nd,rfl⟩;have g1:Nt ((((w.alloc (.cells #[.bool false,.slice A (zAc B32 a).length c] 87)).alloc (.cells #[.bool true,.slice A2 (zAc B32 b).length c2] 87)).alloc (.cells #[.bool false,.slice none 0 0] 87)).drewN (nd+1)) A c a:=(((h.alloc _).alloc _).alloc _).drewN _;have g2:Nt ((((w.alloc (.cells #[.bool false,.slice A (zAc B32 a).length c] 87)).alloc (.cells #[.bool true,.slice A2 (zAc B32 b).length c2] 87)).alloc (.cells #[.bool false,.slice none 0 0] 87)).drewN (nd+1)) A2 c2 b:=(((h2.alloc _).alloc _).alloc _).drewN _;have HB0:Hid (Below w.heap.size w ((((w.alloc (.cells #[.bool false,.slice A (zAc B32 a).length c] 87)).alloc (.cells #[.bool true,.slice A2 (zAc B32 b).length c2] 87)).alloc (.cells #[.bool false,.slice none 0 0] 87)).drewN (nd+1))):=zAd ((((aS w.heap.size w).alloc (aB _) _).alloc ze _).alloc zg _) (nd+1);have HBz:Hid (Bx ((((w.alloc (.cells #[.bool false,.slice A (zAc B32 a).length c] 87)).alloc (.cells #[.bool true,.slice A2 (zAc B32 b).length c2] 87)).alloc (.cells #[.bool false,.slice none 0 0] 87)).drewN (nd+1)) (w.heap.size+1+1) #[.bool false,.slice none 0 0] 87):=(Bx.new2 _ _ _ _ _).drewN _;have HBx:Hid (Bx ((((w.alloc (.cells #[.bool false,.slice A (zAc B32 a).length c] 87)).alloc (.cells #[.bool true,.slice A2 (zAc B32 b).length c2] 87)).alloc (.cells #[.bool false,.slice none 0 0] 87)).drewN (nd+1)) w.heap.size #[.bool false,.slice A (zAc B32 a).length c] 87):=(((Bx.new _ _ _).alloc _).alloc _).drewN _;have HBy:Hid (Bx ((((w.alloc (.cells #[.bool false,.slice A (zAc B32 a).length c] 87)).alloc (.cells #[.bool true,.slice A2 (zAc B32 b).length c2] 87)).alloc (.cells #[.bool false,.slice none 0 0] 87)).drewN (nd+1)) (w.heap.size+1) #[.bool true,.slice A2 (zAc B32 b).length c2] 87):=((Bx.new1 _ _ _ _).alloc _).drewN _;go_wp2
  go_region_held3 (fun w'=>w'.cell? ⟨w.heap.size,0,none⟩=some (.bool false)∧w'.cell? ⟨w.heap.size,1,none⟩=some (.slice A (zAc B32 a).length c)∧w'.cell? ⟨w.heap.size+1,1,none⟩=some (.slice A2 (zAc B32 b).length c2)) ((refine ⟨?_,?_,?_⟩<;>first | with_reducible assumption | go_simp))
   (first
    | ((go_at_call 170;(with_reducible refine (HA.o _ g1 g2).mono ?_);rintro e w1 ⟨A5,c5,rfl,h5,hb⟩;have HZ:=zq (HBz.o.below hb);have HB:=zq (zAa HB0.o hb);have HX:=zq (HBx.o.below hb);have HY:=zq (HBy.o.below hb);have x0:=HX.o.c 0 rfl;have x1:=HX.o.c 1 rfl;have y1:=HY.o.c 1 rfl;have r0:=HZ.o.c 0 rfl;have r1:=HZ.o.c 1 rfl;have fr:=HZ.o.frozen;have rl:=HZ.o.lt;clear hb)))
  go_wp2;refine dY (v:=inV false A5 c5 p) (by simp [results,Tryz.results118,go_sem,r0,r1]) rfl ⟨A5,c5,rfl,?_,?_⟩
  ·exact h5.set2 r0 r1 (nb_ _) (ns_ _ _ _) _ _
  ·exact (HB.o.setCell (by first | (simp;omega) | omega) _).setCell (by first | (simp;omega) | omega) _
abbrev raN (A:Option Addr) (c n:Nat) (A2:Option Addr) (c2 d:Nat):Array Value:=#[.bool true,.slice A (zAc B32 n).length c,.slice A2 (zAc B32 d).length c2]
def subP (p q:Nat×Nat):Nat×Nat:=zBY (p.1*q.2 - q.1*p.2) (p.2*q.2)
theorem subP_same (n m d:Nat) (h:0<d):subP (n,d) (m,d)=zBY (n - m) d:=by
 unfold subP
 show zBY (n*d - m*d) (d*d)=_
 rw [←Nat.sub_mul,bB,lowP_scale h]
theorem RAddN_same (A A2 A3 A4:Option Addr) (c c2 c3 c4 n d m e:Nat) (w:World) (h:Nt w A c n) (h2:Nt w A2 c2 d) (h3:Nt w A3 c3 m) (h4:Nt w A4 c4 e)
  (hn:(zAc B32 n).length≤100000000) (hd:(zAc B32 d).length≤100000000) (_hm:(zAc B32 m).length≤100000000) (he:(zAc B32 e).length≤100000000) (hd0:0<d) (he0:0<e) (_hm0:m≠0) (hle:m*d≤n*e) (hde:d=e) :
  Calls Tryz.prog 75 #[raV false A c n A2 c2 d,raV true A3 c3 m A4 c4 e] w (zCB false (subP (n,d) (m,e)).1 (subP (n,d) (m,e)).2 w):=by
 subst hde;rw [subP_same n m d hd0];have hle2:m≤n:=Nat.le_of_mul_le_mul_right hle hd0;have HC:=zq (fun W (x:Nt W A2 c2 d) (y:Nt W A4 c4 d)=>Cmp_c A2 A4 c2 c4 d d W x y za)
 have HA:=zq (fun W (x:Nt W A c n) (y:Nt W A3 c3 m)=>IAddN_c A A3 c c3 n m W x y za hle2)
 have HO:=zq (fun A5 c5 W (x:Nt W A5 c5 (n - m)) (y:Nt W A2 c2 d)=>Over_c A5 A2 c5 c2 (n - m) d false W x y hd0 (by have:=zAt zAu (Nat.sub_le n m);omega) za)
 rw [zCx rfl] at HC;simp only [eB] at HO;generalize (zBY (n - m) d).1=pp at *;generalize (zBY (n - m) d).2=pq at *;clear hle hle2;generalize n - m=nm at *;have HX0:Hid (Bx (((w.alloc (.cells (raC A c n A2 c2 d) 89)).alloc (.cells (raN A3 c3 m A4 c4 d) 89)).alloc (.cells zBX 89)) w.heap.size (raC A c n A2 c2 d) 89):=((Bx.new _ _ _).alloc _).alloc _;have HY0:Hid (Bx (((w.alloc (.cells (raC A c n A2 c2 d) 89)).alloc (.cells (raN A3 c3 m A4 c4 d) 89)).alloc (.cells zBX 89)) (w.heap.size+1) (raN A3 c3 m A4 c4 d) 89):=(Bx.new1 _ _ _ _).alloc _;have HZ0:Hid (Bx (((w.alloc (.cells (raC A c n A2 c2 d) 89)).alloc (.cells (raN A3 c3 m A4 c4 d) 89)).alloc (.cells zBX 89)) (w.heap.size+1+1) zBX 89):=Bx.new2 _ _ _ _ _;have HB0:Hid (Below w.heap.size w (((w.alloc (.cells (raC A c n A2 c2 d) 89)).alloc (.cells (raN A3 c3 m A4 c4 d) 89)).alloc (.cells zBX 89))):=(((aS w.heap.size w).alloc (aB _) _).alloc ze _).alloc zg _;obtain ⟨W,hW⟩:∃ W,W=(((w.alloc (.cells (raC A c n A2 c2 d) 89)).alloc (.cells (raN A3 c3 m A4 c4 d) 89)).alloc (.cells zBX 89)):=⟨_,rfl⟩;have g1:Nt W A c n:=yu;have g2:Nt W A2 c2 d:=yp;have g3:Nt W A3 c3 m:=yq;have g4:Nt W A4 c4 d:=yr;rw [←hW] at HX0 HY0 HZ0 HB0;clear hn hd _hm he hd0 he0 _hm0
 go_enter Tryz.func75,Tryz.ntmps75
 go_wp2_with fail
 rw [←hW];clear hW;obtain ⟨x0,x1,x2⟩:=HX0.o.t;obtain ⟨y0,y1,y2⟩:=HY0.o.t;have z0:=HZ0.o.frozen;have z1:=HZ0.o.lt
 go_wp2_with fail
 with_reducible refine (HC.o _ g2 g4).mono ?_
 rintro e0 w0 ⟨rfl,nd,rfl⟩;clear x0 x1 x2 y0 y1 y2 z0 z1;have HX:=zq (HX0.o.drewN (nd+1));have HY:=zq (HY0.o.drewN (nd+1));have HZ:=zq (HZ0.o.drewN (nd+1));have HB:=zq (zAd HB0.o (nd+1));obtain ⟨x0,x1,x2⟩:=HX.o.t;obtain ⟨y0,y1,y2⟩:=HY.o.t;clear HX0 HY0 HZ0 HB0;go_wp2
 go_region_held3 (fun w'=>(w'.cell? ⟨w.heap.size,0,none⟩=some (.bool false)∧w'.cell? ⟨w.heap.size,1,none⟩=some (.slice A (zAc B32 n).length c)∧w'.cell? ⟨w.heap.size,2,none⟩=some (.slice A2 (zAc B32 d).length c2))∧(w'.cell? ⟨w.heap.size+1,0,none⟩=some (.bool true)∧w'.cell? ⟨w.heap.size+1,1,none⟩=some (.slice A3 (zAc B32 m).length c3)∧w'.cell? ⟨w.heap.size+1,2,none⟩=some (.slice A4 (zAc B32 d).length c4)))
  ((refine ⟨⟨?_,?_,?_⟩,?_,?_,?_⟩<;>first | with_reducible assumption | go_simp))
  (first
   | ((go_at_call 118;(with_reducible refine (HA.o _ (g1.drewN (nd+1)) (g3.drewN (nd+1))).mono ?_);rintro e1 w1 ⟨A5,c5,rfl,h5,hb1⟩;have HX1:=zq (HX.o.below hb1);have HY1:=zq (HY.o.below hb1);have HZ1:=zq (HZ.o.below hb1);have HB1:=zq (HB.o.trans (hb1.mono HB.o.size));have g21:=(g2.drewN (nd+1)).below hb1;obtain ⟨a0,a1,a2⟩:=HX1.o.t;obtain ⟨b0,b1,b2⟩:=HY1.o.t;clear hb1))
   | ((go_at_call 117;(with_reducible refine (HO.o _ _ _ h5 g21).mono ?_);rintro e2 w2 ⟨A6,c6,A7,c7,rfl,h6,h7,hb2⟩;have HX2:=zq (HX1.o.below hb2);have HY2:=zq (HY1.o.below hb2);have HZ2:=zq (HZ1.o.below hb2);have HB2:=zq (zAa HB1.o hb2);clear a0 a1 a2 b0 b1 b2;obtain ⟨a0,a1,a2⟩:=HX2.o.t;obtain ⟨b0,b1,b2⟩:=HY2.o.t;obtain ⟨r0,r1,r2⟩:=HZ2.o.t;have fr:=HZ2.o.frozen;have rl:=HZ2.o.lt;clear hb2)))
 clear HX HY HZ HB;go_wp2;refine dY (v:=raV false A6 c6 pp A7 c7 pq) qq rfl ⟨A6,c6,A7,c7,rfl,h6.setR HZ2.o _ _ _,h7.setR HZ2.o _ _ _,?_⟩
 exact ((HB2.o.setCell zg _).setCell zg _).setCell zg _
theorem RAddN_diff (A A2 A3 A4:Option Addr) (c c2 c3 c4 n d m e:Nat) (w:World) (h:Nt w A c n) (h2:Nt w A2 c2 d) (h3:Nt w A3 c3 m) (h4:Nt w A4 c4 e)
  (hn:(zAc B32 n).length≤100000000) (hd:(zAc B32 d).length≤100000000) (hm:(zAc B32 m).length≤100000000) (he:(zAc B32 e).length≤100000000) (hd0:0<d) (he0:0<e) (hm0:m≠0) (hle:m*d≤n*e) (hde:d≠e) :
  Calls Tryz.prog 75 #[raV false A c n A2 c2 d,raV true A3 c3 m A4 c4 e] w (zCB false (subP (n,d) (m,e)).1 (subP (n,d) (m,e)).2 w):=by
 have HC:=zq (fun W (x:Nt W A2 c2 d) (y:Nt W A4 c4 e)=>Cmp_c A2 A4 c2 c4 d e W x y za)
 have hk:(zCZ d e == 0)=false:=by
  rcases Nat.lt_or_gt_of_ne hde with h | h
  ·rw [zBF h];rfl
  ·rw [zBy h];rfl
 have l1:=zDn n e;have l2:=zDn m d;have l3:=zDn d e;have l4:=zAt zAu (Nat.sub_le (n*e) (m*d));have HM1:=zq (fun W (x:Nt W A c n) (y:Nt W A4 c4 e)=>IMul_c A A4 c c4 n e W x y za za)
 have HM2:=zq (fun W (x:Nt W A3 c3 m) (y:Nt W A2 c2 d)=>IMulN_c A3 A2 c3 c2 m d W x y za za)
 rw [show decide (m*d≠0)=true from cW (fA hm0 za)] at HM2
 have HM3:=zq (fun W (x:Nt W A2 c2 d) (y:Nt W A4 c4 e)=>Mul_c A2 A4 c2 c4 d e W x y za za)
 have HA:=zq (fun A5 c5 A6 c6 W (x:Nt W A5 c5 (n*e)) (y:Nt W A6 c6 (m*d))=>IAddN_c A5 A6 c5 c6 (n*e) (m*d) W x y za hle)
 have HO:=zq (fun A5 c5 A6 c6 W (x:Nt W A5 c5 (n*e - m*d)) (y:Nt W A6 c6 (d*e))=>Over_c A5 A6 c5 c6 (n*e - m*d) (d*e) false W x y (dN hd0 he0) za za)
 simp only [eB] at HO;have hap:subP (n,d) (m,e)=zBY (n*e - m*d) (d*e):=rfl;rw [hap];clear hap l1 l2 l3 l4 hle hm0;generalize (zBY (n*e - m*d) (d*e)).1=pp at *;generalize (zBY (n*e - m*d) (d*e)).2=pq at *;generalize n*e=p1 at *;generalize m*d=p2 at *;generalize d*e=p3 at *;generalize p1 - p2=p4 at *;generalize zCZ d e=cz at *;have HX0:Hid (Bx (((w.alloc (.cells (raC A c n A2 c2 d) 89)).alloc (.cells (raN A3 c3 m A4 c4 e) 89)).alloc (.cells zBX 89)) w.heap.size (raC A c n A2 c2 d) 89):=((Bx.new _ _ _).alloc _).alloc _;have HY0:Hid (Bx (((w.alloc (.cells (raC A c n A2 c2 d) 89)).alloc (.cells (raN A3 c3 m A4 c4 e) 89)).alloc (.cells zBX 89)) (w.heap.size+1) (raN A3 c3 m A4 c4 e) 89):=(Bx.new1 _ _ _ _).alloc _;have HZ0:Hid (Bx (((w.alloc (.cells (raC A c n A2 c2 d) 89)).alloc (.cells (raN A3 c3 m A4 c4 e) 89)).alloc (.cells zBX 89)) (w.heap.size+1+1) zBX 89):=Bx.new2 _ _ _ _ _;have HB0:Hid (Below w.heap.size w (((w.alloc (.cells (raC A c n A2 c2 d) 89)).alloc (.cells (raN A3 c3 m A4 c4 e) 89)).alloc (.cells zBX 89))):=(((aS w.heap.size w).alloc (aB _) _).alloc ze _).alloc zg _;obtain ⟨W,hW⟩:∃ W,W=(((w.alloc (.cells (raC A c n A2 c2 d) 89)).alloc (.cells (raN A3 c3 m A4 c4 e) 89)).alloc (.cells zBX 89)):=⟨_,rfl⟩;have g1:Nt W A c n:=yu;have g2:Nt W A2 c2 d:=yp;have g3:Nt W A3 c3 m:=yq;have g4:Nt W A4 c4 e:=yr;rw [←hW] at HX0 HY0 HZ0 HB0;clear hn hd hm he hd0 he0 hde
 go_enter Tryz.func75,Tryz.ntmps75
 go_wp2_with fail
 rw [←hW];clear hW;obtain ⟨x0,x1,x2⟩:=HX0.o.t;obtain ⟨y0,y1,y2⟩:=HY0.o.t;have z0:=HZ0.o.frozen;have z1:=HZ0.o.lt
 go_wp2_with fail
 with_reducible refine (HC.o _ g2 g4).mono ?_
 rintro e0 w0 ⟨rfl,nd,rfl⟩;clear x0 x1 x2 y0 y1 y2 z0 z1;have HX:=zq (HX0.o.drewN (nd+1));have HY:=zq (HY0.o.drewN (nd+1));have HZ:=zq (HZ0.o.drewN (nd+1));have HB:=zq (zAd HB0.o (nd+1));obtain ⟨x0,x1,x2⟩:=HX.o.t;obtain ⟨y0,y1,y2⟩:=HY.o.t;clear HX0 HY0 HZ0 HB0;go_wp2
 go_region_held3 (fun w'=>(w'.cell? ⟨w.heap.size,0,none⟩=some (.bool false)∧w'.cell? ⟨w.heap.size,1,none⟩=some (.slice A (zAc B32 n).length c)∧w'.cell? ⟨w.heap.size,2,none⟩=some (.slice A2 (zAc B32 d).length c2))∧(w'.cell? ⟨w.heap.size+1,0,none⟩=some (.bool true)∧w'.cell? ⟨w.heap.size+1,1,none⟩=some (.slice A3 (zAc B32 m).length c3)∧w'.cell? ⟨w.heap.size+1,2,none⟩=some (.slice A4 (zAc B32 e).length c4)))
  ((refine ⟨⟨?_,?_,?_⟩,?_,?_,?_⟩<;>first | with_reducible assumption | go_simp))
  (first
   | ((go_at_call 76;(with_reducible refine (HM1.o _ (g1.drewN (nd+1)) (g4.drewN (nd+1))).mono ?_);rintro e1 w1 ⟨A5,c5,rfl,h5,hb1⟩;have HX1:=zq (HX.o.below hb1);have HY1:=zq (HY.o.below hb1);have HZ1:=zq (HZ.o.below hb1);have HB1:=zq (HB.o.trans (hb1.mono HB.o.size));have g21:=(g2.drewN (nd+1)).below hb1;have g31:=(g3.drewN (nd+1)).below hb1;have g41:=(g4.drewN (nd+1)).below hb1;obtain ⟨a0,a1,a2⟩:=HX1.o.t;obtain ⟨b0,b1,b2⟩:=HY1.o.t;clear hb1))
   | ((go_at_call 76;(with_reducible refine (HM2.o _ g31 g21).mono ?_);rintro e2 w2 ⟨A6,c6,rfl,h6,hb2⟩;have HX2:=zq (HX1.o.below hb2);have HY2:=zq (HY1.o.below hb2);have HZ2:=zq (HZ1.o.below hb2);have HB2:=zq (zAa HB1.o hb2);have h52:=h5.below hb2;have g22:=g21.below hb2;have g42:=g41.below hb2;clear a0 a1 a2 b0 b1 b2;obtain ⟨a0,a1,a2⟩:=HX2.o.t;obtain ⟨b0,b1,b2⟩:=HY2.o.t;clear hb2))
   | ((go_at_call 118;(with_reducible refine (HA.o _ _ _ _ _ h52 h6).mono ?_);rintro e3 w3 ⟨A7,c7,rfl,h7,hb3⟩;have HX3:=zq (HX2.o.below hb3);have HY3:=zq (HY2.o.below hb3);have HZ3:=zq (HZ2.o.below hb3);have HB3:=zq (zAa HB2.o hb3);have g23:=g22.below hb3;have g43:=g42.below hb3;clear a0 a1 a2 b0 b1 b2;obtain ⟨a0,a1,a2⟩:=HX3.o.t;obtain ⟨b0,b1,b2⟩:=HY3.o.t;clear hb3))
   | ((go_at_call 119;(with_reducible refine (HM3.o _ g23 g43).mono ?_);rintro e4 w4 ⟨A8,c8,rfl,h8,hb4⟩;have HX4:=zq (HX3.o.below hb4);have HY4:=zq (HY3.o.below hb4);have HZ4:=zq (HZ3.o.below hb4);have HB4:=zq (zAa HB3.o hb4);have h74:=h7.below hb4;clear a0 a1 a2 b0 b1 b2;obtain ⟨a0,a1,a2⟩:=HX4.o.t;obtain ⟨b0,b1,b2⟩:=HY4.o.t;clear hb4))
   | ((go_at_call 117;(with_reducible refine (HO.o _ _ _ _ _ h74 h8).mono ?_);rintro e5 w5 ⟨A9,c9,AD,cE,rfl,h9,hF,hb5⟩;have HX5:=zq (HX4.o.below hb5);have HY5:=zq (HY4.o.below hb5);have HZ5:=zq (HZ4.o.below hb5);have HB5:=zq (zAa HB4.o hb5);clear a0 a1 a2 b0 b1 b2;obtain ⟨a0,a1,a2⟩:=HX5.o.t;obtain ⟨b0,b1,b2⟩:=HY5.o.t;obtain ⟨r0,r1,r2⟩:=HZ5.o.t;have fr:=HZ5.o.frozen;have rl:=HZ5.o.lt;clear hb5)))
 clear HX HY HZ HB;go_wp2;refine dY (v:=raV false A9 c9 pp AD cE pq) qq rfl ⟨A9,c9,AD,cE,rfl,h9.setR HZ5.o _ _ _,hF.setR HZ5.o _ _ _,?_⟩
 exact ((HB5.o.setCell zg _).setCell zg _).setCell zg _
theorem RAddN_c (A A2 A3 A4:Option Addr) (c c2 c3 c4 n d m e:Nat) (w:World) (h:Nt w A c n) (h2:Nt w A2 c2 d) (h3:Nt w A3 c3 m) (h4:Nt w A4 c4 e)
  (hn:(zAc B32 n).length≤100000000) (hd:(zAc B32 d).length≤100000000) (hm:(zAc B32 m).length≤100000000) (he:(zAc B32 e).length≤100000000) (hd0:0<d) (he0:0<e) (hm0:m≠0) (hle:m*d≤n*e) :
  Calls Tryz.prog 75 #[raV false A c n A2 c2 d,raV true A3 c3 m A4 c4 e] w (zCB false (subP (n,d) (m,e)).1 (subP (n,d) (m,e)).2 w):=by
 by_cases hde:d=e
 ·exact RAddN_same A A2 A3 A4 c c2 c3 c4 n d m e w h h2 h3 h4 hn hd hm he hd0 he0 hm0 hle hde
 ·exact RAddN_diff A A2 A3 A4 c c2 c3 c4 n d m e w h h2 h3 h4 hn hd hm he hd0 he0 hm0 hle hde
end Go.Proofs.YtieoifkdobcpiaaGreatDoor
namespace Go.Proofs.YtieoifkdobcpiaaGreatDoor
open Dw
theorem toQ_num {p:Nat×Nat} (h:Nat.gcd p.1 p.2=1) (h0:0<p.2):p=((toQ p).num.natAbs,(toQ p).den):=by
 have e:toQ p=(⟨(p.1:Int),p.2,za,by simpa [Nat.Coprime] using h⟩:Rat):=Rat.mkRat_self ⟨(p.1:Int),p.2,za,by simpa [Nat.Coprime] using h⟩
 rw [e]
 rfl
theorem lowP_gcd {n d:Nat} (hd:0<d):Nat.gcd (zBY n d).1 (zBY n d).2=1∧0<(zBY n d).2:=by
 have hg:0<Nat.gcd n d:=dZ _ hd;exact ⟨Nat.coprime_div_gcd_div_gcd hg,Nat.div_pos (Nat.le_of_dvd hd (Nat.gcd_dvd_right _ _)) hg⟩
theorem low_q {n d:Nat} {q:Rat} (hd:0<d) (h:mkRat (n:Int) d=q):zBY n d=(q.num.natAbs,q.den):=by
 obtain ⟨h1,h2⟩:=lowP_gcd (n:=n) hd;have:=toQ_num h1 h2;rw [toQ_low hd,h] at this;exact this
theorem abs_num {q:Rat} (h:0≤q):((q.num.natAbs:Nat):Int)=q.num:=by
 have:=Rat.num_nonneg.2 h;omega
theorem as_q {q:Rat} (h:0≤q):q=mkRat ((q.num.natAbs:Nat):Int) q.den:=by
 rw [abs_num h];exact (Rat.mkRat_self q).symm
abbrev prQ (q:Rat):Nat×Nat:=(q.num.natAbs,q.den)
theorem zEg (q:Rat):0<q.den:=eH q.den_nz
theorem addP_q {a b:Rat} (ha:0≤a) (hb:0≤b):addP (prQ a) (prQ b)=prQ (a+b):=by
 unfold addP;refine low_q (dN (zEg a) (zEg b)) ?_
 conv=>rhs;rw [as_q ha,as_q hb]
 rw [Rat.mkRat_add_mkRat _ _ a.den_nz b.den_nz];simp
theorem le_q {a b:Rat} (hb:0≤b) (h:b≤a):b.num.natAbs*a.den≤a.num.natAbs*b.den:=by
 have h1:=(Rat.le_iff b a).1 h;have ha:0≤a:=Rat.le_trans hb h;rw [←abs_num ha,←abs_num hb] at h1
 exact_mod_cast h1
theorem subP_q {a b:Rat} (hb:0≤b) (h:b≤a):subP (prQ a) (prQ b)=prQ (a - b):=by
 unfold subP;refine low_q (dN (zEg a) (zEg b)) ?_
 have hle:=le_q hb h;have ha:0≤a:=Rat.le_trans hb h
 have key:mkRat (((a.num.natAbs*b.den - b.num.natAbs*a.den:Nat)):Int) (a.den*b.den)+b=a:=by
  conv=>lhs;arg 2;rw [as_q hb]
  conv=>rhs;rw [as_q ha]
  rw [Rat.mkRat_add_mkRat _ _ (fA a.den_nz b.den_nz) b.den_nz,Rat.mkRat_eq_iff (fA (fA a.den_nz b.den_nz) b.den_nz) a.den_nz,Int.ofNat_sub hle]
  push_cast
  grind
 show mkRat (((a.num.natAbs*b.den - b.num.natAbs*a.den:Nat)):Int) (a.den*b.den)=a - b
 grind
def mulP (p q:Nat×Nat):Nat×Nat:=zBY (p.1*q.1) (p.2*q.2)
theorem mulP_q {a b:Rat} (ha:0≤a) (hb:0≤b):mulP (prQ a) (prQ b)=prQ (a*b):=by
 unfold mulP;refine low_q (dN (zEg a) (zEg b)) ?_
 conv=>rhs;rw [as_q ha,as_q hb]
 rw [Rat.mkRat_mul_mkRat];simp
def SzN (k n:Nat):Prop:=(zAc B32 n).length≤k∧(zAc BT n).length≤k
theorem len_pow {B:Nat} (hB:10≤B) {n k:Nat} (h:n<10 ^ k):(zAc B n).length≤k:=by
 have hB1:1<B:=za
 rcases bR (zAc B n).length with h0 | h0
 ·omega
 ·have:=zEq (B:=B) h0 (zCn hB1 h0)
  rw [zAl hB1] at this;refine Nat.le_of_not_lt fun hk=>?_
  have h2:10 ^ k≤B ^ ((zAc B n).length - 1):=dI (dU hB k) (bY za za);omega
theorem szN_of {n k:Nat} (h:n<10 ^ k):SzN k n:=⟨len_pow zd h,len_pow zd h⟩
theorem SzN.le {n k m:Nat} (h:SzN k n) (hk:k≤m):SzN m n:=⟨dI h.1 hk,dI h.2 hk⟩
def SzQ (k:Nat) (q:Rat):Prop:=SzN k q.num.natAbs∧SzN k q.den
theorem SzQ.le {q:Rat} {k m:Nat} (h:SzQ k q) (hk:k≤m):SzQ m q:=⟨h.1.le hk,h.2.le hk⟩
theorem szQ_of {q:Rat} {M k:Nat} (h:q.num.natAbs≤M∧q.den≤M) (hM:M<10 ^ k):SzQ k q:=⟨szN_of za,szN_of za⟩
theorem ratF_gcd {nu de:BA} (h:zDq nu de=0):Nat.gcd (zAz (zAY nu)) (zAz de)=1:=by
 unfold zDq at h
 split at h
 ·cases h
 split at h
 ·cases h
 split at h
 ·next h1=>exact h1
 ·cases h
theorem ratF_prQ {nu de:BA} (h:zDq nu de=0):(zAz (zAY nu),zAz de)=prQ (zCX nu de):=by
 obtain ⟨_,h2,h3,_,_⟩:=zCe h;exact toQ_num (ratF_gcd h) (den_pos h2 h3)
open Go.RowKit Dw
theorem times_c (A A2 A3 A4:Option Addr) (c c2 c3 c4 n d m e:Nat) (w:World) (h:Lt w A c n) (h2:Lt w A2 c2 d) (h3:Lt w A3 c3 m) (h4:Lt w A4 c4 e)
  (hn:(zAc BT n).length≤50000000) (hd:(zAc BT d).length≤50000000) (hm:(zAc BT m).length≤50000000) (he:(zAc BT e).length≤50000000) (hd0:0<d) (he0:0<e) :
  Calls Tryz.prog 101 #[nuV false A c n A2 c2 d,nuV false A3 c3 m A4 c4 e] w (zCw false (mulP (n,d) (m,e)).1 (mulP (n,d) (m,e)).2 w):=by
 have hl1:(zAc BT (n*m)).length≤100000000:=dI (zDM n m) za;have hl3:(zAc BT (d*e)).length≤100000000:=dI (zDM d e) za;have hr0:0<d*e:=dN hd0 he0;have HM1:=zq (fun W (x:Lt W A c n) (y:Lt W A3 c3 m)=>timesL_c A A3 c c3 n m W x.rd y.rd za za)
 have HM3:=zq (fun W (x:Lt W A2 c2 d) (y:Lt W A4 c4 e)=>timesL_c A2 A4 c2 c4 d e W x.rd y.rd za za)
 have HW:=zq (fun A5 c5 A6 c6 W (x:Lt W A5 c5 (n*m)) (y:Lt W A6 c6 (d*e))=>lowest_c false A5 A6 c5 c6 (n*m) (d*e) W x y hr0 za za)
 simp only [eB] at HW;have hap:mulP (n,d) (m,e)=zBY (n*m) (d*e):=rfl;rw [hap];clear hap hl1 hl3 hr0;generalize (zBY (n*m) (d*e)).1=pp at *;generalize (zBY (n*m) (d*e)).2=pq at *;generalize n*m=p1 at *;generalize d*e=p3 at *;have HX0:Hid (Bx (((w.alloc (.cells (nuC false A c n A2 c2 d) 45)).alloc (.cells (nuC false A3 c3 m A4 c4 e) 45)).alloc (.cells zBE 45)) w.heap.size (nuC false A c n A2 c2 d) 45):=((Bx.new _ _ _).alloc _).alloc _;have HY0:Hid (Bx (((w.alloc (.cells (nuC false A c n A2 c2 d) 45)).alloc (.cells (nuC false A3 c3 m A4 c4 e) 45)).alloc (.cells zBE 45)) (w.heap.size+1) (nuC false A3 c3 m A4 c4 e) 45):=(Bx.new1 _ _ _ _).alloc _;have HZ0:Hid (Bx (((w.alloc (.cells (nuC false A c n A2 c2 d) 45)).alloc (.cells (nuC false A3 c3 m A4 c4 e) 45)).alloc (.cells zBE 45)) (w.heap.size+1+1) zBE 45):=Bx.new2 _ _ _ _ _;have HB0:Hid (Below w.heap.size w (((w.alloc (.cells (nuC false A c n A2 c2 d) 45)).alloc (.cells (nuC false A3 c3 m A4 c4 e) 45)).alloc (.cells zBE 45))):=(((aS w.heap.size w).alloc (aB _) _).alloc ze _).alloc zg _;obtain ⟨W,hW⟩:∃ W,W=(((w.alloc (.cells (nuC false A c n A2 c2 d) 45)).alloc (.cells (nuC false A3 c3 m A4 c4 e) 45)).alloc (.cells zBE 45)):=⟨_,rfl⟩;rw [←hW] at HX0 HY0 HZ0 HB0;have g1:=zq (h.below HB0.o);have g2:=zq (h2.below HB0.o);have g3:=zq (h3.below HB0.o);have g4:=zq (h4.below HB0.o);clear h h2 h3 h4 hn hd hm he hd0 he0
 go_enter Tryz.func101,Tryz.ntmps101
 go_upto_region 1 with fail
 rw [←hW];clear hW;obtain ⟨a0,a1,a2⟩:=HX0.o.t;obtain ⟨b0,b1,b2⟩:=HY0.o.t
 go_region_held3 (fun w'=>(w'.cell? ⟨w.heap.size,0,none⟩=some (.bool false)∧w'.cell? ⟨w.heap.size,1,none⟩=some (.slice A (zAc BT n).length c)∧w'.cell? ⟨w.heap.size,2,none⟩=some (.slice A2 (zAc BT d).length c2))∧(w'.cell? ⟨w.heap.size+1,0,none⟩=some (.bool false)∧w'.cell? ⟨w.heap.size+1,1,none⟩=some (.slice A3 (zAc BT m).length c3)∧w'.cell? ⟨w.heap.size+1,2,none⟩=some (.slice A4 (zAc BT e).length c4)))
  ((refine ⟨⟨?_,?_,?_⟩,?_,?_,?_⟩<;>first | with_reducible assumption | go_simp))
  (first
   | ((go_at_call 43;(with_reducible refine (HM1.o W.drew (g1.out.drew) (g3.out.drew)).mono ?_);rintro x w1 ⟨A5,c5,rfl,h5,hb⟩;have HB1:=zq ((zAd HB0.o 1).trans (hb.mono HB0.o.size));have HX1:=zq ((HX0.o.drew).below hb);have HY1:=zq ((HY0.o.drew).below hb);have HZ1:=zq ((HZ0.o.drew).below hb);have g21:=zq ((g2.out.drew).below hb);have g41:=zq ((g4.out.drew).below hb);have H5:=zq h5;clear h5 hb;clear a0 a1 a2 b0 b1 b2;obtain ⟨a0,a1,a2⟩:=HX1.o.t;obtain ⟨b0,b1,b2⟩:=HY1.o.t))
   | ((go_at_call 43;(with_reducible refine (HM3.o w1 g21.out g41.out).mono ?_);rintro x w2 ⟨A6,c6,rfl,h6,hb⟩;have HB2:=zq (zAa HB1.o hb);have HX2:=zq (HX1.o.below hb);have HY2:=zq (HY1.o.below hb);have HZ2:=zq (HZ1.o.below hb);have H52:=zq (H5.o.below hb);have H6:=zq h6;clear h6 hb;clear a0 a1 a2 b0 b1 b2;obtain ⟨a0,a1,a2⟩:=HX2.o.t;obtain ⟨b0,b1,b2⟩:=HY2.o.t))
   | ((go_at_call 37;(with_reducible refine (HW.o _ _ _ _ w2 H52.o H6.o).mono ?_);rintro x w6 ⟨A9,c9,A10,c10,rfl,h9,h10,hb⟩;have HB6:=zq (zAa HB2.o hb);have HX6:=zq (HX2.o.below hb);have HY6:=zq (HY2.o.below hb);have HZ6:=zq (HZ2.o.below hb);have H9:=zq h9;have H10:=zq h10;clear h9 h10 hb;clear a0 a1 a2 b0 b1 b2;obtain ⟨a0,a1,a2⟩:=HX6.o.t;obtain ⟨b0,b1,b2⟩:=HY6.o.t;obtain ⟨r0,r1,r2⟩:=HZ6.o.t;have rf:=HZ6.o.frozen;have rs:=HZ6.o.lt;have rn:¬ (w.heap.size=w.heap.size+1+1):=za;have rm:¬ (w.heap.size+1=w.heap.size+1+1):=za)))
 go_wp2;refine dY (v:=nuV false A9 c9 pp A10 c10 pq) (by simp [results,Tryz.results101,go_sem,r0,r1,r2]) rfl ⟨A9,c9,A10,c10,rfl,H9.o.setR HZ6.o _ _ _ _ _,H10.o.setR HZ6.o _ _ _ _ _,zBo HB6.o za _ _ _⟩
theorem Long_c (A A2:Option Addr) (c c2 n d most:Nat) (w:World) (h:Lt w A c n) (h2:Lt w A2 c2 d) (hn:(zAc BT n).length≤100000000) (hd:(zAc BT d).length≤100000000) (hP:POK w) :
  Calls Tryz.prog 102 #[nuV false A c n A2 c2 d,.int .i64 (most:Int)] w (zAe (.bool (decide (most<(zDx n).size) || decide (most<(zDx d).size))) w):=by
 have HX:Hid (Bx (w.alloc (.cells (nuC false A c n A2 c2 d) 45)) w.heap.size (nuC false A c n A2 c2 d) 45):=Bx.new _ _ _;have HB:Hid (Below w.heap.size w (w.alloc (.cells (nuC false A c n A2 c2 d) 45))):=(aS _ _).alloc (aB _) _;obtain ⟨W,hW⟩:∃ W,W=w.alloc (.cells (nuC false A c n A2 c2 d) 45):=⟨_,rfl⟩;rw [←hW] at HX HB;have HT1:=zq (digitsL_c A c n W (h.below HB.o) hn (hP.below HB.o));have HT2:Hid (∀ u,Below W.heap.size W u→Calls Tryz.prog 104 #[lmV A2 c2 d] u (zAe (.string (zDx d)) u)):=fun u hu=>digitsL_c A2 c2 d u (h2.below (zAa HB.o hu)) hd (hP.below (zAa HB.o hu))
 generalize zDx n=sn at *;generalize zDx d=sd at *;clear h h2 hn hd hP
 go_enter Tryz.func102,Tryz.ntmps102
 go_upto_region 1 with fail
 rw [←hW];clear hW;have x1:=HX.o.c 1 rfl;have x2:=HX.o.c 2 rfl;have hsx:=HX.o.lt
 go_wp2_with fail
 with_reducible refine HT1.o.mono ?_
 rintro x w1 ⟨rfl,hb1⟩;have HB1:=zq (zAa HB.o hb1);have HX1:=zq (HX.o.below hb1);have HT3:=zq (HT2.o w1 hb1);clear x1 x2 hsx HX HB HT1 hb1 HT2;have x2:=HX1.o.c 2 rfl;have hsx:=HX1.o.lt
 by_cases hl:most<sn.size
 ·have e1:decide (most<sn.size)=true:=cW hl
  go_wp2;go_ret
  exact zAe.mk (by rw [cW hl];rfl) HB1.o
 ·have e1:decide (most<sn.size)=false:=cX hl
  go_wp2_with fail
  with_reducible refine HT3.o.mono ?_
  rintro x w2 ⟨rfl,hb2⟩;have HB2:=zq (zAa HB1.o hb2);clear hb2 x2 hsx;go_wp2;go_ret
  exact zAe.mk (by rw [cX hl,eR];rfl) HB2.o
end Go.Proofs.YtieoifkdobcpiaaGreatDoor
