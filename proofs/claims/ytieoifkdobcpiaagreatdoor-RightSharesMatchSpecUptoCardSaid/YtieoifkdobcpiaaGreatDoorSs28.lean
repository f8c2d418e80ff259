/- The reference's product; what is too long; a number as a ratio. -/
import Derived.Test.YtieoifkdobcpiaaGreatDoorSs27
set_option maxRecDepth 100000
set_option maxHeartbeats 8000000
namespace Go.Proofs.YtieoifkdobcpiaaGreatDoor
open Go.RowKit Dw
theorem times_c (A A2 A3 A4:Option Addr) (c c2 c3 c4 n d m e:Nat) (w:World) (h:Lt w A c n) (h2:Lt w A2 c2 d) (h3:Lt w A3 c3 m) (h4:Lt w A4 c4 e)
  (hn:(zAc BT n).length≤50000000) (hd:(zAc BT d).length≤50000000) (hm:(zAc BT m).length≤50000000) (he:(zAc BT e).length≤50000000) (hd0:0<d) (he0:0<e) :
  Calls Tryz.prog 101 #[nuV false A c n A2 c2 d,nuV false A3 c3 m A4 c4 e] w (zCu false (mulP (n,d) (m,e)).1 (mulP (n,d) (m,e)).2 w):=by
 have hl1:(zAc BT (n*m)).length≤100000000:=Nat.le_trans (zDC n m) za;have hl3:(zAc BT (d*e)).length≤100000000:=Nat.le_trans (zDC d e) za;have hr0:0<d*e:=Nat.mul_pos hd0 he0;have HM1:=zq (fun W (x:Lt W A c n) (y:Lt W A3 c3 m)=>timesL_c A A3 c c3 n m W x.rd y.rd za za)
 have HM3:=zq (fun W (x:Lt W A2 c2 d) (y:Lt W A4 c4 e)=>timesL_c A2 A4 c2 c4 d e W x.rd y.rd za za)
 have HW:=zq (fun A5 c5 A6 c6 W (x:Lt W A5 c5 (n*m)) (y:Lt W A6 c6 (d*e))=>lowest_c false A5 A6 c5 c6 (n*m) (d*e) W x y hr0 za za)
 simp only [Bool.false_and] at HW;have hap:mulP (n,d) (m,e)=zBV (n*m) (d*e):=rfl;rw [hap];clear hap hl1 hl3 hr0;generalize (zBV (n*m) (d*e)).1=pp at *;generalize (zBV (n*m) (d*e)).2=pq at *;generalize n*m=p1 at *;generalize d*e=p3 at *;have HX0:Hid (Bx (((w.alloc (.cells (nuC false A c n A2 c2 d) 45)).alloc (.cells (nuC false A3 c3 m A4 c4 e) 45)).alloc (.cells zBE 45)) w.heap.size (nuC false A c n A2 c2 d) 45):=((Bx.new _ _ _).alloc _).alloc _;have HY0:Hid (Bx (((w.alloc (.cells (nuC false A c n A2 c2 d) 45)).alloc (.cells (nuC false A3 c3 m A4 c4 e) 45)).alloc (.cells zBE 45)) (w.heap.size+1) (nuC false A3 c3 m A4 c4 e) 45):=(Bx.new1 _ _ _ _).alloc _;have HZ0:Hid (Bx (((w.alloc (.cells (nuC false A c n A2 c2 d) 45)).alloc (.cells (nuC false A3 c3 m A4 c4 e) 45)).alloc (.cells zBE 45)) (w.heap.size+1+1) zBE 45):=Bx.new2 _ _ _ _ _;have HB0:Hid (Below w.heap.size w (((w.alloc (.cells (nuC false A c n A2 c2 d) 45)).alloc (.cells (nuC false A3 c3 m A4 c4 e) 45)).alloc (.cells zBE 45))):=(((Below.refl w.heap.size w).alloc (Nat.le_refl _) _).alloc ze _).alloc zg _;obtain ⟨W,hW⟩:∃ W,W=(((w.alloc (.cells (nuC false A c n A2 c2 d) 45)).alloc (.cells (nuC false A3 c3 m A4 c4 e) 45)).alloc (.cells zBE 45)):=⟨_,rfl⟩;rw [←hW] at HX0 HY0 HZ0 HB0;have g1:=zq (h.below HB0.o);have g2:=zq (h2.below HB0.o);have g3:=zq (h3.below HB0.o);have g4:=zq (h4.below HB0.o);clear h h2 h3 h4 hn hd hm he hd0 he0
 go_enter Tryz.func101,Tryz.ntmps101
 go_upto_region 1 with fail
 rw [←hW];clear hW;have a0:=HX0.o.cell (i:=0) rfl;have a1:=HX0.o.cell (i:=1) rfl;have a2:=HX0.o.cell (i:=2) rfl;have b0:=HY0.o.cell (i:=0) rfl;have b1:=HY0.o.cell (i:=1) rfl;have b2:=HY0.o.cell (i:=2) rfl
 go_region_held3 (fun w'=>(w'.cell? ⟨w.heap.size,0,none⟩=some (.bool false)∧w'.cell? ⟨w.heap.size,1,none⟩=some (.slice A (zAc BT n).length c)∧w'.cell? ⟨w.heap.size,2,none⟩=some (.slice A2 (zAc BT d).length c2))∧(w'.cell? ⟨w.heap.size+1,0,none⟩=some (.bool false)∧w'.cell? ⟨w.heap.size+1,1,none⟩=some (.slice A3 (zAc BT m).length c3)∧w'.cell? ⟨w.heap.size+1,2,none⟩=some (.slice A4 (zAc BT e).length c4)))
  ((refine ⟨⟨?_,?_,?_⟩,?_,?_,?_⟩<;>first | with_reducible assumption | go_simp))
  (first
   | ((go_at_call 43;(with_reducible refine (HM1.o W.drew (g1.out.drew) (g3.out.drew)).mono ?_);rintro x w1 ⟨A5,c5,rfl,h5,hb⟩;have HB1:=zq ((zAd HB0.o 1).trans (hb.mono HB0.o.size));have HX1:=zq ((HX0.o.drew).below hb);have HY1:=zq ((HY0.o.drew).below hb);have HZ1:=zq ((HZ0.o.drew).below hb);have g21:=zq ((g2.out.drew).below hb);have g41:=zq ((g4.out.drew).below hb);have H5:=zq h5;clear h5 hb;clear a0 a1 a2 b0 b1 b2;have a0:=HX1.o.cell (i:=0) rfl;have a1:=HX1.o.cell (i:=1) rfl;have a2:=HX1.o.cell (i:=2) rfl;have b0:=HY1.o.cell (i:=0) rfl;have b1:=HY1.o.cell (i:=1) rfl;have b2:=HY1.o.cell (i:=2) rfl))
   | ((go_at_call 43;(with_reducible refine (HM3.o w1 g21.out g41.out).mono ?_);rintro x w2 ⟨A6,c6,rfl,h6,hb⟩;have HB2:=zq (zAa HB1.o hb);have HX2:=zq (HX1.o.below hb);have HY2:=zq (HY1.o.below hb);have HZ2:=zq (HZ1.o.below hb);have H52:=zq (H5.o.below hb);have H6:=zq h6;clear h6 hb;clear a0 a1 a2 b0 b1 b2;have a0:=HX2.o.cell (i:=0) rfl;have a1:=HX2.o.cell (i:=1) rfl;have a2:=HX2.o.cell (i:=2) rfl;have b0:=HY2.o.cell (i:=0) rfl;have b1:=HY2.o.cell (i:=1) rfl;have b2:=HY2.o.cell (i:=2) rfl))
   | ((go_at_call 37;(with_reducible refine (HW.o _ _ _ _ w2 H52.o H6.o).mono ?_);rintro x w6 ⟨A9,c9,A10,c10,rfl,h9,h10,hb⟩;have HB6:=zq (zAa HB2.o hb);have HX6:=zq (HX2.o.below hb);have HY6:=zq (HY2.o.below hb);have HZ6:=zq (HZ2.o.below hb);have H9:=zq h9;have H10:=zq h10;clear h9 h10 hb;clear a0 a1 a2 b0 b1 b2;have a0:=HX6.o.cell (i:=0) rfl;have a1:=HX6.o.cell (i:=1) rfl;have a2:=HX6.o.cell (i:=2) rfl;have b0:=HY6.o.cell (i:=0) rfl;have b1:=HY6.o.cell (i:=1) rfl;have b2:=HY6.o.cell (i:=2) rfl;have r0:=HZ6.o.cell (i:=0) rfl;have r1:=HZ6.o.cell (i:=1) rfl;have r2:=HZ6.o.cell (i:=2) rfl;have rf:=HZ6.o.frozen;have rs:=HZ6.o.lt;have rn:¬ (w.heap.size=w.heap.size+1+1):=za;have rm:¬ (w.heap.size+1=w.heap.size+1+1):=za)))
 go_wp2;refine bodyPost_ret (v:=nuV false A9 c9 pp A10 c10 pq) (by simp [results,Tryz.results101,go_sem,r0,r1,r2]) rfl ⟨A9,c9,A10,c10,rfl,H9.o.setR HZ6.o _ _ _ _ _,H10.o.setR HZ6.o _ _ _ _ _,zBs HB6.o za _ _ _⟩
theorem Long_c (A A2:Option Addr) (c c2 n d most:Nat) (w:World) (h:Lt w A c n) (h2:Lt w A2 c2 d) (hn:(zAc BT n).length≤100000000) (hd:(zAc BT d).length≤100000000) (hP:POK w) :
  Calls Tryz.prog 102 #[nuV false A c n A2 c2 d,.int .i64 (most:Int)] w (zAe (.bool (decide (most<(zCm n).size) || decide (most<(zCm d).size))) w):=by
 have HX:Hid (Bx (w.alloc (.cells (nuC false A c n A2 c2 d) 45)) w.heap.size (nuC false A c n A2 c2 d) 45):=Bx.new _ _ _;have HB:Hid (Below w.heap.size w (w.alloc (.cells (nuC false A c n A2 c2 d) 45))):=(Below.refl _ _).alloc (Nat.le_refl _) _;obtain ⟨W,hW⟩:∃ W,W=w.alloc (.cells (nuC false A c n A2 c2 d) 45):=⟨_,rfl⟩;rw [←hW] at HX HB;have HT1:=zq (digitsL_c A c n W (h.below HB.o) hn (hP.below HB.o));have HT2:Hid (∀ u,Below W.heap.size W u→Calls Tryz.prog 104 #[lmV A2 c2 d] u (zAe (.string (zCm d)) u)):=fun u hu=>digitsL_c A2 c2 d u (h2.below (zAa HB.o hu)) hd (hP.below (zAa HB.o hu))
 generalize zCm n=sn at *;generalize zCm d=sd at *;clear h h2 hn hd hP
 go_enter Tryz.func102,Tryz.ntmps102
 go_upto_region 1 with fail
 rw [←hW];clear hW;have x1:=HX.o.cell (i:=1) rfl;have x2:=HX.o.cell (i:=2) rfl;have hsx:=HX.o.lt
 go_wp2_with fail
 with_reducible refine HT1.o.mono ?_
 rintro x w1 ⟨rfl,hb1⟩;have HB1:=zq (zAa HB.o hb1);have HX1:=zq (HX.o.below hb1);have HT3:=zq (HT2.o w1 hb1);clear x1 x2 hsx HX HB HT1 hb1 HT2;have x2:=HX1.o.cell (i:=2) rfl;have hsx:=HX1.o.lt
 by_cases hl:most<sn.size
 ·have e1:decide (most<sn.size)=true:=decide_eq_true hl
  go_wp2;go_ret
  exact zAe.mk (by rw [decide_eq_true hl];rfl) HB1.o
 ·have e1:decide (most<sn.size)=false:=decide_eq_false hl
  go_wp2_with fail
  with_reducible refine HT3.o.mono ?_
  rintro x w2 ⟨rfl,hb2⟩;have HB2:=zq (zAa HB1.o hb2);clear hb2 x2 hsx;go_wp2;go_ret
  exact zAe.mk (by rw [decide_eq_false hl,Bool.false_or];rfl) HB2.o
theorem OutT_c (A A2:Option Addr) (c c2 n d:Nat) (w:World) (h:Lt w A c n) (h2:Lt w A2 c2 d) (hn:(zAc BT n).length≤100000000) (hd:(zAc BT d).length≤100000000) (hP:POK w) :
  Calls Tryz.prog 56 #[nuV false A c n A2 c2 d] w (zAe (.agg #[.string (zCm n),.string (zCm d)]) w):=by
 have hbw:Below w.heap.size w ((w.alloc (.cells (nuC false A c n A2 c2 d) 45)).alloc (.cells #[.string ⟨#[]⟩,.string ⟨#[]⟩] 40)):=((Below.refl _ _).alloc (Nat.le_refl _) _).alloc ze _;have HX:Hid (Bx ((w.alloc (.cells (nuC false A c n A2 c2 d) 45)).alloc (.cells #[.string ⟨#[]⟩,.string ⟨#[]⟩] 40)) w.heap.size (nuC false A c n A2 c2 d) 45):=(Bx.new _ _ _).alloc _;have HZ:Hid (Bx ((w.alloc (.cells (nuC false A c n A2 c2 d) 45)).alloc (.cells #[.string ⟨#[]⟩,.string ⟨#[]⟩] 40)) (w.heap.size+1) #[.string ⟨#[]⟩,.string ⟨#[]⟩] 40):=Bx.new1 _ _ _ _;obtain ⟨W,hW⟩:∃ W,W=(w.alloc (.cells (nuC false A c n A2 c2 d) 45)).alloc (.cells #[.string ⟨#[]⟩,.string ⟨#[]⟩] 40):=⟨_,rfl⟩;rw [←hW] at HX HZ hbw;have HB:=zq hbw;have HT1:=zq (digitsL_c A c n W (h.below HB.o) hn (hP.below HB.o));have HT2:Hid (∀ u,Below W.heap.size W u→Calls Tryz.prog 104 #[lmV A2 c2 d] u (zAe (.string (zCm d)) u)):=fun u hu=>digitsL_c A2 c2 d u (h2.below (zAa HB.o hu)) hd (hP.below (zAa HB.o hu))
 generalize zCm n=sn at *;generalize zCm d=sd at *;clear h h2 hn hd hP hbw
 go_enter Tryz.func56,Tryz.ntmps56
 go_upto_region 1 with fail
 rw [←hW];clear hW;have x1:=HX.o.cell (i:=1) rfl;have hsx:=HX.o.lt
 go_wp2_with fail
 with_reducible refine HT1.o.mono ?_
 rintro x w1 ⟨rfl,hb1⟩;have HB1:=zq (zAa HB.o hb1);have HX1:=zq (HX.o.below hb1);have HZ1:=zq (HZ.o.below hb1);have HT3:=zq (HT2.o w1 hb1);clear x1 hsx HX HZ HB HT1 hb1 HT2;have x0:=HX1.o.cell (i:=0) rfl;have x2:=HX1.o.cell (i:=2) rfl;have hsx:=HX1.o.lt
 go_wp2_with fail
 with_reducible refine HT3.o.mono ?_
 rintro x w2 ⟨rfl,hb2⟩;have HB2:=zq (zAa HB1.o hb2);have HZ2:=zq (HZ1.o.below hb2);clear hb2 x0 x2 hsx;have r0:=HZ2.o.cell (i:=0) rfl;have r1:=HZ2.o.cell (i:=1) rfl;have rf:=HZ2.o.frozen;have rs:=HZ2.o.lt;go_wp2;refine bodyPost_ret (v:=.agg #[.string sn,.string sd]) (by simp [results,Tryz.results56,go_sem,r0,r1]) rfl ⟨rfl,?_⟩
 exact (HB2.o.setCell ze _).setCell ze _
end Go.Proofs.YtieoifkdobcpiaaGreatDoor
