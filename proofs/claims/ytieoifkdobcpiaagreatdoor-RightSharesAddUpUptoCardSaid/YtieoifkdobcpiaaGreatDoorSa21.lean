/- Parts of the proof, joined: The reference's numbers: Plus, Compare (printed by gen_rnj.py). The re. -/
import Derived.Test.YtieoifkdobcpiaaGreatDoorSa20
set_option maxRecDepth 100000
set_option maxHeartbeats 8000000
namespace Go.Proofs.YtieoifkdobcpiaaGreatDoor
open Go.RowKit Dw
theorem len_mulT (a b:Nat):(zAc BT (a*b)).length≤(zAc BT a).length+(zAc BT b).length:=by
 refine zAY zAV ?_
 rw [Nat.pow_add];have h1:=zBe zAV a;have h2:=zBe zAV b;exact Nat.lt_of_le_of_lt (Nat.mul_le_mul_left a (Nat.le_of_lt h2)) (Nat.mul_lt_mul_of_pos_right h1 (Nat.pow_pos BT_pos))
theorem len_addT (a b:Nat):(zAc BT (a+b)).length≤max (zAc BT a).length (zAc BT b).length+1:=by
 refine zAY zAV ?_
 have h1:=zBe zAV a;have h2:=zBe zAV b;have h3:BT ^ (zAc BT a).length≤BT ^ max (zAc BT a).length (zAc BT b).length:=Nat.pow_le_pow_right BT_pos (Nat.le_max_left _ _);have h4:BT ^ (zAc BT b).length≤BT ^ max (zAc BT a).length (zAc BT b).length:=Nat.pow_le_pow_right BT_pos (Nat.le_max_right _ _);rw [Nat.pow_succ];have h5:=Nat.mul_le_mul_left (BT ^ max (zAc BT a).length (zAc BT b).length) (show 2≤BT by decide)
 omega
def plusN (ng:Bool) (n d:Nat) (ng2:Bool) (m e:Nat):Bool×Nat×Nat :=
 if ng=ng2 then (ng&&decide (n*e+m*d≠0),zBS (n*e+m*d) (d*e))
 else if m*d≤n*e then (ng&&decide (n*e - m*d≠0),zBS (n*e - m*d) (d*e))
 else (ng2&&decide (m*d - n*e≠0),zBS (m*d - n*e) (d*e))
theorem cmpN_ge {a b:Nat} (h:b≤a):decide (0≤zCM a b)=true:=by
 rcases Nat.lt_or_ge b a with h1 | h1
 ·rw [zBu h1];rfl
 ·rw [zCq za];rfl
theorem cmpN_nge {a b:Nat} (h:¬ b≤a):decide (0≤zCM a b)=false:=by rw [zBw za];rfl
theorem plus_c (ng ng2:Bool) (A A2 A3 A4:Option Addr) (c c2 c3 c4 n d m e:Nat) (w:World) (h:Lt w A c n) (h2:Lt w A2 c2 d) (h3:Lt w A3 c3 m) (h4:Lt w A4 c4 e)
  (hn:(zAc BT n).length≤50000000) (hd:(zAc BT d).length≤50000000) (hm:(zAc BT m).length≤50000000) (he:(zAc BT e).length≤50000000) (hd0:0<d) (he0:0<e) :
  Calls Tryz.prog 16 #[nuV ng A c n A2 c2 d,nuV ng2 A3 c3 m A4 c4 e] w (zCY (plusN ng n d ng2 m e).1 (plusN ng n d ng2 m e).2.1 (plusN ng n d ng2 m e).2.2 w):=by
 have HM1:=zq (fun W (x:Lt W A c n) (y:Lt W A4 c4 e)=>timesL_c A A4 c c4 n e W x.rd y.rd za za)
 have HM2:=zq (fun W (x:Lt W A3 c3 m) (y:Lt W A2 c2 d)=>timesL_c A3 A2 c3 c2 m d W x.rd y.rd za za)
 have HM3:=zq (fun W (x:Lt W A2 c2 d) (y:Lt W A4 c4 e)=>timesL_c A2 A4 c2 c4 d e W x.rd y.rd za za)
 have hl1:(zAc BT (n*e)).length≤100000000:=Nat.le_trans (len_mulT n e) za;have hl2:(zAc BT (m*d)).length≤100000000:=Nat.le_trans (len_mulT m d) za;have hl3:(zAc BT (d*e)).length≤100000000:=Nat.le_trans (len_mulT d e) za;have hr0:0<d*e:=Nat.mul_pos hd0 he0;have HP:Hid (plusN ng n d ng2 m e=if ng=ng2 then (ng&&decide (n*e+m*d≠0),zBS (n*e+m*d) (d*e)) else if m*d≤n*e then (ng&&decide (n*e - m*d≠0),zBS (n*e - m*d) (d*e)) else (ng2&&decide (m*d - n*e≠0),zBS (m*d - n*e) (d*e))):=rfl
 obtain ⟨res,hres⟩:∃ res,res=plusN ng n d ng2 m e:=⟨_,rfl⟩;rw [←hres] at HP ⊢;clear hres;obtain ⟨p,hp⟩:∃ p,n*e=p:=⟨_,rfl⟩;obtain ⟨q,hq⟩:∃ q,m*d=q:=⟨_,rfl⟩;obtain ⟨r,hr⟩:∃ r,d*e=r:=⟨_,rfl⟩;rw [hp] at HM1 hl1 HP;rw [hq] at HM2 hl2 HP;rw [hr] at HM3 hl3 hr0 HP;clear hp hq hr hn hd hm he hd0 he0;have HX0:Hid (Bx (((w.alloc (.cells (nuC ng A c n A2 c2 d) 45)).alloc (.cells (nuC ng2 A3 c3 m A4 c4 e) 45)).alloc (.cells zCG 45)) w.heap.size (nuC ng A c n A2 c2 d) 45):=((Bx.new _ _ _).alloc _).alloc _;have HY0:Hid (Bx (((w.alloc (.cells (nuC ng A c n A2 c2 d) 45)).alloc (.cells (nuC ng2 A3 c3 m A4 c4 e) 45)).alloc (.cells zCG 45)) (w.heap.size+1) (nuC ng2 A3 c3 m A4 c4 e) 45):=(Bx.new1 _ _ _ _).alloc _;have HZ0:Hid (Bx (((w.alloc (.cells (nuC ng A c n A2 c2 d) 45)).alloc (.cells (nuC ng2 A3 c3 m A4 c4 e) 45)).alloc (.cells zCG 45)) (w.heap.size+1+1) zCG 45):=Bx.new2 _ _ _ _ _;have HB0:Hid (Below w.heap.size w (((w.alloc (.cells (nuC ng A c n A2 c2 d) 45)).alloc (.cells (nuC ng2 A3 c3 m A4 c4 e) 45)).alloc (.cells zCG 45))):=(((Below.refl w.heap.size w).alloc (Nat.le_refl _) _).alloc zd _).alloc ze _;obtain ⟨W,hW⟩:∃ W,W=(((w.alloc (.cells (nuC ng A c n A2 c2 d) 45)).alloc (.cells (nuC ng2 A3 c3 m A4 c4 e) 45)).alloc (.cells zCG 45)):=⟨_,rfl⟩;rw [←hW] at HX0 HY0 HZ0 HB0;have g1:=zq (h.below HB0.o);have g2:=zq (h2.below HB0.o);have g3:=zq (h3.below HB0.o);have g4:=zq (h4.below HB0.o);clear h h2 h3 h4
 go_enter Tryz.func16,Tryz.ntmps16
 go_upto_region 1 with fail
 rw [←hW];clear hW;have a0:=HX0.o.cell (i:=0) rfl;have a1:=HX0.o.cell (i:=1) rfl;have a2:=HX0.o.cell (i:=2) rfl;have b0:=HY0.o.cell (i:=0) rfl;have b1:=HY0.o.cell (i:=1) rfl;have b2:=HY0.o.cell (i:=2) rfl
 go_region_held3 (fun w'=>(w'.cell? ⟨w.heap.size,0,none⟩=some (.bool ng)∧w'.cell? ⟨w.heap.size,1,none⟩=some (.slice A (zAc BT n).length c)∧w'.cell? ⟨w.heap.size,2,none⟩=some (.slice A2 (zAc BT d).length c2))∧(w'.cell? ⟨w.heap.size+1,0,none⟩=some (.bool ng2)∧w'.cell? ⟨w.heap.size+1,1,none⟩=some (.slice A3 (zAc BT m).length c3)∧w'.cell? ⟨w.heap.size+1,2,none⟩=some (.slice A4 (zAc BT e).length c4)))
  ((refine ⟨⟨?_,?_,?_⟩,?_,?_,?_⟩<;>first | with_reducible assumption | go_simp))
  (first
   | ((go_at_call 43;(with_reducible refine (HM1.o W.drew (g1.out.drew) (g4.out.drew)).mono ?_);rintro x w1 ⟨A5,c5,rfl,h5,hb⟩;have HB1:=zq ((zAd HB0.o 1).trans (hb.mono HB0.o.size));have HX1:=zq ((HX0.o.drew).below hb);have HY1:=zq ((HY0.o.drew).below hb);have HZ1:=zq ((HZ0.o.drew).below hb);have g21:=zq ((g2.out.drew).below hb);have g31:=zq ((g3.out.drew).below hb);have g41:=zq ((g4.out.drew).below hb);have H5:=zq h5;clear h5 hb;clear a0 a1 a2 b0 b1 b2;have a0:=HX1.o.cell (i:=0) rfl;have a1:=HX1.o.cell (i:=1) rfl;have a2:=HX1.o.cell (i:=2) rfl;have b0:=HY1.o.cell (i:=0) rfl;have b1:=HY1.o.cell (i:=1) rfl;have b2:=HY1.o.cell (i:=2) rfl))
   | ((go_at_call 43;(with_reducible refine (HM2.o w1 g31.out g21.out).mono ?_);rintro x w2 ⟨A6,c6,rfl,h6,hb⟩;have HB2:=zq (zAb HB1.o hb);have HX2:=zq (HX1.o.below hb);have HY2:=zq (HY1.o.below hb);have HZ2:=zq (HZ1.o.below hb);have g22:=zq (g21.out.below hb);have g42:=zq (g41.out.below hb);have H52:=zq (H5.o.below hb);have H6:=zq h6;clear h6 hb;clear a0 a1 a2 b0 b1 b2;have a0:=HX2.o.cell (i:=0) rfl;have a1:=HX2.o.cell (i:=1) rfl;have a2:=HX2.o.cell (i:=2) rfl;have b0:=HY2.o.cell (i:=0) rfl;have b1:=HY2.o.cell (i:=1) rfl;have b2:=HY2.o.cell (i:=2) rfl))
   | ((go_at_call 43;(with_reducible refine (HM3.o w2 g22.out g42.out).mono ?_);rintro x w3 ⟨A7,c7,rfl,h7,hb⟩;have HB3:=zq (zAb HB2.o hb);have HX3:=zq (HX2.o.below hb);have HY3:=zq (HY2.o.below hb);have HZ3:=zq (HZ2.o.below hb);have H53:=zq (H52.o.below hb);have H63:=zq (H6.o.below hb);have H7:=zq h7;clear h7 hb;clear a0 a1 a2 b0 b1 b2;have a0:=HX3.o.cell (i:=0) rfl;have a1:=HX3.o.cell (i:=1) rfl;have a2:=HX3.o.cell (i:=2) rfl;have b0:=HY3.o.cell (i:=0) rfl;have b1:=HY3.o.cell (i:=1) rfl;have b2:=HY3.o.cell (i:=2) rfl)))
 clear HB0 HB1 HB2 HX0 HX1 HX2 HY0 HY1 HY2 HZ0 HZ1 HZ2 g1 g2 g3 g4 g21 g31 g41 g22 g42 H5 H52 H6 HM1 HM2 HM3
 by_cases hs:ng=ng2
 ·have hsb:(ng == ng2)=true:=by simpa using hs
  have HR:Hid (res=(ng&&decide (p+q≠0),zBS (p+q) r)):=by show _=_;rw [HP.o,if_pos hs]
  have hre:=HR.o;clear hs HP HR;subst hre;have hla:=len_addT p q;have HA:=zq (fun W (x:Lt W A5 c5 p) (y:Lt W A6 c6 q)=>addL_c A5 A6 c5 c6 p q W x.rd y.rd za za)
  have HW:=zq (fun A8 c8 W (x:Lt W A8 c8 (p+q)) (y:Lt W A7 c7 r)=>lowest_c ng A8 A7 c8 c7 (p+q) r W x y hr0 za za)
  clear hla hl1 hl2 hl3 hr0;generalize p+q=pq at *;go_upto_region 3 with fail
  go_region_held3 (fun w'=>(w'.cell? ⟨w.heap.size,0,none⟩=some (.bool ng)∧w'.cell? ⟨w.heap.size,1,none⟩=some (.slice A (zAc BT n).length c)∧w'.cell? ⟨w.heap.size,2,none⟩=some (.slice A2 (zAc BT d).length c2))∧(w'.cell? ⟨w.heap.size+1,0,none⟩=some (.bool ng2)∧w'.cell? ⟨w.heap.size+1,1,none⟩=some (.slice A3 (zAc BT m).length c3)∧w'.cell? ⟨w.heap.size+1,2,none⟩=some (.slice A4 (zAc BT e).length c4)))
   ((refine ⟨⟨?_,?_,?_⟩,?_,?_,?_⟩<;>first | with_reducible assumption | go_simp))
   (first
    | ((go_at_call 44;(with_reducible refine (HA.o w3.drew (H53.o.drew) (H63.o.drew)).mono ?_);rintro x w5 ⟨A8,c8,rfl,h8,hb⟩;have HB5:=zq ((zAd HB3.o 1).trans (hb.mono HB3.o.size));have HX5:=zq ((HX3.o.drew).below hb);have HY5:=zq ((HY3.o.drew).below hb);have HZ5:=zq ((HZ3.o.drew).below hb);have H75:=zq ((H7.o.drew).below hb);have H8:=zq h8;clear h8 hb;clear a0 a1 a2 b0 b1 b2;have a0:=HX5.o.cell (i:=0) rfl;have a1:=HX5.o.cell (i:=1) rfl;have a2:=HX5.o.cell (i:=2) rfl;have b0:=HY5.o.cell (i:=0) rfl;have b1:=HY5.o.cell (i:=1) rfl;have b2:=HY5.o.cell (i:=2) rfl))
    | ((go_at_call 37;(with_reducible refine (HW.o _ _ w5 H8.o H75.o).mono ?_);rintro x w6 ⟨A9,c9,A10,c10,rfl,h9,h10,hb⟩;have HB6:=zq (zAb HB5.o hb);have HX6:=zq (HX5.o.below hb);have HY6:=zq (HY5.o.below hb);have HZ6:=zq (HZ5.o.below hb);have H9:=zq h9;have H10:=zq h10;clear h9 h10 hb;clear a0 a1 a2 b0 b1 b2;have a0:=HX6.o.cell (i:=0) rfl;have a1:=HX6.o.cell (i:=1) rfl;have a2:=HX6.o.cell (i:=2) rfl;have b0:=HY6.o.cell (i:=0) rfl;have b1:=HY6.o.cell (i:=1) rfl;have b2:=HY6.o.cell (i:=2) rfl;have r0:=HZ6.o.cell (i:=0) rfl;have r1:=HZ6.o.cell (i:=1) rfl;have r2:=HZ6.o.cell (i:=2) rfl;have rf:=HZ6.o.frozen;have rs:=HZ6.o.lt;have rn:¬ (w.heap.size=w.heap.size+1+1):=za;have rm:¬ (w.heap.size+1=w.heap.size+1+1):=za)))
  go_wp2;refine bodyPost_ret (v:=nuV (ng&&decide (pq≠0)) A9 c9 (zBS pq r).1 A10 c10 (zBS pq r).2) (by simp [results,Tryz.results16,go_sem,r0,r1,r2]) rfl ⟨A9,c9,A10,c10,rfl,H9.o.setR HZ6.o _ _ _ _ _,H10.o.setR HZ6.o _ _ _ _ _,zBF HB6.o za _ _ _⟩
 ·have hsb:(ng == ng2)=false:=by simpa using hs
  go_upto_region 4 with fail
  go_wp2_with fail
  with_reducible refine (cmpL_c A5 A6 c5 c6 p q w3 H53.o.rd H63.o.rd za).mono ?_
  rintro x w4 ⟨rfl,nd,rfl⟩;have HX4:=zq (HX3.o.drewN nd);have HY4:=zq (HY3.o.drewN nd);have HZ4:=zq (HZ3.o.drewN nd);have HB4:=zq (zAd HB3.o nd);have H54:=zq (H53.o.drewN nd);have H64:=zq (H63.o.drewN nd);have H74:=zq (H7.o.drewN nd);clear HX3 HY3 HZ3 HB3 H53 H63 H7;clear a0 a1 a2 b0 b1 b2;obtain ⟨w4,hw4⟩:∃ w4,w4=w3.drewN nd:=⟨_,rfl⟩;rw [←hw4] at HX4 HY4 HZ4 HB4 H54 H64 H74 ⊢;clear hw4;have a0:=HX4.o.cell (i:=0) rfl;have a1:=HX4.o.cell (i:=1) rfl;have a2:=HX4.o.cell (i:=2) rfl;have b0:=HY4.o.cell (i:=0) rfl;have b1:=HY4.o.cell (i:=1) rfl;have b2:=HY4.o.cell (i:=2) rfl
  by_cases hc:q≤p
  ·have hcb:=cmpN_ge hc
   have HR:Hid (res=(ng&&decide (p - q≠0),zBS (p - q) r)):=by show _=_;rw [HP.o,if_neg hs,if_pos hc]
   have hre:=HR.o;have HA:=zq (fun W (x:Lt W A5 c5 p) (y:Lt W A6 c6 q)=>lessL_c A5 A6 c5 c6 p q W x.rd y.rd za hc)
   have hla:=zAq zAV (Nat.sub_le p q);have HW:=zq (fun A8 c8 W (x:Lt W A8 c8 (p - q)) (y:Lt W A7 c7 r)=>lowest_c ng A8 A7 c8 c7 (p - q) r W x y hr0 za za)
   clear hla hl1 hl2 hl3 hr0 hs HP HR hc;subst hre;generalize p - q=pq at *;go_upto_region 5 with fail
   go_region_held3 (fun w'=>(w'.cell? ⟨w.heap.size,0,none⟩=some (.bool ng)∧w'.cell? ⟨w.heap.size,1,none⟩=some (.slice A (zAc BT n).length c)∧w'.cell? ⟨w.heap.size,2,none⟩=some (.slice A2 (zAc BT d).length c2))∧(w'.cell? ⟨w.heap.size+1,0,none⟩=some (.bool ng2)∧w'.cell? ⟨w.heap.size+1,1,none⟩=some (.slice A3 (zAc BT m).length c3)∧w'.cell? ⟨w.heap.size+1,2,none⟩=some (.slice A4 (zAc BT e).length c4)))
    ((refine ⟨⟨?_,?_,?_⟩,?_,?_,?_⟩<;>first | with_reducible assumption | go_simp))
    (first
     | ((go_at_call 45;(with_reducible refine (HA.o w4.drew (H54.o.drew) (H64.o.drew)).mono ?_);rintro x w5 ⟨A8,c8,rfl,h8,hb⟩;have HB5:=zq ((zAd HB4.o 1).trans (hb.mono HB4.o.size));have HX5:=zq ((HX4.o.drew).below hb);have HY5:=zq ((HY4.o.drew).below hb);have HZ5:=zq ((HZ4.o.drew).below hb);have H75:=zq ((H74.o.drew).below hb);have H8:=zq h8;clear h8 hb;clear a0 a1 a2 b0 b1 b2;have a0:=HX5.o.cell (i:=0) rfl;have a1:=HX5.o.cell (i:=1) rfl;have a2:=HX5.o.cell (i:=2) rfl;have b0:=HY5.o.cell (i:=0) rfl;have b1:=HY5.o.cell (i:=1) rfl;have b2:=HY5.o.cell (i:=2) rfl))
     | ((go_at_call 37;(with_reducible refine (HW.o _ _ w5 H8.o H75.o).mono ?_);rintro x w6 ⟨A9,c9,A10,c10,rfl,h9,h10,hb⟩;have HB6:=zq (zAb HB5.o hb);have HX6:=zq (HX5.o.below hb);have HY6:=zq (HY5.o.below hb);have HZ6:=zq (HZ5.o.below hb);have H9:=zq h9;have H10:=zq h10;clear h9 h10 hb;clear a0 a1 a2 b0 b1 b2;have a0:=HX6.o.cell (i:=0) rfl;have a1:=HX6.o.cell (i:=1) rfl;have a2:=HX6.o.cell (i:=2) rfl;have b0:=HY6.o.cell (i:=0) rfl;have b1:=HY6.o.cell (i:=1) rfl;have b2:=HY6.o.cell (i:=2) rfl;have r0:=HZ6.o.cell (i:=0) rfl;have r1:=HZ6.o.cell (i:=1) rfl;have r2:=HZ6.o.cell (i:=2) rfl;have rf:=HZ6.o.frozen;have rs:=HZ6.o.lt;have rn:¬ (w.heap.size=w.heap.size+1+1):=za;have rm:¬ (w.heap.size+1=w.heap.size+1+1):=za)))
   go_wp2;refine bodyPost_ret (v:=nuV (ng&&decide (pq≠0)) A9 c9 (zBS pq r).1 A10 c10 (zBS pq r).2) (by simp [results,Tryz.results16,go_sem,r0,r1,r2]) rfl ⟨A9,c9,A10,c10,rfl,H9.o.setR HZ6.o _ _ _ _ _,H10.o.setR HZ6.o _ _ _ _ _,zBF HB6.o za _ _ _⟩
  ·have hcb:=cmpN_nge hc
   have HR:Hid (res=(ng2&&decide (q - p≠0),zBS (q - p) r)):=by show _=_;rw [HP.o,if_neg hs,if_neg hc]
   have hre:=HR.o;have HA:=zq (fun W (x:Lt W A6 c6 q) (y:Lt W A5 c5 p)=>lessL_c A6 A5 c6 c5 q p W x.rd y.rd za za)
   have hla:=zAq zAV (Nat.sub_le q p);have HW:=zq (fun A8 c8 W (x:Lt W A8 c8 (q - p)) (y:Lt W A7 c7 r)=>lowest_c ng2 A8 A7 c8 c7 (q - p) r W x y hr0 za za)
   clear hla hl1 hl2 hl3 hr0 hs HP HR hc;subst hre;generalize q - p=pq at *;go_upto_region 6 with fail
   go_region_held3 (fun w'=>(w'.cell? ⟨w.heap.size,0,none⟩=some (.bool ng)∧w'.cell? ⟨w.heap.size,1,none⟩=some (.slice A (zAc BT n).length c)∧w'.cell? ⟨w.heap.size,2,none⟩=some (.slice A2 (zAc BT d).length c2))∧(w'.cell? ⟨w.heap.size+1,0,none⟩=some (.bool ng2)∧w'.cell? ⟨w.heap.size+1,1,none⟩=some (.slice A3 (zAc BT m).length c3)∧w'.cell? ⟨w.heap.size+1,2,none⟩=some (.slice A4 (zAc BT e).length c4)))
    ((refine ⟨⟨?_,?_,?_⟩,?_,?_,?_⟩<;>first | with_reducible assumption | go_simp))
    (first
     | ((go_at_call 45;(with_reducible refine (HA.o w4.drew (H64.o.drew) (H54.o.drew)).mono ?_);rintro x w5 ⟨A8,c8,rfl,h8,hb⟩;have HB5:=zq ((zAd HB4.o 1).trans (hb.mono HB4.o.size));have HX5:=zq ((HX4.o.drew).below hb);have HY5:=zq ((HY4.o.drew).below hb);have HZ5:=zq ((HZ4.o.drew).below hb);have H75:=zq ((H74.o.drew).below hb);have H8:=zq h8;clear h8 hb;clear a0 a1 a2 b0 b1 b2;have a0:=HX5.o.cell (i:=0) rfl;have a1:=HX5.o.cell (i:=1) rfl;have a2:=HX5.o.cell (i:=2) rfl;have b0:=HY5.o.cell (i:=0) rfl;have b1:=HY5.o.cell (i:=1) rfl;have b2:=HY5.o.cell (i:=2) rfl))
     | ((go_at_call 37;(with_reducible refine (HW.o _ _ w5 H8.o H75.o).mono ?_);rintro x w6 ⟨A9,c9,A10,c10,rfl,h9,h10,hb⟩;have HB6:=zq (zAb HB5.o hb);have HX6:=zq (HX5.o.below hb);have HY6:=zq (HY5.o.below hb);have HZ6:=zq (HZ5.o.below hb);have H9:=zq h9;have H10:=zq h10;clear h9 h10 hb;clear a0 a1 a2 b0 b1 b2;have a0:=HX6.o.cell (i:=0) rfl;have a1:=HX6.o.cell (i:=1) rfl;have a2:=HX6.o.cell (i:=2) rfl;have b0:=HY6.o.cell (i:=0) rfl;have b1:=HY6.o.cell (i:=1) rfl;have b2:=HY6.o.cell (i:=2) rfl;have r0:=HZ6.o.cell (i:=0) rfl;have r1:=HZ6.o.cell (i:=1) rfl;have r2:=HZ6.o.cell (i:=2) rfl;have rf:=HZ6.o.frozen;have rs:=HZ6.o.lt;have rn:¬ (w.heap.size=w.heap.size+1+1):=za;have rm:¬ (w.heap.size+1=w.heap.size+1+1):=za)))
   go_wp2;refine bodyPost_ret (v:=nuV (ng2&&decide (pq≠0)) A9 c9 (zBS pq r).1 A10 c10 (zBS pq r).2) (by simp [results,Tryz.results16,go_sem,r0,r1,r2]) rfl ⟨A9,c9,A10,c10,rfl,H9.o.setR HZ6.o _ _ _ _ _,H10.o.setR HZ6.o _ _ _ _ _,zBF HB6.o za _ _ _⟩
theorem lowP_pos {n d:Nat} (hn:0<n):0<(zBS n d).1:=Nat.div_pos (Nat.le_of_dvd hn (Nat.gcd_dvd_left n d)) (Nat.gcd_pos_of_pos_left d hn)
theorem lowP_fst {n d:Nat}:(zBS n d).1=0↔n=0:=by
 constructor
 ·intro h
  rcases Nat.eq_zero_or_pos n with h0 | h0
  ·exact h0
  ·have:=lowP_pos (d:=d) h0;omega
 ·rintro rfl;unfold zBS;exact Nat.zero_div _
theorem plusN_cmp (n d m e:Nat):zCM (n*e) (m*d)=if (plusN false n d (!false&&decide (m≠0)) m e).2.1=0 then 0 else if (plusN false n d (!false&&decide (m≠0)) m e).1=true then -1 else 1:=by
 unfold plusN
 by_cases hm:m=0
 ·subst hm
  have e1:(!false&&decide (0≠0))=false:=rfl;rw [e1,if_pos rfl];simp only [Bool.false_and,Nat.zero_mul,Nat.add_zero,lowP_fst]
  by_cases h0:n*e=0
  ·rw [if_pos h0,zCq h0]
  ·rw [if_neg h0,zBu za];rfl
 ·have e1:(!false&&decide (m≠0))=true:=by simp [hm]
  rw [e1];simp only [Bool.false_eq_true,if_false]
  by_cases hc:m*d≤n*e
  ·rw [if_pos hc]
   simp only [Bool.false_and,lowP_fst]
   by_cases h0:n*e - m*d=0
   ·rw [if_pos h0,zCq za]
   ·rw [if_neg h0,zBu za];rfl
  ·rw [if_neg hc]
   have h0:¬ m*d - n*e=0:=za;simp only [Bool.true_and,lowP_fst];rw [if_neg h0,if_pos (by simp [h0]),zBw za]
def CoRel (w:World) (ng:Bool) (n d:Nat) (v:Value) (wx:World):Prop:=∃ g A c A2 c2,v = .pointer (some ⟨g,0,none⟩)∧Bx wx g (nuC ng A c n A2 c2 d) 45∧Below w.heap.size w wx
theorem co_new {w wx:World} {ng:Bool} {A A2:Option Addr} {c c2 n d:Nat} (h:Below w.heap.size w wx):CoRel w ng n d (.pointer (some ⟨wx.heap.size,0,none⟩)) (wx.alloc (.cells (nuC ng A c n A2 c2 d) 45)):=⟨_,A,c,A2,c2,rfl,Bx.new _ _ _,h.alloc h.size _⟩
theorem co_set {w wx:World} {ng:Bool} {A A2:Option Addr} {c c2 n d g:Nat} (h:Below w.heap.size w wx) (hz:Bx wx g zCG 45) (hg:w.heap.size≤g):CoRel w ng n d (.pointer (some ⟨g,0,none⟩)) (((wx.setCell ⟨g,0,none⟩ (.bool ng)).setCell ⟨g,1,none⟩ (.slice A (zAc BT n).length c)).setCell ⟨g,2,none⟩ (.slice A2 (zAc BT d).length c2)):=by
 have k0:=Bx.set0 hz (.bool ng);have k1:=Bx.set1 k0 (.slice A (zAc BT n).length c);exact ⟨g,A,c,A2,c2,rfl,heap_setCell_same _ g 2 _ _ _ k1,zBF h hg _ _ _⟩
theorem compare_cT (A A2 A3 A4:Option Addr) (c c2 c3 c4 n d m e:Nat) (w:World) (h:Lt w A c n) (h2:Lt w A2 c2 d) (h3:Lt w A3 c3 m) (h4:Lt w A4 c4 e)
  (hn:(zAc BT n).length≤50000000) (hd:(zAc BT d).length≤50000000) (hm:(zAc BT m).length≤50000000) (he:(zAc BT e).length≤50000000) (hd0:0<d) (he0:0<e) :
  Calls Tryz.prog 18 #[nuV false A c n A2 c2 d,nuV false A3 c3 m A4 c4 e] w (zAe (.int .i64 (zCM (n*e) (m*d))) w):=by
 rw [plusN_cmp];have HMI:=zq (fun W=>minus_c false A3 A4 c3 c4 m e W)
 unfold GivesMi at HMI;obtain ⟨mg,hmg⟩:∃ mg,mg=(!false&&decide (m≠0)):=⟨_,rfl⟩;rw [←hmg] at HMI ⊢;clear hmg;have HX0:Hid (Bx ((w.alloc (.cells (nuC false A c n A2 c2 d) 45)).alloc (.cells (nuC false A3 c3 m A4 c4 e) 45)) w.heap.size (nuC false A c n A2 c2 d) 45):=(Bx.new _ _ _).alloc _;have HY0:Hid (Bx ((w.alloc (.cells (nuC false A c n A2 c2 d) 45)).alloc (.cells (nuC false A3 c3 m A4 c4 e) 45)) (w.heap.size+1) (nuC false A3 c3 m A4 c4 e) 45):=Bx.new1 _ _ _ _;have HB0:Hid (Below w.heap.size w ((w.alloc (.cells (nuC false A c n A2 c2 d) 45)).alloc (.cells (nuC false A3 c3 m A4 c4 e) 45))):=((Below.refl w.heap.size w).alloc (Nat.le_refl _) _).alloc zd _;obtain ⟨W,hW⟩:∃ W,W=((w.alloc (.cells (nuC false A c n A2 c2 d) 45)).alloc (.cells (nuC false A3 c3 m A4 c4 e) 45)):=⟨_,rfl⟩;rw [←hW] at HX0 HY0 HB0;have g1:=zq (h.below HB0.o);have g2:=zq (h2.below HB0.o);have g3:=zq (h3.below HB0.o);have g4:=zq (h4.below HB0.o);clear h h2 h3 h4
 go_enter Tryz.func18,Tryz.ntmps18
 go_upto_region 1 with fail
 rw [←hW];clear hW
 go_cut [5] (fun v wx=>CoRel w (plusN false n d mg m e).1 (plusN false n d mg m e).2.1 (plusN false n d mg m e).2.2 v wx)
 case first =>
  have a0:=HX0.o.cell (i:=0) rfl;have a1:=HX0.o.cell (i:=1) rfl;have a2:=HX0.o.cell (i:=2) rfl;have b0:=HY0.o.cell (i:=0) rfl;have b1:=HY0.o.cell (i:=1) rfl;have b2:=HY0.o.cell (i:=2) rfl;have sx:=HX0.o.lt;have sy:=HY0.o.lt
  go_region_held3 (fun w'=>(w'.cell? ⟨w.heap.size,0,none⟩=some (.bool false)∧w'.cell? ⟨w.heap.size,1,none⟩=some (.slice A (zAc BT n).length c)∧w'.cell? ⟨w.heap.size,2,none⟩=some (.slice A2 (zAc BT d).length c2))∧(w'.cell? ⟨w.heap.size+1,0,none⟩=some (.bool false)∧w'.cell? ⟨w.heap.size+1,1,none⟩=some (.slice A3 (zAc BT m).length c3)∧w'.cell? ⟨w.heap.size+1,2,none⟩=some (.slice A4 (zAc BT e).length c4)))
   ((refine ⟨⟨?_,?_,?_⟩,?_,?_,?_⟩<;>first | with_reducible assumption | go_simp))
   (first
    | ((go_at_call 46;(with_reducible refine (HMI.o (W.alloc (.cells zCG 45)).drew).mono ?_);rintro x w1 ⟨rfl,hb⟩;have HX1:=zq (((HX0.o.alloc (.cells zCG 45)).drew).below hb);have HY1:=zq (((HY0.o.alloc (.cells zCG 45)).drew).below hb);have HB1:=zq ((zAd (HB0.o.alloc HB0.o.size (.cells zCG 45)) 1).trans (hb.mono (zAd (HB0.o.alloc HB0.o.size (.cells zCG 45)) 1).size));have k1:=zq (((g1.out.below ((Below.refl _ _).alloc (Nat.le_refl _) (.cells zCG 45))).drew).below hb);have k2:=zq (((g2.out.below ((Below.refl _ _).alloc (Nat.le_refl _) (.cells zCG 45))).drew).below hb);have k3:=zq (((g3.out.below ((Below.refl _ _).alloc (Nat.le_refl _) (.cells zCG 45))).drew).below hb);have k4:=zq (((g4.out.below ((Below.refl _ _).alloc (Nat.le_refl _) (.cells zCG 45))).drew).below hb);have HZ1:=zq ((Bx.new W zCG 45).drew.below hb);have hzg:w.heap.size≤W.heap.size:=HB0.o.size;have sy0:=HY0.o.lt;have q1:¬ (w.heap.size=W.heap.size):=za;have q2:¬ (w.heap.size+1=W.heap.size):=za;have q3:¬ (W.heap.size=w.heap.size):=za;have q4:¬ (W.heap.size=w.heap.size+1):=za;have z0:=HZ1.o.cell (i:=0) rfl;have z1:=HZ1.o.cell (i:=1) rfl;have z2:=HZ1.o.cell (i:=2) rfl;have zf:=HZ1.o.frozen;have zs:=HZ1.o.lt;clear hb;clear a0 a1 a2 b0 b1 b2 sx sy;have a0:=HX1.o.cell (i:=0) rfl;have a1:=HX1.o.cell (i:=1) rfl;have a2:=HX1.o.cell (i:=2) rfl;have b0:=HY1.o.cell (i:=0) rfl;have b1:=HY1.o.cell (i:=1) rfl;have b2:=HY1.o.cell (i:=2) rfl;have sx:=HX1.o.lt;have sy:=HY1.o.lt))
    | ((go_at_call 46;(with_reducible refine (HMI.o W.drew).mono ?_);rintro x w1 ⟨rfl,hb⟩;have HX1:=zq ((HX0.o.drew).below hb);have HY1:=zq ((HY0.o.drew).below hb);have HB1:=zq ((zAd HB0.o 1).trans (hb.mono (zAd HB0.o 1).size));have k1:=zq ((g1.out.drew).below hb);have k2:=zq ((g2.out.drew).below hb);have k3:=zq ((g3.out.drew).below hb);have k4:=zq ((g4.out.drew).below hb);skip;clear hb;clear a0 a1 a2 b0 b1 b2 sx sy;have a0:=HX1.o.cell (i:=0) rfl;have a1:=HX1.o.cell (i:=1) rfl;have a2:=HX1.o.cell (i:=2) rfl;have b0:=HY1.o.cell (i:=0) rfl;have b1:=HY1.o.cell (i:=1) rfl;have b2:=HY1.o.cell (i:=2) rfl;have sx:=HX1.o.lt;have sy:=HY1.o.lt))
    | ((go_at_call 16;(with_reducible refine (plus_c false mg A A2 A3 A4 c c2 c3 c4 n d m e (w1.alloc (.cells zCG 45)) (k1.out.below ((Below.refl _ _).alloc (Nat.le_refl _) (.cells zCG 45))) (k2.out.below ((Below.refl _ _).alloc (Nat.le_refl _) (.cells zCG 45))) (k3.out.below ((Below.refl _ _).alloc (Nat.le_refl _) (.cells zCG 45))) (k4.out.below ((Below.refl _ _).alloc (Nat.le_refl _) (.cells zCG 45))) hn hd hm he hd0 he0).mono ?_);rintro x w2 ⟨A5,c5,A6,c6,rfl,h5,h6,hb⟩;have HX2:=zq ((HX1.o.alloc (.cells zCG 45)).below hb);have HY2:=zq ((HY1.o.alloc (.cells zCG 45)).below hb);have HB2:=zq ((HB1.o.alloc HB1.o.size (.cells zCG 45)).trans (hb.mono (HB1.o.alloc HB1.o.size (.cells zCG 45)).size));have HZ2:=zq ((Bx.new w1 zCG 45).below hb);have hzg:w.heap.size≤w1.heap.size:=HB1.o.size;have sy1:=HY1.o.lt;have q1:¬ (w.heap.size=w1.heap.size):=za;have q2:¬ (w.heap.size+1=w1.heap.size):=za;have q3:¬ (w1.heap.size=w.heap.size):=za;have q4:¬ (w1.heap.size=w.heap.size+1):=za;have z0:=HZ2.o.cell (i:=0) rfl;have z1:=HZ2.o.cell (i:=1) rfl;have z2:=HZ2.o.cell (i:=2) rfl;have zf:=HZ2.o.frozen;have zs:=HZ2.o.lt;clear hb;clear a0 a1 a2 b0 b1 b2 sx sy;have a0:=HX2.o.cell (i:=0) rfl;have a1:=HX2.o.cell (i:=1) rfl;have a2:=HX2.o.cell (i:=2) rfl;have b0:=HY2.o.cell (i:=0) rfl;have b1:=HY2.o.cell (i:=1) rfl;have b2:=HY2.o.cell (i:=2) rfl;have sx:=HX2.o.lt;have sy:=HY2.o.lt))
    | ((go_at_call 16;(with_reducible refine (plus_c false mg A A2 A3 A4 c c2 c3 c4 n d m e w1 k1.out k2.out k3.out k4.out hn hd hm he hd0 he0).mono ?_);rintro x w2 ⟨A5,c5,A6,c6,rfl,h5,h6,hb⟩;have HX2:=zq (HX1.o.below hb);have HY2:=zq (HY1.o.below hb);have HB2:=zq (HB1.o.trans (hb.mono HB1.o.size));(first | (have HZ2:=zq (HZ1.o.below hb);clear z0 z1 z2 zf zs;have z0:=HZ2.o.cell (i:=0) rfl;have z1:=HZ2.o.cell (i:=1) rfl;have z2:=HZ2.o.cell (i:=2) rfl;have zf:=HZ2.o.frozen;have zs:=HZ2.o.lt) | skip);clear hb;clear a0 a1 a2 b0 b1 b2 sx sy;have a0:=HX2.o.cell (i:=0) rfl;have a1:=HX2.o.cell (i:=1) rfl;have a2:=HX2.o.cell (i:=2) rfl;have b0:=HY2.o.cell (i:=0) rfl;have b1:=HY2.o.cell (i:=1) rfl;have b2:=HY2.o.cell (i:=2) rfl;have sx:=HX2.o.lt;have sy:=HY2.o.lt)))
  all_goals
   go_wp2_with fail
   go_meet
   first
    | exact co_set HB2.o HZ2.o hzg
    | exact co_new HB2.o
 case rest =>
  obtain ⟨g,A5,c5,A6,c6,rfl,hbx,hbw⟩:=hcut;have HBX:=zq hbx;have HBW:=zq hbw;clear hbx hbw;generalize (plusN false n d mg m e).1=ng at *;generalize (plusN false n d mg m e).2.1=p at *;generalize (plusN false n d mg m e).2.2=q at *;have x0:=HBX.o.cell (i:=0) rfl;have x1:=HBX.o.cell (i:=1) rfl;have xs:=HBX.o.lt
  by_cases h0:p=0
  ·subst h0
   have hz:(zAc BT 0).length=0:=rfl;have x1:_=some (Value.slice A5 0 c5):=x1;go_wp2;go_ret
   exact zAe.mk zd HBW.o
  ·have hl:=pos_lenT (Nat.pos_of_ne_zero h0)
   have hlb:(((zAc BT p).length:Int) == 0)=false:=by simp;intro e;rw [e] at hl;simp at hl
   cases ng with
   | true =>
    go_wp2;go_ret
    exact zAe.mk zd HBW.o
   | false =>
    go_wp2;go_ret
    exact zAe.mk zd HBW.o
abbrev rtC (nu de:ByteArray):Array Value:=#[.string nu,.string de]
theorem head_get (s:ByteArray) (h:0<s.size):s[0]'h=s.data.toList.headD 0:=by
 have h1:=Lib.getD_at s 0 h;rw [h1]
 cases s.data.toList<;>rfl
theorem negB_yes {s:ByteArray} (h:negB s=true):0<s.size∧(∀ h0:0<s.size,(((s[0]'h0).toNat:Int) == 45)=true)∧s.extract 1 s.size=zAS s:=by
 have h':=h;unfold negB at h';simp only [Bool.and_eq_true,decide_eq_true_eq] at h';refine ⟨h'.1,fun h0=>?_,?_⟩
 ·rw [head_get s h0,h'.2];rfl
 ·have e:(s.extract 1 s.size).data.toList=(zAS s).data.toList:=by
   rw [Lib.extract_data];unfold zAS absL;rw [if_pos h]
   show (s.data.toList.drop 1).take (s.size - 1)=s.data.toList.tail
   rw [List.take_of_length_le (by rw [List.length_drop,←Lib.size_eq];omega),List.drop_one]
  have e2:=congrArg List.toArray e;simp only [Array.toArray_toList] at e2;exact congrArg ByteArray.mk e2
theorem negB_no {s:ByteArray} (h:negB s=false):(¬ 0<s.size∨(0<s.size∧∀ h0:0<s.size,(((s[0]'h0).toNat:Int) == 45)=false))∧zAS s=s:=by
 have h':=h;unfold negB at h';refine ⟨?_,?_⟩
 ·rcases Nat.eq_zero_or_pos s.size with h0 | h0
  ·exact .inl za
  ·refine .inr ⟨h0,fun h1=>?_⟩
   simp only [Bool.and_eq_false_iff,decide_eq_false_iff_not] at h';have h2:=h'.resolve_left (fun h=>h h0)
   rw [head_get s h1,beq_eq_false_iff_ne];intro e;exact h2 za
 ·unfold zAS absL
  rw [if_neg (by rw [h];simp)]
theorem Of_neg (nu de:ByteArray) (w:World) (hn:negB nu=true) (hd:(zAS nu).data.toList.all dgB=true) (hs:(zAS nu).size≤2000) (hd2:de.data.toList.all dgB=true) (hs2:de.size≤2000) :
  Calls Tryz.prog 17 #[.agg (rtC nu de)] w (zCY true (zAy (zAS nu)) (zAy de) w):=by
 have HB0:Hid (Below w.heap.size w ((w.alloc (.cells (rtC nu de) 40)).alloc (.cells zCG 45))):=((Below.refl w.heap.size w).alloc (Nat.le_refl _) _).alloc zd _;have HX0:Hid (Bx ((w.alloc (.cells (rtC nu de) 40)).alloc (.cells zCG 45)) w.heap.size (rtC nu de) 40):=(Bx.new _ _ _).alloc _;have HZ0:Hid (Bx ((w.alloc (.cells (rtC nu de) 40)).alloc (.cells zCG 45)) (w.heap.size+1) zCG 45):=Bx.new1 _ _ _ _;have HL1:=zq (fun W=>zCL (zAS nu) W hd za)
 have HL2:=zq (fun W=>zCL de W hd2 za)
 obtain ⟨W,hW⟩:∃ W,W=((w.alloc (.cells (rtC nu de) 40)).alloc (.cells zCG 45)):=⟨_,rfl⟩;rw [←hW] at HB0 HX0 HZ0;obtain ⟨hz,hb,he⟩:=negB_yes hn;have hb0:=hb hz;clear hn hb
 go_enter Tryz.func17,Tryz.ntmps17
 go_upto_region 4 with fail
 rw [←hW];clear hW;have x0:=HX0.o.cell (i:=0) rfl;have x1:=HX0.o.cell (i:=1) rfl;have xs:=HX0.o.lt
 go_region_held3 (fun w'=>w'.cell? ⟨w.heap.size,0,none⟩=some (.string nu)∧w'.cell? ⟨w.heap.size,1,none⟩=some (.string de)) (first | (refine ⟨?_,?_⟩<;>with_reducible assumption) | go_keep)
  (first
   | ((go_at_call 38;(with_reducible refine (HL1.o W.drew).mono ?_);rintro x w1 ⟨A1,c1,rfl,h1,hb1⟩;have HX1:=zq (HX0.o.drew.below hb1);have HZ1:=zq (HZ0.o.drew.below hb1);have HB1:=zq ((zAd HB0.o 1).trans (hb1.mono HB0.o.size));have y0:=HX1.o.cell (i:=0) rfl;have y1:=HX1.o.cell (i:=1) rfl;have ys:=HX1.o.lt;have H1:=zq h1;clear h1 hb1))
   | ((go_at_call 38;(with_reducible refine (HL2.o w1).mono ?_);rintro x w2 ⟨A2,c2,rfl,h2,hb2⟩;have HX2:=zq (HX1.o.below hb2);have HZ2:=zq (HZ1.o.below hb2);have HB2:=zq (zAb HB1.o hb2);have H12:=zq (H1.o.below hb2);have z0:=HX2.o.cell (i:=0) rfl;have z1:=HX2.o.cell (i:=1) rfl;have zs:=HX2.o.lt;have H2:=zq h2;have r0:=HZ2.o.cell (i:=0) rfl;have r1:=HZ2.o.cell (i:=1) rfl;have r2:=HZ2.o.cell (i:=2) rfl;have rf:=HZ2.o.frozen;have rs:=HZ2.o.lt;have rn:¬ (w.heap.size=w.heap.size+1):=za;clear h2 hb2)))
 go_wp2;refine bodyPost_ret (v:=nuV true A1 c1 (zBv (zAS nu).data.toList) A2 c2 (zBv de.data.toList)) (by simp [results,Tryz.results17,go_sem,r0,r1,r2]) rfl ⟨A1,c1,A2,c2,rfl,H12.o.setR HZ2.o _ _ _ _ _,H2.o.setR HZ2.o _ _ _ _ _,zBF HB2.o za _ _ _⟩
theorem Of_pos (nu de:ByteArray) (w:World) (hn:negB nu=false) (hd:(zAS nu).data.toList.all dgB=true) (hs:(zAS nu).size≤2000) (hd2:de.data.toList.all dgB=true) (hs2:de.size≤2000) :
  Calls Tryz.prog 17 #[.agg (rtC nu de)] w (zCY false (zAy (zAS nu)) (zAy de) w):=by
 have HB0:Hid (Below w.heap.size w ((w.alloc (.cells (rtC nu de) 40)).alloc (.cells zCG 45))):=((Below.refl w.heap.size w).alloc (Nat.le_refl _) _).alloc zd _;have HX0:Hid (Bx ((w.alloc (.cells (rtC nu de) 40)).alloc (.cells zCG 45)) w.heap.size (rtC nu de) 40):=(Bx.new _ _ _).alloc _;have HZ0:Hid (Bx ((w.alloc (.cells (rtC nu de) 40)).alloc (.cells zCG 45)) (w.heap.size+1) zCG 45):=Bx.new1 _ _ _ _;have HL1:=zq (fun W=>zCL (zAS nu) W hd za)
 have HL2:=zq (fun W=>zCL de W hd2 za)
 obtain ⟨W,hW⟩:∃ W,W=((w.alloc (.cells (rtC nu de) 40)).alloc (.cells zCG 45)):=⟨_,rfl⟩;rw [←hW] at HB0 HX0 HZ0;obtain ⟨hcase,he⟩:=negB_no hn;rw [he] at HL1 ⊢;clear hn hd hs
 rcases hcase with hz | ⟨hz,hb⟩
 ·clear he
  go_enter Tryz.func17,Tryz.ntmps17
  go_upto_region 4 with fail
  rw [←hW];clear hW;have x0:=HX0.o.cell (i:=0) rfl;have x1:=HX0.o.cell (i:=1) rfl;have xs:=HX0.o.lt
  go_region_held3 (fun w'=>w'.cell? ⟨w.heap.size,0,none⟩=some (.string nu)∧w'.cell? ⟨w.heap.size,1,none⟩=some (.string de)) (first | (refine ⟨?_,?_⟩<;>with_reducible assumption) | go_keep)
   (first
    | ((go_at_call 38;(with_reducible refine (HL1.o W.drew).mono ?_);rintro x w1 ⟨A1,c1,rfl,h1,hb1⟩;have HX1:=zq (HX0.o.drew.below hb1);have HZ1:=zq (HZ0.o.drew.below hb1);have HB1:=zq ((zAd HB0.o 1).trans (hb1.mono HB0.o.size));have y0:=HX1.o.cell (i:=0) rfl;have y1:=HX1.o.cell (i:=1) rfl;have ys:=HX1.o.lt;have H1:=zq h1;clear h1 hb1))
    | ((go_at_call 38;(with_reducible refine (HL2.o w1).mono ?_);rintro x w2 ⟨A2,c2,rfl,h2,hb2⟩;have HX2:=zq (HX1.o.below hb2);have HZ2:=zq (HZ1.o.below hb2);have HB2:=zq (zAb HB1.o hb2);have H12:=zq (H1.o.below hb2);have z0:=HX2.o.cell (i:=0) rfl;have z1:=HX2.o.cell (i:=1) rfl;have zs:=HX2.o.lt;have H2:=zq h2;have r0:=HZ2.o.cell (i:=0) rfl;have r1:=HZ2.o.cell (i:=1) rfl;have r2:=HZ2.o.cell (i:=2) rfl;have rf:=HZ2.o.frozen;have rs:=HZ2.o.lt;have rn:¬ (w.heap.size=w.heap.size+1):=za;clear h2 hb2)))
  go_wp2;refine bodyPost_ret (v:=nuV false A1 c1 (zBv nu.data.toList) A2 c2 (zBv de.data.toList)) (by simp [results,Tryz.results17,go_sem,r0,r1,r2]) rfl ⟨A1,c1,A2,c2,rfl,H12.o.setR HZ2.o _ _ _ _ _,H2.o.setR HZ2.o _ _ _ _ _,zBF HB2.o za _ _ _⟩
 ·have hb0:=hb hz
  clear hb he
  go_enter Tryz.func17,Tryz.ntmps17
  go_upto_region 4 with fail
  rw [←hW];clear hW;have x0:=HX0.o.cell (i:=0) rfl;have x1:=HX0.o.cell (i:=1) rfl;have xs:=HX0.o.lt
  go_region_held3 (fun w'=>w'.cell? ⟨w.heap.size,0,none⟩=some (.string nu)∧w'.cell? ⟨w.heap.size,1,none⟩=some (.string de)) (first | (refine ⟨?_,?_⟩<;>with_reducible assumption) | go_keep)
   (first
    | ((go_at_call 38;(with_reducible refine (HL1.o W.drew).mono ?_);rintro x w1 ⟨A1,c1,rfl,h1,hb1⟩;have HX1:=zq (HX0.o.drew.below hb1);have HZ1:=zq (HZ0.o.drew.below hb1);have HB1:=zq ((zAd HB0.o 1).trans (hb1.mono HB0.o.size));have y0:=HX1.o.cell (i:=0) rfl;have y1:=HX1.o.cell (i:=1) rfl;have ys:=HX1.o.lt;have H1:=zq h1;clear h1 hb1))
    | ((go_at_call 38;(with_reducible refine (HL2.o w1).mono ?_);rintro x w2 ⟨A2,c2,rfl,h2,hb2⟩;have HX2:=zq (HX1.o.below hb2);have HZ2:=zq (HZ1.o.below hb2);have HB2:=zq (zAb HB1.o hb2);have H12:=zq (H1.o.below hb2);have z0:=HX2.o.cell (i:=0) rfl;have z1:=HX2.o.cell (i:=1) rfl;have zs:=HX2.o.lt;have H2:=zq h2;have r0:=HZ2.o.cell (i:=0) rfl;have r1:=HZ2.o.cell (i:=1) rfl;have r2:=HZ2.o.cell (i:=2) rfl;have rf:=HZ2.o.frozen;have rs:=HZ2.o.lt;have rn:¬ (w.heap.size=w.heap.size+1):=za;clear h2 hb2)))
  go_wp2;refine bodyPost_ret (v:=nuV false A1 c1 (zBv nu.data.toList) A2 c2 (zBv de.data.toList)) (by simp [results,Tryz.results17,go_sem,r0,r1,r2]) rfl ⟨A1,c1,A2,c2,rfl,H12.o.setR HZ2.o _ _ _ _ _,H2.o.setR HZ2.o _ _ _ _ _,zBF HB2.o za _ _ _⟩
theorem Of_cT (nu de:ByteArray) (w:World) (hd:(zAS nu).data.toList.all dgB=true) (hs:(zAS nu).size≤2000) (hd2:de.data.toList.all dgB=true) (hs2:de.size≤2000) :
  Calls Tryz.prog 17 #[.agg (rtC nu de)] w (zCY (negB nu) (zAy (zAS nu)) (zAy de) w):=by
 cases hn:negB nu with
 | true=>exact Of_neg nu de w hn hd hs hd2 hs2
 | false=>exact Of_pos nu de w hn hd hs hd2 hs2
def NumRel (w:World) (s:ByteArray) (m:Nat) (i:Value) (wr:World):Prop :=
 wr=w∧∃ k:Nat,k+m=s.size∧i = .int .i64 k∧(s.data.toList.take k).all dgB=true
theorem get_list (s:ByteArray) (k:Nat) (h:k<s.size):∃ h2:k<s.data.toList.length,s.data.toList[k]=s[k]'h:=by
 have h2:k<s.data.toList.length:=by rw [←Lib.size_eq];exact h
 refine ⟨h2,?_⟩
 rw [Lib.getD_at s k h,List.getD_eq_getElem?_getD,List.getElem?_eq_getElem h2]
 rfl
theorem numB_small {s:ByteArray} (h:¬ 0<s.size):zCj s=false:=by
 unfold zCj;have h1:decide (s.size=1)=false:=ze;have h2:decide (1<s.size)=false:=ze;rw [h1,h2];simp
theorem numB_zero {s:ByteArray} (h:1<s.size) (h0:(s.data.toList.headD 0).toNat=48):zCj s=false:=by
 unfold zCj;have h1:decide (s.size=1)=false:=ze;rw [h1,h0];simp
theorem numB_allT {s:ByteArray} (h:s.size=1∨(1<s.size∧(s.data.toList.headD 0).toNat≠48)):zCj s=s.data.toList.all dgB:=by
 unfold zCj
 rcases h with h | ⟨h1,h2⟩
 ·simp [h]
 ·rw [decide_eq_true h1,decide_eq_true h2];simp
theorem number_c (s:ByteArray) (w:World) (hz:s.size≤9223372036854775807):Calls Tryz.prog 40 #[.string s] w (zAP (.bool (zCj s)) w):=by
 rcases Nat.eq_zero_or_pos s.size with h0 | h0
 ·have hs:s=emp:=by
   have h1:s.data.toList=emp.data.toList:=by
    have h2:s.data.toList.length=0:=by rw [←Lib.size_eq];exact h0
    rw [List.length_eq_zero_iff.1 h2];rfl
   have h2:=congrArg List.toArray h1;simp only [Array.toArray_toList] at h2;exact congrArg ByteArray.mk h2
  have he:=zAt hs;rw [numB_small za];clear hs
  go_enter Tryz.func40,Tryz.ntmps40
  go_wp2;go_ret
  exact zAP.mk rfl rfl
 ·have he:s.toList.isEmpty=false:=zAu (fun e=>by rw [e] at h0;exact absurd h0 zc)
  have hh:=head_get s h0
  by_cases hA:1<s.size∧(s.data.toList.headD 0).toNat=48
  ·obtain ⟨h1,h48⟩:=hA
   rw [numB_zero h1 h48];have hb:(((s[0]'h0).toNat:Int) == 48)=true:=by rw [hh,h48];rfl
   clear hh h48
   go_enter Tryz.func40,Tryz.ntmps40
   go_wp2;go_ret
   exact zAP.mk rfl rfl
  ·have HN:Hid (zCj s=s.data.toList.all dgB):=numB_allT (by
    by_cases h1:1<s.size
    ·exact .inr ⟨h1,fun e=>hA ⟨h1,e⟩⟩
    ·exact .inl za)
   have hcase:¬ 1<s.size∨(1<s.size∧(((s[0]'h0).toNat:Int) == 48)=false):=by
    by_cases h1:1<s.size
    ·refine .inr ⟨h1,?_⟩
     rw [hh,beq_eq_false_iff_ne];intro e;exact hA ⟨h1,za⟩
    ·exact .inl h1
   clear hA hh
   rcases hcase with h1 | ⟨h1,hb⟩
   all_goals
    go_enter Tryz.func40,Tryz.ntmps40
    go_wp2
    go_loopg [3] s.size (NumRel w s)
    case atStart=>exact ⟨rfl,0,za,rfl,zd⟩
    case round =>
     obtain ⟨hw,k,hk,rfl,hall⟩:=hrel;subst hw;have HA:=zq hall;have HK:=zq hk;clear hall hk
     by_cases hlt:k<s.size
     ·obtain ⟨h2,hg⟩:=get_list s k hlt
      have HG:=zq hg;clear hg
      by_cases h48:48≤(s[k]'hlt).toNat
      ·by_cases h57:(s[k]'hlt).toNat≤57
       ·go_wp2
        go_roundg (gk - 1)
        case measure=>have:=HK.o;omega
        case rel =>
         refine ⟨rfl,k+1,zh,zi,?_⟩
         rw [List.take_succ_eq_append_getElem h2,List.all_append,HA.o,HG.o];simp [dgB,h48,h57]
       ·have HF:Hid (zCj s=false):=by
         show _=_
         rw [HN.o,List.all_eq_false];exact ⟨_,List.getElem_mem h2,by rw [HG.o];simp [dgB,h57]⟩
        go_wp2;go_ret
        exact zAP.mk (by rw [HF.o];rfl) rfl
      ·have HF:Hid (zCj s=false):=by
        show _=_
        rw [HN.o,List.all_eq_false];exact ⟨_,List.getElem_mem h2,by rw [HG.o];simp [dgB,h48]⟩
       go_wp2;go_ret
       exact zAP.mk (by rw [HF.o];rfl) rfl
     ·obtain rfl:k=s.size:=by have:=HK.o;omega
      have HF:Hid (zCj s=true):=by
       show _=_
       rw [HN.o];have:=HA.o
       rwa [List.take_of_length_le (by rw [←Lib.size_eq];exact Nat.le_refl _)] at this
      go_wp2;go_ret
      exact zAP.mk (by rw [HF.o];rfl) rfl
end Go.Proofs.YtieoifkdobcpiaaGreatDoor
