/- Parts of the proof, joined: Package num: Minus, Sub and Mul of quotients from 0 on. Digits that ar. -/
import Derived.Test.YtieoifkdobcpiaaGreatDoorSg23
import Derived.BigRegion
import Derived.Maps.RangeRun
set_option maxRecDepth 100000
set_option maxHeartbeats 8000000
namespace Go.Proofs.YtieoifkdobcpiaaGreatDoor
open Go.RowKit Dw
def GivesMiI (A:Option Addr) (c n:Nat) (w:World) (e:Ending) (w':World):Prop:=e = .returned (inV (decide (n≠0)) A c n)∧Below w.heap.size w w'
theorem IMinus_c (A:Option Addr) (c n:Nat) (w:World):Calls Tryz.prog 164 #[inV false A c n] w (GivesMiI A c n w):=by
 by_cases h0:n=0
 ·have hl:=wl_zero h0
  have hl2:¬ (0:Int)<((zAd B32 n).length:Int):=za;have hd:decide (n≠0)=false:=by simp [h0]
  unfold GivesMiI;rw [hd];clear h0 hd
  go_enter Tryz.func164,Tryz.ntmps164
  go_wp2;refine dL (v:=inV false A c n) (by simp [results,Tryz.results164,go_sem,hl]) rfl ⟨rfl,?_⟩
  exact ((aN w.heap.size w).alloc (aC _) _).alloc zd _
 ·have hl2:=wl_pos h0
  have hl3:0<(zAd B32 n).length:=za;have hd:decide (n≠0)=true:=by simp [h0]
  unfold GivesMiI;rw [hd];clear h0 hd
  go_enter Tryz.func164,Tryz.ntmps164
  go_wp2;refine dL (v:=inV true A c n) (by simp [results,Tryz.results164,go_sem]) rfl ⟨rfl,?_⟩
  exact ((aN w.heap.size w).alloc (aC _) _).alloc zd _
theorem RMul_c (A A2 A3 A4:Option Addr) (c c2 c3 c4 n d m e:Nat) (w:World) (h:Nt w A c n) (h2:Nt w A2 c2 d) (h3:Nt w A3 c3 m) (h4:Nt w A4 c4 e)
  (hn:(zAd B32 n).length≤100000000) (hd:(zAd B32 d).length≤100000000) (hm:(zAd B32 m).length≤100000000) (he:(zAd B32 e).length≤100000000) (hd0:0<d) (he0:0<e) :
  Calls Tryz.prog 113 #[raV false A c n A2 c2 d,raV false A3 c3 m A4 c4 e] w (zCb false (mulP (n,d) (m,e)).1 (mulP (n,d) (m,e)).2 w):=by
 have l1:=zCz n m;have l3:=zCz d e;have HM1:=zq (fun W (x:Nt W A c n) (y:Nt W A3 c3 m)=>IMul_c A A3 c c3 n m W x y za za)
 have HM3:=zq (fun W (x:Nt W A2 c2 d) (y:Nt W A4 c4 e)=>Mul_c A2 A4 c2 c4 d e W x y za za)
 have HO:=zq (fun A5 c5 A6 c6 W (x:Nt W A5 c5 (n*m)) (y:Nt W A6 c6 (d*e))=>Over_c A5 A6 c5 c6 (n*m) (d*e) false W x y (cZ hd0 he0) za za)
 simp only [Bool.false_and] at HO;have hap:mulP (n,d) (m,e)=zCN (n*m) (d*e):=rfl;rw [hap];clear hap l1 l3;generalize (zCN (n*m) (d*e)).1=pp at *;generalize (zCN (n*m) (d*e)).2=pq at *;generalize n*m=p1 at *;generalize d*e=p3 at *;have HX0:Hid (Bx (((w.alloc (.cells (raC A c n A2 c2 d) 89)).alloc (.cells (raC A3 c3 m A4 c4 e) 89)).alloc (.cells zBx 89)) w.heap.size (raC A c n A2 c2 d) 89):=((Bx.new _ _ _).alloc _).alloc _;have HY0:Hid (Bx (((w.alloc (.cells (raC A c n A2 c2 d) 89)).alloc (.cells (raC A3 c3 m A4 c4 e) 89)).alloc (.cells zBx 89)) (w.heap.size+1) (raC A3 c3 m A4 c4 e) 89):=(Bx.new1 _ _ _ _).alloc _;have HZ0:Hid (Bx (((w.alloc (.cells (raC A c n A2 c2 d) 89)).alloc (.cells (raC A3 c3 m A4 c4 e) 89)).alloc (.cells zBx 89)) (w.heap.size+1+1) zBx 89):=Bx.new2 _ _ _ _ _;have HB0:Hid (Below w.heap.size w (((w.alloc (.cells (raC A c n A2 c2 d) 89)).alloc (.cells (raC A3 c3 m A4 c4 e) 89)).alloc (.cells zBx 89))):=(((aN w.heap.size w).alloc (aC _) _).alloc zd _).alloc ze _;obtain ⟨W,hW⟩:∃ W,W=(((w.alloc (.cells (raC A c n A2 c2 d) 89)).alloc (.cells (raC A3 c3 m A4 c4 e) 89)).alloc (.cells zBx 89)):=⟨_,rfl⟩;have g1:Nt W A c n:=yc;have g2:Nt W A2 c2 d:=zy;have g3:Nt W A3 c3 m:=ya;have g4:Nt W A4 c4 e:=yb;rw [←hW] at HX0 HY0 HZ0 HB0;clear hn hd hm he hd0 he0
 go_enter Tryz.func113,Tryz.ntmps113
 go_wp2_with fail
 rw [←hW];clear hW;have HX:=zq (HX0.o.drew);have HY:=zq (HY0.o.drew);have HZ:=zq (HZ0.o.drew);have HB:Hid (Below w.heap.size w W.drew):=zAc HB0.o 1;obtain ⟨x0,x1,x2⟩:=HX0.o.t;obtain ⟨y0,y1,y2⟩:=HY0.o.t;clear HX0 HY0 HZ0 HB0
 go_region_held3 (fun w'=>(w'.cell? ⟨w.heap.size,0,none⟩=some (.bool false)∧w'.cell? ⟨w.heap.size,1,none⟩=some (.slice A (zAd B32 n).length c)∧w'.cell? ⟨w.heap.size,2,none⟩=some (.slice A2 (zAd B32 d).length c2))∧(w'.cell? ⟨w.heap.size+1,0,none⟩=some (.bool false)∧w'.cell? ⟨w.heap.size+1,1,none⟩=some (.slice A3 (zAd B32 m).length c3)∧w'.cell? ⟨w.heap.size+1,2,none⟩=some (.slice A4 (zAd B32 e).length c4)))
  ((refine ⟨⟨?_,?_,?_⟩,?_,?_,?_⟩<;>first | with_reducible assumption | go_simp))
  (first
   | ((go_at_call 76;(with_reducible refine (HM1.o _ g1.drew g3.drew).mono ?_);rintro e1 w1 ⟨A5,c5,rfl,h5,hb1⟩;have HX1:=zq (HX.o.below hb1);have HY1:=zq (HY.o.below hb1);have HZ1:=zq (HZ.o.below hb1);have HB1:=zq (HB.o.trans (hb1.mono HB.o.size));have g21:=g2.drew.below hb1;have g41:=g4.drew.below hb1;obtain ⟨a0,a1,a2⟩:=HX1.o.t;obtain ⟨b0,b1,b2⟩:=HY1.o.t;clear hb1))
   | ((go_at_call 119;(with_reducible refine (HM3.o _ g21 g41).mono ?_);rintro e4 w4 ⟨A8,c8,rfl,h8,hb4⟩;have HX4:=zq (HX1.o.below hb4);have HY4:=zq (HY1.o.below hb4);have HZ4:=zq (HZ1.o.below hb4);have HB4:=zq (zAa HB1.o hb4);have h54:=h5.below hb4;clear a0 a1 a2 b0 b1 b2;obtain ⟨a0,a1,a2⟩:=HX4.o.t;obtain ⟨b0,b1,b2⟩:=HY4.o.t;clear hb4))
   | ((go_at_call 117;(with_reducible refine (HO.o _ _ _ _ _ h54 h8).mono ?_);rintro e5 w5 ⟨A9,c9,AD,cE,rfl,h9,hF,hb5⟩;have HX5:=zq (HX4.o.below hb5);have HY5:=zq (HY4.o.below hb5);have HZ5:=zq (HZ4.o.below hb5);have HB5:=zq (zAa HB4.o hb5);clear a0 a1 a2 b0 b1 b2;obtain ⟨a0,a1,a2⟩:=HX5.o.t;obtain ⟨b0,b1,b2⟩:=HY5.o.t;obtain ⟨r0,r1,r2⟩:=HZ5.o.t;have fr:=HZ5.o.frozen;have rl:=HZ5.o.lt;clear hb5)))
 clear HX HY HZ HB;go_wp2;refine dL (v:=raV false A9 c9 pp AD cE pq) (by simp [results,Tryz.results113,go_sem,r0,r1,r2]) rfl ⟨A9,c9,AD,cE,rfl,h9.setR HZ5.o _ _ _,hF.setR HZ5.o _ _ _,?_⟩
 exact ((HB5.o.setCell ze _).setCell ze _).setCell ze _
theorem RSub_c (A A2 A3 A4:Option Addr) (c c2 c3 c4 n d m e:Nat) (w:World) (h:Nt w A c n) (h2:Nt w A2 c2 d) (h3:Nt w A3 c3 m) (h4:Nt w A4 c4 e)
  (hn:(zAd B32 n).length≤100000000) (hd:(zAd B32 d).length≤100000000) (hm:(zAd B32 m).length≤100000000) (he:(zAd B32 e).length≤100000000) (hd0:0<d) (he0:0<e) (hle:m*d≤n*e) :
  Calls Tryz.prog 114 #[raV false A c n A2 c2 d,raV false A3 c3 m A4 c4 e] w (zCb false (subP (n,d) (m,e)).1 (subP (n,d) (m,e)).2 w):=by
 have HA:Hid (∀ W,Nt W A c n→Nt W A2 c2 d→Nt W A3 c3 m→Nt W A4 c4 e→Calls Tryz.prog 75 #[raV false A c n A2 c2 d,raV (decide (m≠0)) A3 c3 m A4 c4 e] W (zCb false (subP (n,d) (m,e)).1 (subP (n,d) (m,e)).2 W)):=by
  intro W x1 x2 x3 x4
  by_cases h0:m=0
  ·have e1:decide (m≠0)=false:=by simp [h0]
   have e2:subP (n,d) (m,e)=addP (n,d) (m,e):=by
    unfold subP addP;rw [h0]
    show zCN (n*e - 0*d) (d*e)=zCN (n*e+0*d) (d*e)
    rw [Nat.zero_mul,Nat.sub_zero,cK]
   rw [e1,e2];exact RAdd_c A A2 A3 A4 c c2 c3 c4 n d m e W x1 x2 x3 x4 hn hd hm he hd0 he0
  ·have e1:decide (m≠0)=true:=by simp [h0]
   rw [e1];exact RAddN_c A A2 A3 A4 c c2 c3 c4 n d m e W x1 x2 x3 x4 hn hd hm he hd0 he0 h0 hle
 have HMI:Hid (∀ W,Calls Tryz.prog 164 #[inV false A3 c3 m] W fun e w'=>e = .returned (inV (decide (m≠0)) A3 c3 m)∧Below W.heap.size W w'):=fun W=>IMinus_c A3 c3 m W
 generalize decide (m≠0)=ng at *;generalize (subP (n,d) (m,e)).1=pp at *;generalize (subP (n,d) (m,e)).2=pq at *;have HX0:Hid (Bx (((w.alloc (.cells (raC A c n A2 c2 d) 89)).alloc (.cells (raC A3 c3 m A4 c4 e) 89)).alloc (.cells zBx 89)) w.heap.size (raC A c n A2 c2 d) 89):=((Bx.new _ _ _).alloc _).alloc _;have HY0:Hid (Bx (((w.alloc (.cells (raC A c n A2 c2 d) 89)).alloc (.cells (raC A3 c3 m A4 c4 e) 89)).alloc (.cells zBx 89)) (w.heap.size+1) (raC A3 c3 m A4 c4 e) 89):=(Bx.new1 _ _ _ _).alloc _;have HZ0:Hid (Bx (((w.alloc (.cells (raC A c n A2 c2 d) 89)).alloc (.cells (raC A3 c3 m A4 c4 e) 89)).alloc (.cells zBx 89)) (w.heap.size+1+1) zBx 89):=Bx.new2 _ _ _ _ _;have HB0:Hid (Below w.heap.size w (((w.alloc (.cells (raC A c n A2 c2 d) 89)).alloc (.cells (raC A3 c3 m A4 c4 e) 89)).alloc (.cells zBx 89))):=(((aN w.heap.size w).alloc (aC _) _).alloc zd _).alloc ze _;obtain ⟨W,hW⟩:∃ W,W=(((w.alloc (.cells (raC A c n A2 c2 d) 89)).alloc (.cells (raC A3 c3 m A4 c4 e) 89)).alloc (.cells zBx 89)):=⟨_,rfl⟩;have g1:Nt W A c n:=yc;have g2:Nt W A2 c2 d:=zy;have g3:Nt W A3 c3 m:=ya;have g4:Nt W A4 c4 e:=yb;rw [←hW] at HX0 HY0 HZ0 HB0;clear hn hd hm he hd0 he0 hle
 go_enter Tryz.func114,Tryz.ntmps114
 go_wp2_with fail
 rw [←hW];clear hW;have HX:=zq (HX0.o.drew);have HY:=zq (HY0.o.drew);have HZ:=zq (HZ0.o.drew);have HB:Hid (Below w.heap.size w W.drew):=zAc HB0.o 1;obtain ⟨x0,x1,x2⟩:=HX0.o.t;obtain ⟨y0,y1,y2⟩:=HY0.o.t;clear HX0 HY0 HZ0 HB0
 go_region_held3 (fun w'=>(w'.cell? ⟨w.heap.size,0,none⟩=some (.bool false)∧w'.cell? ⟨w.heap.size,1,none⟩=some (.slice A (zAd B32 n).length c)∧w'.cell? ⟨w.heap.size,2,none⟩=some (.slice A2 (zAd B32 d).length c2))∧(w'.cell? ⟨w.heap.size+1,0,none⟩=some (.bool false)∧w'.cell? ⟨w.heap.size+1,1,none⟩=some (.slice A3 (zAd B32 m).length c3)∧w'.cell? ⟨w.heap.size+1,2,none⟩=some (.slice A4 (zAd B32 e).length c4)))
  ((refine ⟨⟨?_,?_,?_⟩,?_,?_,?_⟩<;>first | with_reducible assumption | go_simp))
  (first
   | ((go_at_call 164;(with_reducible refine (HMI.o _).mono ?_);rintro e1 w1 ⟨rfl,hb1⟩;have HX1:=zq (HX.o.below hb1);have HY1:=zq (HY.o.below hb1);have HZ1:=zq (HZ.o.below hb1);have HB1:=zq (HB.o.trans (hb1.mono HB.o.size));have g11:=g1.drew.below hb1;have g21:=g2.drew.below hb1;have g31:=g3.drew.below hb1;have g41:=g4.drew.below hb1;obtain ⟨a0,a1,a2⟩:=HX1.o.t;obtain ⟨b0,b1,b2⟩:=HY1.o.t;clear hb1))
   | ((go_at_call 75;(with_reducible refine (HA.o _ g11 g21 g31 g41).mono ?_);rintro e5 w5 ⟨A9,c9,AD,cE,rfl,h9,hF,hb5⟩;have HX5:=zq (HX1.o.below hb5);have HY5:=zq (HY1.o.below hb5);have HZ5:=zq (HZ1.o.below hb5);have HB5:=zq (zAa HB1.o hb5);clear a0 a1 a2 b0 b1 b2;obtain ⟨a0,a1,a2⟩:=HX5.o.t;obtain ⟨b0,b1,b2⟩:=HY5.o.t;obtain ⟨r0,r1,r2⟩:=HZ5.o.t;have fr:=HZ5.o.frozen;have rl:=HZ5.o.lt;clear hb5)))
 clear HX HY HZ HB;go_wp2;refine dL (v:=raV false A9 c9 pp AD cE pq) (by simp [results,Tryz.results114,go_sem,r0,r1,r2]) rfl ⟨A9,c9,AD,cE,rfl,h9.setR HZ5.o _ _ _,hF.setR HZ5.o _ _ _,?_⟩
 exact ((HB5.o.setCell ze _).setCell ze _).setCell ze _
end Go.Proofs.YtieoifkdobcpiaaGreatDoor
namespace Go.Proofs.YtieoifkdobcpiaaGreatDoor
open Dw
theorem dg_back {c:UInt8} (h:dgB c=true):UInt8.ofNat (48+(c.toNat - 48))=c:=by
 have:=(dgB_iff c).1 h
 apply UInt8.toNat_inj.1
 rw [UInt8.toNat_ofNat'];have:=c.toNat_lt;omega
theorem decV_pos {l:List UInt8} (h:l.all dgB=true) (hne:l≠[]) (hh:(l.headD 0).toNat≠48):0<zCc l:=by
 cases l with
 | nil=>exact absurd rfl hne
 | cons a t =>
  rw [List.all_cons,dG] at h;have h1:=(dgB_iff a).1 h.1;have e:=zCG [a] t;rw [List.singleton_append] at e;have e2:zCc [a]=a.toNat - 48:=by show 10*0+(a.toNat - 48)=_;omega
  rw [e,e2];simp only [List.headD_cons] at hh;have:0<(a.toNat - 48)*10 ^ t.length:=cZ za (Nat.pow_pos zc);omega
theorem dig_uniq:∀ (n:Nat) (l:List UInt8),l.length=n→l.all dgB=true→l≠[]→(l.length=1∨(l.headD 0).toNat≠48)→l=Lib.decDigits (zCc l)
 | 0,l,hn,_,hne,_=>absurd (List.length_eq_zero_iff.1 hn) hne
 | n+1,l,hn,hall,hne,hh=>by
  obtain ⟨m,c,rfl⟩:∃ m c,l=m++[c]:=⟨l.dropLast,l.getLast hne,(List.dropLast_concat_getLast hne).symm⟩;rw [List.all_append,dG] at hall;have hc:dgB c=true:=by simpa using hall.2
  have hc2:=(dgB_iff c).1 hc;rw [decV_snoc]
  cases m with
  | nil =>
   have e:zCc []=0:=rfl;rw [e,Lib.decDigits,dif_pos za];have:10*0+(c.toNat - 48)=c.toNat - 48:=za;rw [this,dg_back hc]
   rfl
  | cons a t =>
   have hhd:((a::t).headD 0).toNat≠48:=by
    rcases hh with h | h
    ·simp at h
    ·simpa using h
   have ih:=dig_uniq n (a::t) (by simpa using hn) hall.1 zd (.inr hhd)
   have hp:=decV_pos hall.1 zd hhd;rw [Lib.decDigits,dif_neg za];have e1:(10*zCc (a::t)+(c.toNat - 48)) / 10=zCc (a::t):=za;have e2:(10*zCc (a::t)+(c.toNat - 48)) % 10=c.toNat - 48:=za;rw [e1,e2,dg_back hc,←ih]
structure RevD (n0 a:Nat) (r:List UInt8):Prop where
 all:r.all dgB=true
 val:n0=a*10 ^ r.length+zCc r.reverse
theorem RevD.start (n:Nat):RevD n n []:=⟨rfl,by simp [zCc]⟩
theorem RevD.step {n0 a:Nat} {r:List UInt8} (h:RevD n0 a r):RevD n0 (a / 10) (r++[UInt8.ofNat (48+a % 10)]):=by
 have hd:=dig_one (a % 10) za;refine ⟨?_,?_⟩
 ·rw [List.all_append,h.all]
  simp [dgB]
  omega
 ·rw [dC,List.reverse_append,List.reverse_singleton,List.length_singleton,zCG,List.length_reverse]
  have e:zCc [UInt8.ofNat (48+a % 10)]=a % 10:=by
   show 10*0+((UInt8.ofNat (48+a % 10)).toNat - 48)=_
   rw [hd];omega
  rw [e,h.val,aS];have h3:a=a / 10*10+a % 10:=za;generalize hp:10 ^ r.length=p
  have e4:a / 10*(p*10)+(a % 10*p+zCc r.reverse)=(a / 10*10+a % 10)*p+zCc r.reverse:=by
   rw [aW,aV,aU 10 p];omega
  rw [e4,←h3]
theorem RevD.done {n0:Nat} {r:List UInt8} (h:RevD n0 0 r) (hne:r≠[]) (hl:r.length=1∨(r.getLast hne).toNat≠48):r.reverse=Lib.decDigits n0:=by
 have e:n0=zCc r.reverse:=by rw [h.val];omega
 rw [e];refine dig_uniq r.reverse.length r.reverse rfl (by rw [List.all_reverse];exact h.all) (by simpa using hne) ?_
 rcases hl with h1 | h1
 ·exact .inl (by simpa using h1)
 ·right
  have:r.reverse.headD 0=r.getLast hne:=by
   rw [List.headD_eq_head?_getD,List.head?_reverse,List.getLast?_eq_some_getLast hne]
   rfl
  rw [this];exact h1
structure TxI (n0 q n k:Nat) (r:List UInt8):Prop where
 rev:RevD n0 (q*10 ^ (9 - k)+n) r
 lt:n<10 ^ (9 - k)
 fin:q=0→n=0→∃ h:r≠[],(r.getLast h).toNat≠48
theorem TxI.start {n0 a:Nat} {r:List UInt8} (h:RevD n0 a r) (ha:a≠0):TxI n0 (a / 1000000000) (a % 1000000000) 0 r:=by
 refine ⟨?_,?_,fun h1 h2=>?_⟩
 ·have e:a / 1000000000*10 ^ (9 - 0)+a % 1000000000=a:=by
   have e9:(10:Nat) ^ (9 - 0)=1000000000:=zc;rw [e9];omega
  rw [e];exact h
 ·have e9:(10:Nat) ^ (9 - 0)=1000000000:=by decide
  rw [e9];omega
 ·exfalso;omega
theorem TxI.step {n0 q n k:Nat} {r:List UInt8} (h:TxI n0 q n k r) (hk:k<9) (hp:0<q∨0<n):TxI n0 q (n / 10) (k+1) (r++[UInt8.ofNat (48+n % 10)]):=by
 obtain ⟨h1,h2,_⟩:=h;obtain ⟨P,hP⟩:∃ P,P=10 ^ (9 - (k+1)):=⟨_,rfl⟩;have e:10 ^ (9 - k)=P*10:=by rw [hP,←aS];congr 1;omega
 rw [e] at h1 h2;have e3:q*(P*10)=q*P*10:=(aV _ _ _).symm;rw [e3] at h1;have h4:=h1.step;have e1:(q*P*10+n) / 10=q*P+n / 10:=za;have e2:(q*P*10+n) % 10=n % 10:=za;rw [e1,e2] at h4;refine ⟨by rw [←hP];exact h4,by rw [←hP];omega,fun hq hn=>⟨zd,?_⟩⟩
 have e9:∀ (c:UInt8) (h:r++[c]≠[]),(r++[c]).getLast h=c:=fun c h=>zd
 rw [e9,dig_one (n % 10) za];omega
theorem TxI.done {n0 q n k:Nat} {r:List UInt8} (h:TxI n0 q n k r) (hk:k=9∨(q=0∧n=0)):RevD n0 q r∧(q=0→∃ h:r≠[],(r.getLast h).toNat≠48):=by
 obtain ⟨h1,h2,h3⟩:=h
 rcases hk with rfl | ⟨rfl,rfl⟩
 ·have e9:(10:Nat) ^ (9 - 9)=1:=by decide
  rw [e9] at h1 h2;obtain rfl:n=0:=za;rw [bS,cK] at h1;exact ⟨h1,fun hq=>h3 hq rfl⟩
 ·rw [Nat.zero_mul,cK] at h1
  exact ⟨h1,fun _=>h3 rfl rfl⟩
theorem rev_digits {n0:Nat} {r:List UInt8} (h:RevD n0 0 r) (hl:∃ h:r≠[],(r.getLast h).toNat≠48):r.reverse=Lib.decDigits n0:=by
 obtain ⟨hne,h2⟩:=hl;exact h.done hne (.inr h2)
def Swp (r:List UInt8) (i:Nat) (L:List UInt8):Prop:=L.length=r.length∧∀ x:Nat,L[x]?=if x<i∨r.length≤x+i then r.reverse[x]? else r[x]?
theorem Swp.start (r:List UInt8):Swp r 0 r:=by
 refine ⟨rfl,fun x=>?_⟩
 split
 ·next h=>rw [List.getElem?_eq_none za,List.getElem?_eq_none (by rw [List.length_reverse];omega)]
 ·rfl
theorem Swp.get {r L:List UInt8} {i j:Nat} (h:Swp r i L) (hij:i+j+1=r.length) (hl:i<j):∃ (h1:i<L.length) (h2:j<L.length),(some L[i]=r[i]?)∧(some L[j]=r[j]?):=by
 obtain ⟨h1,h2⟩:=h;have a:=h2 i;have b:=h2 j;rw [aD za] at a b;refine ⟨za,za,?_,?_⟩
 ·rw [←a,List.getElem?_eq_getElem]
 ·rw [←b,List.getElem?_eq_getElem]
theorem Swp.step {r L:List UInt8} {i j:Nat} {a b:UInt8} (h:Swp r i L) (hij:i+j+1=r.length) (hl:i<j) (ha:some a=r[j]?) (hb:some b=r[i]?):Swp r (i+1) ((L.set i a).set j b):=by
 obtain ⟨h1,h2⟩:=h;refine ⟨by simpa using h1,fun x=>?_⟩
 rw [List.getElem?_set,List.getElem?_set]
 by_cases hx:j=x
 ·subst hx
  rw [aF rfl,aF (by rw [cQ];omega),aF za,List.getElem?_reverse za,hb]
  congr 1
  omega
 ·rw [aD hx]
  by_cases hy:i=x
  ·subst hy
   rw [aF rfl,aF za,aF za,List.getElem?_reverse za,ha]
   congr 1
   omega
  ·rw [aD hy,h2 x]
   by_cases hc:x<i∨r.length≤x+i
   ·rw [aF hc,aF za]
   ·rw [aD hc,aD za]
theorem Swp.done {r L:List UInt8} {i:Nat} (h:Swp r i L) (hl:r.length≤2*i+1):L=r.reverse:=by
 obtain ⟨h1,h2⟩:=h;refine List.ext_getElem? fun x=>?_
 rw [h2 x]
 split
 ·rfl
 ·next hc =>
  rw [List.getElem?_reverse za]
  congr 1
  omega
open Go.RowKit Dw
abbrev encB:UInt8→List Value:=fun c=>[.int .u8 (c.toNat:Int)]
theorem elB:ElemT Tryz.prog 131 5 (.int .u8 0) 1 1:=⟨Tryz.underlying131,zb,rfl,zc⟩
abbrev OwnB (w:World) (base:Nat) (v:Value) (l:List UInt8):Prop:=zAE encB 1 w base 5 v l
theorem rev_len {n0 a k:Nat} {r:List UInt8} (h:RevD n0 a r) (ha:0<a) (hn:(zAd B32 n0).length≤k):r.length≤10*k:=by
 have h1:=zCh zAo n0
 have h2:10 ^ r.length≤n0:=by
  rw [h.val];exact cU (Nat.le_mul_of_pos_left _ ha) (cX _ _)
 have h3:B32 ^ (zAd B32 n0).length≤10 ^ (10*k):=by
  rw [Nat.pow_mul];exact cU (Nat.pow_le_pow_left (show B32≤10 ^ 10 by decide) _) (bP zc hn)
 refine Nat.le_of_not_lt fun hk=>?_
 have h4:10 ^ (10*k)≤10 ^ r.length:=bP zc za;omega
theorem digB_len {n k:Nat} (h:(zAd B32 n).length≤k):(digB n).size≤10*k+1:=by
 rw [digB_size];have h1:=zCh zAo n
 have h3:B32 ^ (zAd B32 n).length≤10 ^ (10*k):=by
  rw [Nat.pow_mul];exact cU (Nat.pow_le_pow_left (show B32≤10 ^ 10 by decide) _) (bP zc h)
 refine (dig_len n (10*k+1) za).2 (cY h1 (cU h3 (bP zc za)))
theorem encB_flat (L:List UInt8):L.flatMap encB=L.map fun c=>Value.int .u8 (c.toNat:Int):=flat1 L
theorem OwnB.get {w:World} {B g c n:Nat} {L:List UInt8} (h:OwnB w B (.slice (some ⟨g,0,none⟩) n c) L) (hn:n=L.length) (i:Nat) (hi:i<L.length):w.cell? ⟨g,i,none⟩=some (.int .u8 (L[i].toNat:Int))∧w.frozen? ⟨g,i,none⟩=false:=by
 subst hn;unfold OwnB zAE at h;rw [encB_flat] at h;have h1:=dE h i za;exact ⟨by rw [h1];simp [hi],World.ownsRow.frozenAt h i⟩
theorem OwnB.put {w:World} {B g c n:Nat} {L:List UInt8} (h:OwnB w B (.slice (some ⟨g,0,none⟩) n c) L) (hn:n=L.length) (i:Nat) (x:UInt8) :
  OwnB (w.setCell ⟨g,i,none⟩ (.int .u8 (x.toNat:Int))) B (.slice (some ⟨g,0,none⟩) n c) (L.set i x):=by
 subst hn;unfold OwnB zAE at h ⊢;rw [encB_flat] at h ⊢;have h1:=(World.ownsRow.stored h i (.int .u8 (x.toNat:Int))).1;rw [List.map_set,cQ];exact h1
theorem OwnB.lo {w:World} {B g c n:Nat} {L:List UInt8} (h:OwnB w B (.slice (some ⟨g,0,none⟩) n c) L):B≤g:=(zAR h rfl).1
theorem len_powB {B:Nat} (hB:1<B) {n k:Nat} (h:n<B ^ k):(zAd B n).length≤k:=by
 rcases bI (zAd B n).length with h0 | h0
 ·omega
 ·have:=wval_ge (B:=B) h0 (zCE hB h0)
  rw [zAz hB] at this;refine Nat.le_of_not_lt fun hk=>?_
  have h2:B ^ k≤B ^ ((zAd B n).length - 1):=bP za za;omega
theorem trim_a (A:Option Addr) (c:Nat) (L:List Nat) (w:World) (hn:L.length≤1000000000) (hc:L.length≤c) (h:Wds w A L) (hl:WLt B32 L) {n:Nat} (hv:zAh B32 L=n) :
  Calls Tryz.prog 172 #[.slice A L.length c] w fun e w'=>e = .returned (ntV A c n)∧Nt w A c n∧w'=w:=by
 have e:zBo L=zAd B32 n:=by rw [wtrim_words zAo hl,hv]
 refine (trim_c A c L w hn hc h).mono ?_
 rintro _ _ ⟨rfl,rfl⟩;refine ⟨by rw [e],⟨?_,?_⟩,rfl⟩
 ·rw [←e]
  intro hp;obtain ⟨b,o,rfl,hlt,hcl⟩:=h.at_ (by have:=zDl L;omega)
  refine ⟨b,o,rfl,fun i hi=>?_⟩
  have hi':i<L.length:=by have:=zDl L;omega
  rw [hcl i hi']
  have:(zBo L)[i]=L[i]:=by
   have h1:=wtrim_prefix L;rw [List.getElem_of_eq h1 hi,bX]
  rw [this]
 ·rw [←e];have:=zDl L;omega
def GivesNNf (q r:Nat) (w:World) (e:Ending) (w':World):Prop :=
 ∃ g c A2 c2,e = .returned (.tuple #[ntV (some ⟨g,0,none⟩) c q,ntV A2 c2 r])∧Nt w' (some ⟨g,0,none⟩) c q∧Nt w' A2 c2 r∧Below w.heap.size w w'∧w.heap.size≤g∧g<w'.heap.size
theorem divWord_f (A:Option Addr) (c a b:Nat) (w:World) (h:Nt w A c a) (hn:(zAd B32 a).length≤900000000) (hb1:1≤b) (hb2:b≤4294967295) :
  Calls Tryz.prog 165 #[ntV A c a,.int .u64 (b:Int)] w (GivesNNf (a / b) (a % b) w):=by
 have hmk:∀ w:World,(Instr.makeSlice 85 (.int .i64 ((zAd B32 a).length:Int)) (.int .i64 ((zAd B32 a).length:Int))).run Tryz.prog w =
   .ok (.slice (some ⟨w.heap.size,0,none⟩) (zAd B32 a).length (zAd B32 a).length) (w.alloc (.cells (Array.replicate (zAd B32 a).length (.int .u32 0)) 197)):=mk_nat _ za
 unfold ntV;have hl:=zAY zAo a;have HVA:=zq (zAz zAo a);obtain ⟨h,hcap⟩:=h;generalize zAd B32 a=l at *
 go_enter Tryz.func165,Tryz.ntmps165
 go_wp2;clear hmk;have hnew:=zBG.new w l.length;have hbel:Below w.heap.size w (w.alloc (.cells (Array.replicate l.length (.int .u32 0)) 197)):=(aN _ _).alloc (aC _) _;obtain ⟨g,hg⟩:∃ g,g=w.heap.size:=⟨_,rfl⟩;rw [←hg] at hnew;obtain ⟨w1,hw1⟩:∃ w1,w1=w.alloc (.cells (Array.replicate l.length (.int .u32 0)) 197):=⟨_,rfl⟩;rw [←hw1] at hnew hbel;rw [←hg,←hw1];have HG:=zq hg;have HB:=zq hbel;clear hg hbel hw1
 go_loopg [7,8] l.length (DwRel w g l b)
 case atStart=>exact ⟨0,List.replicate l.length 0,_,aC _,rfl,rfl,rfl,za,hnew,zd,WLt.zeros zBL _,by rw [aB (aC _),aB zd];simp [zAh],HB.o,yg⟩
 case round =>
  obtain ⟨rr,Q,z,hm,hz,rfl,rfl,hrr,hA,hQ,hLt,hV,hbw,hwg⟩:=hrel;have HV:=zq hV;have HQ:=zq hQ;clear hV hQ
  rcases bI gk with h0 | h0
  ·subst h0
   obtain rfl:z = -1:=hz
   have HT:Hid (zAh B32 Q=a / b∧rr=a % b):=by
    have h1:=HV.o;rw [cR,cR,HVA.o] at h1;have h2:=Nat.div_mod_unique (a:=a) (b:=b) (c:=rr) (d:=zAh B32 Q) za;have h3:=h2.2 ⟨by rw [h1,aU b];omega,hrr⟩
    exact ⟨h3.1.symm,h3.2.symm⟩
   go_wp2_with fail
   have hq2:=HQ.o;rw [←hq2];with_reducible refine (trim_a _ _ Q _ za (aC _) (by have:=hA.rd Q.length;rwa [bO] at this) hLt HT.o.1).mono ?_
   rintro e w' ⟨rfl,hn1,rfl⟩;clear hq2
   go_wp2_with fail
   have hnat:=natOf_c rr w' za;rw [HT.o.2] at hnat;rw [HT.o.2];with_reducible refine hnat.mono ?_
   rintro e w'' ⟨A2,c2,rfl,hn2,hb2'⟩;clear hnat;go_wp2;go_ret2
   exact ⟨_,_,A2,c2,rfl,hn1.below hb2',hn2,hbw.trans (hb2'.mono hbw.size),hwg,cY hA.lt hb2'.size⟩
  ·obtain ⟨j,rfl⟩:∃ j,gk=j+1:=⟨gk - 1,za⟩
   obtain rfl:z=(j:Int):=za;clear hz;have hj:j<l.length:=za;obtain ⟨b1,o1,hA0,hb,hcl⟩:=(h.below hbw).at_ za;subst hA0;have hc0:=hcl j hj;rw [zBm] at hc0;have hx:l[j]<4294967296:=hl.get j hj;have hjQ:j<Q.length:=by have:=HQ.o;omega
   have hc1:=hA.cell j hjQ;have hf1:=hA.frozen j;clear hcl;obtain ⟨X,hX⟩:∃ X,X=l[j]+4294967296*rr:=⟨_,rfl⟩;have hor:bits .or .u64 ((rr:Int)*4294967296) (l[j]:Int)=(X:Int):=by rw [or_u64' l[j] rr hx za,hX];simp
   have hX1:X≤18446744073709551615:=za
   have hq0:X / b≤4294967295:=by
    have:X / b<B32:=quot_lt (B:=B32) (by rw [hX];exact next_lt (B:=B32) hrr hx)
    rw [zCa] at this;omega
   have hq1:(X:Int) / (b:Int)≤4294967295:=by rw [←Int.natCast_ediv];omega
   have hq2:0≤(X:Int) / (b:Int):=Int.ediv_nonneg (cS X) (cS b);have HX:=zq hX;clear hX hq0;go_wp2
   go_roundg j
   case measure=>omega
   case rel=>exact DwRel.step hj hrr hA HQ.o hLt hb2 HV.o hbw hwg HX.o hx rfl rfl rfl
def TxR (w:World) (n0:Nat) (m:Nat) (av ov:Value) (wr:World):Prop :=
 ∃ A c r v,v=ov∧av=ntV A c m∧Nt wr A c m∧(zAd B32 m).length≤100000000∧OwnB wr w.heap.size v r∧RevD n0 m r∧(m=0→∃ h:r≠[],(r.getLast h).toNat≠48)∧Below w.heap.size w wr
def TxR2 (w:World) (n0:Nat) (gq c q:Nat) (m:Nat) (ov nv kv:Value) (wr:World):Prop :=
 ∃ (k n:Nat) (r:List UInt8) (v:Value),v=ov∧k+m=9∧kv = .int .i64 (k:Int)∧nv = .int .u64 (n:Int)∧TxI n0 q n k r∧Nt wr (some ⟨gq,0,none⟩) c q∧OwnB wr w.heap.size v r∧v.ownBlock≠some gq∧gq<wr.heap.size∧Below w.heap.size w wr
def TxR3 (w:World) (r:List UInt8) (g c:Nat) (m:Nat) (iv jv:Value) (wr:World):Prop :=
 ∃ (i:Nat) (z:Int) (L:List UInt8),i+m=r.length∧z=(r.length:Int) - 1 - i∧iv = .int .i64 (i:Int)∧jv = .int .i64 z∧Swp r i L∧OwnB wr w.heap.size (.slice (some ⟨g,0,none⟩) r.length c) L∧Below w.heap.size w wr
theorem Nt.push {w w':World} {g c n:Nat} {o:Obj} {row:Option Nat} (h:Nt w (some ⟨g,0,none⟩) c n) (hg:(w.alloc o).grownBy w' row) (hne:row≠some g):Nt w' (some ⟨g,0,none⟩) c n:=by
 have h2:=h.alloc o;refine ⟨fun hl=>?_,h2.cap⟩
 obtain ⟨b,o2,e,hc⟩:=h2.rd hl
 injection e with e
 injection e with e3 e4 _
 subst e3;subst e4;exact ⟨g,0,rfl,fun i hi=>hg.cell (hc i hi) fun e=>hne e.symm⟩
theorem text_zero (A:Option Addr) (c:Nat) (w:World):Calls Tryz.prog 115 #[ntV A c 0] w (zAe (.string (digB 0)) w):=by
 rw [digB_zero]
 go_enter Tryz.func115,Tryz.ntmps115
 go_wp2;go_ret
 exact zAe.mk rfl (aN _ _)
theorem text_c (A:Option Addr) (c n:Nat) (w:World) (h:Nt w A c n) (hn:(zAd B32 n).length≤100000000):Calls Tryz.prog 115 #[ntV A c n] w (zAe (.string (digB n)) w):=by
 by_cases h0:n=0
 ·subst h0
  exact text_zero A c w
 have hl:=pos_len (n:=n) za;have hlb:(((zAd B32 n).length:Int) == 0)=false:=by simp;intro e;rw [e] at hl;simp at hl
 have HN:=zq hn;have HN0:=zq h0;have HNT:=zq h;clear hl hn h0 h
 go_enter Tryz.func115,Tryz.ntmps115
 go_wp2
 go_loopg [0,3] n (TxR w n)
 case atStart=>exact ⟨A,c,[],_,rfl,rfl,HNT.o,HN.o,zAE.nil _ _ _ _ _,RevD.start n,fun e=>absurd e HN0.o,aN _ _⟩
 clear hlb
 case round =>
  obtain ⟨A',c',r,v,rfl,rfl,hnt,hlm,hown,hrev,hfin,hb⟩:=hrel
  by_cases hm:gk=0
  case neg =>
   have hl2:(0:Int)<((zAd B32 gk).length:Int):=wl_pos hm;have HDV:Hid (Calls Tryz.prog 165 #[ntV A' c' gk,.int .u64 1000000000] wr (GivesNNf (gk / 1000000000) (gk % 1000000000) wr)):=divWord_f A' c' gk 1000000000 wr hnt za za za;have HRV:=zq hrev;have HM:=zq hm;have HLM:=zq hlm;have HOW:=zq hown;have HB:=zq hb;clear hnt hlm hown hrev hfin hb hm
   go_wp2_with fail
   with_reducible refine HDV.o.mono ?_
   rintro e w1 ⟨gq,c5,A6,c6,rfl,h5,h6,hb1,hgq,hgl⟩
   have HNE:Hid (v.ownBlock≠some gq):=fun e=>by
    have:=(aO HOW.o gq e).2;omega
   have hr1:(zAd B32 (gk % 1000000000)).length≤2:=cU (len_powB (k:=1) zAo (by have:=bC gk (show 0<1000000000 by decide);rw [zCa];omega)) za
   have HSM:=zq (zCu A6 c6 (gk % 1000000000) w1 h6 hr1);have HTX:=zq (TxI.start HRV.o HM.o);have HQ:Hid (gk / 1000000000<gk):=Nat.div_lt_self (Nat.pos_of_ne_zero HM.o) zc;have hql:(zAd B32 (gk / 1000000000)).length≤100000000:=cU (zAI zAo (Nat.div_le_self _ _)) HLM.o;have HQL:=zq hql;clear hr1 hql;generalize gk / 1000000000=q at *;generalize gk % 1000000000=n1 at *
   go_wp2_with fail
   with_reducible refine HSM.o.mono ?_
   rintro e w2 ⟨rfl,nd,rfl⟩;have HOW2:=zq ((HOW.o.below hb1).drewN nd);have HB2:=zq (zAc (zAa HB.o hb1) nd);have HNT2:=zq (h5.drewN nd);have HGL:Hid (gq<(w1.drewN nd).heap.size):=hgl;clear hb1 h5 h6 HSM HOW HB HRV HLM hl2 hgq hgl;go_wp2
   go_loopg [3,6,8] 9 (TxR2 w n gq c5 q)
   case atStart=>exact ⟨0,n1,r,_,rfl,rfl,rfl,rfl,HTX.o,HNT2.o,HOW2.o,HNE.o,HGL.o,HB2.o⟩
   clear HTX HNT2 HOW2 HB2 HNE HGL
   case round =>
    obtain ⟨k,n2,r2,v2,rfl,hkm,rfl,rfl,htx,hnt,how,hne,hgl,hb⟩:=hrel;have HNE:=zq hne;have HGL:=zq hgl;have HKM:=zq hkm;have HTX:=zq htx;have HNT:=zq hnt;have HOW:=zq how;have HB:=zq hb;have hws:w.heap.size≤wr.heap.size:=hb.size
    have hn9:n2≤1000000000:=by
     have h1:=htx.lt;have h2:10 ^ (9 - k)≤10 ^ 9:=bP zc za;have h3:(10:Nat) ^ 9=1000000000:=zc;omega
    clear hkm htx hnt how hb hne hgl
    by_cases hgo:k<9∧(0<q∨0<n2)
    ·obtain ⟨hk9,hqn⟩:=hgo
     have HTS:=zq (HTX.o.step hk9 hqn)
     have hrl:r2.length≤1000000000:=by
      have h1:=rev_len HTX.o.rev (by
       rcases hqn with h | h
       ·exact cY (cZ h (Nat.pow_pos zc)) (cX _ _)
       ·exact cY h (Nat.le_add_left _ _)) HN.o
      omega
     have hgt:((0:Int)<((zAd B32 q).length:Int)∧¬ zAd B32 q=[])∨((zAd B32 q).length=0∧decide (0<n2)=true∧0<n2):=by
      by_cases hq:q=0
      ·exact .inr ⟨wl_zero hq,cM za,za⟩
      ·exact .inl ⟨wl_pos hq,fun e=>hq ((zCw zAo).1 e)⟩
     obtain ⟨ch,hch⟩:∃ ch,ch=UInt8.ofNat (48+n2 % 10):=⟨_,rfl⟩
     have HNEW:Hid (∀ W:World,(W.alloc (.cells #[.int .u8 (48+(n2:Int) % 10)] 5)).heap[W.heap.size]?=some (.cells (encB ch).toArray 5 (0,0))):=fun W=>by
      have e:(ch.toNat:Int)=48+(n2:Int) % 10:=by rw [hch,dig_one (n2 % 10) za];omega
      rw [bZ]
      show some (Obj.cells #[Value.int .u8 (48+(n2:Int) % 10)] 5 (0,0))=some (Obj.cells #[Value.int .u8 (ch.toNat:Int)] 5 (0,0))
      rw [e]
     rw [←hch] at HTS;clear hqn HTX hch
     rcases hgt with ⟨hgt,hgt2⟩ | ⟨hgt,hgt2,hgt3⟩
     all_goals
      go_wp2_with (at_builtin;refine zBF _ _ _ elB rfl rfl w.heap.size v2 r2 rfl (HOW.o.alloc _) wr.heap.size 1 ch rfl (HNEW.o wr) rfl zx zm za ze ?_;intro A1 c1 w4 hown4 hg4 hb4 hor4)
      have HO4:=zq hown4;have HB4:=zq ((HB.o.alloc hws _).trans hb4);have HN4:Hid (Nt w4 (some ⟨gq,0,none⟩) c5 q):=Nt.push HNT.o hg4 HNE.o
      have HGL4:Hid (gq<w4.heap.size):=by
       have h1:=hg4.size;have h2:=HGL.o;simp at h1
       show gq<w4.heap.size
       omega
      have HNE4:Hid ((Value.slice A1 (r2.length+1) c1).ownBlock≠some gq):=by
       rcases hor4 with h | h
       ·show _≠_;rw [h];exact HNE.o
       ·show _≠_
        rw [h];intro e
        injection e with e
        have:=HGL.o;simp at e
        omega
      clear hown4 hg4 hb4 hor4;go_wp2
      go_roundg (gk - 1)
      case measure=>have:=HKM.o;omega
      case rel=>exact ⟨k+1,n2 / 10,_,_,rfl,by have:=HKM.o;omega,zi,by first | rfl | go_num,HTS.o,HN4.o,HO4.o,HNE4.o,HGL4.o,HB4.o⟩
    ·have HTD:=zq (HTX.o.done (by have:=HKM.o;omega))
     have hx:(¬ (k:Int)<9)∨((k:Int)<9∧(zAd B32 q).length=0∧n2=0):=by
      by_cases hk9:k<9
      ·exact .inr ⟨za,wl_zero za,za⟩
      ·exact .inl za
     clear hgo HTX
     rcases hx with hx | ⟨hx,hx2,rfl⟩
     all_goals
      go_wp2
      go_roundg q
      case measure=>exact HQ.o
      case rel=>exact ⟨some ⟨gq,0,none⟩,c5,r2,_,rfl,rfl,HNT.o,HQL.o,HOW.o,HTD.o.1,HTD.o.2,HB.o⟩
  case pos =>
   subst hm;have HRD:=zq (rev_digits hrev (hfin rfl))
   have hrl:r.length≤1000000001:=by
    have h1:=digB_len HN.o;rw [digB_size,←HRD.o,List.length_reverse] at h1;omega
   have hr0:0<r.length:=List.length_pos_iff.2 (hfin rfl).1
   obtain ⟨g,cap,rfl⟩:∃ g cap,v = .slice (some ⟨g,0,none⟩) r.length cap:=by
    rcases hown.2 with ⟨_,h⟩ | ⟨g,cap,cur,h,_⟩
    ·omega
    ·exact ⟨g,cap,h⟩
   have HOW:=zq hown;have HB:=zq hb;have hl2:(zAd B32 0).length=0:=wl_zero rfl;clear hnt hlm hown hrev hfin hb;go_wp2
   go_loopg [9,10] r.length (TxR3 w r g cap)
   case atStart=>exact ⟨0,(r.length:Int) - 1,r,za,za,rfl,zi,Swp.start r,HOW.o,HB.o⟩
   clear HOW HB hl2
   case round =>
    obtain ⟨i,z,L,him,hz,rfl,rfl,hsw,how,hb⟩:=hrel;have HIM:=zq him;have HSW:=zq hsw;have HOW:=zq how;have HB:=zq hb;have hLl:L.length=r.length:=hsw.1;clear him hsw how hb
    by_cases hij:(i:Int)<z
    ·obtain ⟨j,rfl⟩:∃ j:Nat,z=(j:Int):=⟨z.toNat,za⟩
     have hij2:i+j+1=r.length:=za;obtain ⟨hi1,hj1,hga,hgb⟩:=HSW.o.get hij2 za;obtain ⟨ci,fi⟩:=HOW.o.get hLl.symm i hi1;obtain ⟨cj,fj⟩:=HOW.o.get hLl.symm j hj1;have HSS:=zq (HSW.o.step hij2 za hgb hga);have HOS:=zq ((HOW.o.put hLl.symm i L[j]).put (by simpa using hLl.symm) j L[i])
     have HBS:Hid (Below w.heap.size w ((wr.setCell ⟨g,i,none⟩ (.int .u8 (L[j].toNat:Int))).setCell ⟨g,j,none⟩ (.int .u8 (L[i].toNat:Int)))):=(HB.o.setCell HOW.o.lo _).setCell HOW.o.lo _;have hne:¬ (i=j):=za;have y1:(i:Int)<(r.length:Int):=za;have y2:(j:Int)<(r.length:Int):=za;have HIJ:=zq hij2;clear hga hgb hz hij2;generalize L[i]=bi at *;generalize L[j]=bj at *;go_upto_region 16 with fail
     go_region
     go_wp2
     go_roundg (gk - 1)
     case measure=>have:=HIM.o;omega
     case rel=>exact ⟨i+1,(j:Int) - 1,_,by have:=HIM.o;omega,by have:=HIJ.o;omega,zi,zi,HSS.o,HOS.o.drewN 1,zAc HBS.o 1⟩
    ·have hz2:r.length≤2*i+1:=by have:=HIM.o;omega
     have HE:=zq ((HSW.o.done hz2).trans HRD.o)
     have hcv:=run_convert_bytes_back (P:=Tryz.prog) wr 131 9 5 ⟨g,0,none⟩ cap L Tryz.underlying131 Tryz.underlying5 Tryz.underlying9 (fun q hq=>by
      rw [addN,aK];exact (HOW.o.get hLl.symm q hq).1)
     rw [hLl,HE.o] at hcv;have hcv2:(convert 131 9 (.slice (some ⟨g,0,none⟩) r.length cap)).run Tryz.prog wr = .ok (.string (digB n)) wr:=hcv;clear hcv;go_wp2;go_ret
     exact zAe.mk rfl HB.o
end Go.Proofs.YtieoifkdobcpiaaGreatDoor
namespace Dw
open Go Go.RowKit
open Go.ChangeMaps (setBlock)
def PMap {κ:Type} [DecidableEq κ] (mk:κ→Value) (w:World) (r:Nat) (L:List (κ×Value)):Prop :=
 ∃ (es:Array MapEntry) (clk:Nat),w.heap[r]?=some (.map es clk)∧es.toList.map (fun e=>(e.key,e.val))=L.map (fun p=>(mk p.1,p.2))∧(L.map (·.1)).Nodup∧(es.toList.map (·.born)).Nodup∧∀ e∈es.toList,e.born<clk
section
variable {κ:Type} [DecidableEq κ] {mk:κ→Value} {w w':World} {r:Nat} {L:List (κ×Value)}
theorem PMap.is (h:PMap mk w r L):zAq mk w r (zAP L):=by
 obtain ⟨es,clk,h1,h2,_⟩:=h;exact ⟨es,clk,L,h1,h2,fun _=>rfl⟩
theorem PMap.lt (h:PMap mk w r L):r<w.heap.size:=h.is.lt
theorem PMap.keep (h:PMap mk w r L) (hk:w'.heap[r]?=w.heap[r]?):PMap mk w' r L:=by
 obtain ⟨es,clk,hr,rest⟩:=h;exact ⟨es,clk,hk.trans hr,rest⟩
theorem PMap.below (h:PMap mk w r L) (hb:Below w.heap.size w w'):PMap mk w' r L:=h.keep (hb.block r h.lt)
theorem PMap.new (mk:κ→Value) (w:World):PMap mk (w.alloc (.map #[] 0)) w.heap.size [] :=
 ⟨#[],0,bZ w _,rfl,List.nodup_nil,List.nodup_nil,fun _ h=>qh⟩
theorem PMap.nodup (h:PMap mk w r L):(L.map (·.1)).Nodup:=by
 obtain ⟨_,_,_,_,h,_⟩:=h;exact h
def putE (L:List (κ×Value)) (k:κ) (v:Value):List (κ×Value):=if (zAP L k).isSome then L.map (fun p=>if p.1=k then (k,v) else p) else L++[(k,v)]
def delE (L:List (κ×Value)) (k:κ):List (κ×Value):=L.filter fun p=>decide (p.1≠k)
theorem lookE_none {L:List (κ×Value)} {k:κ}:zAP L k=none↔∀ p∈L,p.1≠k:=by
 unfold zAP;rw [Option.map_eq_none_iff,List.find?_eq_none]
 constructor
 ·exact fun h p hp e=>h p hp (by simp [e])
 ·exact fun h p hp e=>h p hp (by simpa using (eT e).symm)
theorem lookE_mem {L:List (κ×Value)} (hn:(L.map (·.1)).Nodup) {k:κ} {v:Value}:zAP L k=some v↔(k,v)∈L:=by
 induction L with
 | nil=>simp [zAP]
 | cons a t ih =>
  rw [dT] at hn;obtain ⟨h1,h2⟩:=List.nodup_cons.1 hn
  by_cases he:k=a.1
  ·subst he
   have e:zAP (a::t) a.1=some a.2:=by simp [zAP]
   rw [e]
   constructor
   ·intro h
    injection h with h
    subst h;exact aQ
   ·intro h
    rcases List.mem_cons.1 h with h | h
    ·rw [←h]
    ·exact absurd (eN (f:=(·.1)) h) h1
  ·have e:zAP (a::t) k=zAP t k:=by simp [zAP,he]
   rw [e,ih h2,List.mem_cons]
   constructor
   ·exact .inr
   ·rintro (h | h)
    ·exact absurd (by rw [←h]) he
    ·exact h
theorem putE_keys {L:List (κ×Value)} (hn:(L.map (·.1)).Nodup) (k:κ) (v:Value):((putE L k v).map (·.1)).Nodup:=by
 unfold putE
 split
 ·have:(L.map fun p=>if p.1=k then (k,v) else p).map (·.1)=L.map (·.1):=by
   rw [List.map_map];refine List.map_congr_left fun p _=>?_
   by_cases hp:p.1=k
   ·simp [hp]
   ·simp [hp]
  rw [this];exact hn
 ·next h =>
  rw [eE,List.nodup_append];refine ⟨hn,zd,fun a ha b hb=>?_⟩
  simp at hb
  subst hb;obtain ⟨p,hp,rfl⟩:=List.mem_map.1 ha;exact lookE_none.1 zv p hp
theorem lookE_put (L:List (κ×Value)) (k:κ) (v:Value) (k':κ):zAP (putE L k v) k'=if k'=k then some v else zAP L k':=by
 unfold putE
 split
 ·next h =>
  induction L with
  | nil=>simp [zAP] at h
  | cons a t ih =>
   by_cases ha:a.1=k
   ·by_cases hk:k'=k
    ·subst hk;simp [zAP,ha]
    ·have e:zAP ((a::t).map fun p=>if p.1=k then (k,v) else p) k'=zAP (t.map fun p=>if p.1=k then (k,v) else p) k':=by simp [zAP,ha,hk]
     have e2:zAP (a::t) k'=zAP t k':=by
      have:k'≠a.1:=fun e=>hk (e.trans ha)
      simp [zAP,this]
     rw [e,e2,aD hk]
     have key:∀ (t:List (κ×Value)),zAP (t.map fun p=>if p.1=k then (k,v) else p) k'=zAP t k':=fun t=>by
      induction t with
      | nil=>rfl
      | cons b t ih =>
       by_cases hb:b.1=k
       ·have h9:k'≠b.1:=fun e=>hk (e.trans hb)
        simp only [dT,hb,dR];simp [zAP,hk,h9]
        simpa [zAP] using ih
       ·by_cases hb2:k'=b.1
        ·simp [zAP,hb,hb2]
        ·simp [zAP,hb,hb2]
         simpa [zAP] using ih
     exact key t
   ·have e1:zAP (a::t) k=zAP t k:=by
     have:k≠a.1:=fun e=>ha e.symm
     simp [zAP,this]
    rw [e1] at h;have ih:=ih h
    by_cases hka:k'=a.1
    ·have:k'≠k:=fun e=>ha (hka▸e)
     simp [zAP,ha,hka]
    ·have e3:zAP ((a::t).map fun p=>if p.1=k then (k,v) else p) k'=zAP (t.map fun p=>if p.1=k then (k,v) else p) k':=by simp [zAP,ha,hka]
     have e4:zAP (a::t) k'=zAP t k':=by simp [zAP,hka]
     rw [e3,e4,ih]
 ·next h=>exact lookE_push zv k'
end
section
variable {κ:Type} [DecidableEq κ]
theorem modify_map {v:Value} {k:κ}:∀ {L:List (κ×Value)} {i:Nat},(L.map (·.1)).Nodup→(L[i]?).map (·.1)=some k→L.modify i (fun _=>(k,v))=L.map (fun p=>if p.1=k then (k,v) else p)
 | [],_,_,h=>by simp at h
 | a::t,0,hn,h=>by
  rw [dT] at hn;obtain ⟨h1,h2⟩:=List.nodup_cons.1 hn;have ha:a.1=k:=zv
  have:t.map (fun p=>if p.1=k then (k,v) else p)=t:=by
   conv=>rhs;rw [←List.map_id t]
   refine List.map_congr_left fun p hp=>?_
   have:p.1≠k:=fun e=>h1 (by rw [ha,←e];exact eN (f:=(·.1)) hp)
   simp [this]
  simp [ha,this]
 | a::t,i+1,hn,h=>by
  rw [dT] at hn;obtain ⟨h1,h2⟩:=List.nodup_cons.1 hn;have ih:=modify_map (v:=v) (k:=k) (L:=t) (i:=i) h2 zv
  have ha:a.1≠k:=fun e=>by
   have h9:(t[i]?).map (·.1)=some k:=zv;obtain ⟨p,hp,hpk⟩:=Option.map_eq_some_iff.1 h9;exact h1 (by rw [e,←hpk];exact eN (f:=(·.1)) (List.mem_of_getElem? hp))
  simp [ha,ih]
theorem erase_map {k:κ}:∀ {L:List (κ×Value)} {i:Nat},(L.map (·.1)).Nodup→(L[i]?).map (·.1)=some k→L.eraseIdx i=delE L k
 | [],_,_,h=>by simp at h
 | a::t,0,hn,h=>by
  rw [dT] at hn;obtain ⟨h1,h2⟩:=List.nodup_cons.1 hn;have ha:a.1=k:=zv
  have:delE t k=t:=List.filter_eq_self.2 fun p hp=>by
   have:p.1≠k:=fun e=>h1 (by rw [ha,←e];exact eN (f:=(·.1)) hp)
   simpa using this
  have e:delE (a::t) k=delE t k:=by simp [delE,ha]
  rw [e,this];rfl
 | a::t,i+1,hn,h=>by
  rw [dT] at hn;obtain ⟨h1,h2⟩:=List.nodup_cons.1 hn;have ih:=erase_map (k:=k) (L:=t) (i:=i) h2 zv
  have ha:a.1≠k:=fun e=>by
   have h9:(t[i]?).map (·.1)=some k:=zv;obtain ⟨p,hp,hpk⟩:=Option.map_eq_some_iff.1 h9;exact h1 (by rw [e,←hpk];exact eN (f:=(·.1)) (List.mem_of_getElem? hp))
  have e:delE (a::t) k=a::delE t k:=by simp [delE,ha]
  rw [e,List.eraseIdx_cons_succ,ih]
theorem delE_none {L:List (κ×Value)} {k:κ} (h:zAP L k=none):delE L k=L:=List.filter_eq_self.2 fun p hp=>by simpa using lookE_none.1 h p hp
end
section
variable {P:Program} {κ:Type} [DecidableEq κ] {mk:κ→Value} {T K E:TypeId} {w:World} {r:Nat} {L:List (κ×Value)}
theorem run_update_pm (hT:P.underlying T=some (.map K E)) (hK:KeyT P K mk) (h:PMap mk w r L) (k:κ) (v:Value) :
  ∃ w',(Instr.mapUpdate T (.map (some r)) (mk k) v).run P w = .ok () w'∧PMap mk w' r (putE L k v)∧w.grownBy w' (some r)∧w'.heap.size=w.heap.size:=by
 obtain ⟨es,clk,hr,hL,hn,hb,hc⟩:=h;have hrl:r<w.heap.size:=(Array.getElem?_eq_some_iff.1 hr).1;obtain ⟨d,hd,hs⟩:=hK.same;obtain ⟨o,h1,h2,h3⟩:=zDa hs k es.toList L 0 hL;have hg:(getObj r).run P w = .ok (.map es clk) w:=qg;have hset:∀ (es':Array MapEntry) (c':Nat),(setObj r (.map es' c')).run P w = .ok () { w with heap:=w.heap.setIfInBounds r (.map es' c') }:=fun es' c'=>by simp [setObj,Sem.run,hr]
 have hfk:(Instr.findKey K (mk k) es.toList).run P w = .ok o w:=by
  simp [Instr.findKey,run_underlying hd,h1]
 have hgrow:∀ (es':Array MapEntry) (c':Nat),w.grownBy { w with heap:=w.heap.setIfInBounds r (.map es' c') } (some r):=fun es' c' =>
  ⟨rfl,rfl,rfl,zd,fun i hi hne=>by simp only [Array.getElem?_setIfInBounds];rw [aD (fun e=>hne (by rw [e]))]⟩
 have hget:∀ (es':Array MapEntry) (c':Nat),({ w with heap:=w.heap.setIfInBounds r (.map es' c') }:World).heap[r]?=some (.map es' c'):=fun es' c'=>by
  simp [hrl]
 have hlen:es.size=L.length:=yn
 cases o with
 | none =>
  have hnone:zAP L k=none:=qp;have hp:putE L k v=L++[(k,v)]:=by unfold putE;rw [hnone];rfl
  refine ⟨_,?_,⟨_,_,hget (es.push { key:=mk k,val:=v,born:=clk }) (clk+1),?_,?_,?_,?_⟩,hgrow _ _,zd⟩
  ·simp [Instr.mapUpdate,run_underlying hT,hg,hK.chk,hfk,hset]
  ·rw [hp];simp [hL]
  ·exact putE_keys hn k v
  ·simp only [Array.toList_push,eE,dT,List.map_nil]
   rw [List.nodup_append];refine ⟨hb,zd,fun a ha b hb'=>?_⟩
   simp at hb'
   subst hb';obtain ⟨e,he,rfl⟩:=List.mem_map.1 ha;exact Nat.ne_of_lt (hc e he)
  ·intro e he
   simp only [Array.toList_push,List.mem_append,eK] at he
   rcases he with he | rfl
   ·exact Nat.lt_succ_of_lt (hc e he)
   ·exact Nat.lt_succ_self _
 | some p =>
  obtain ⟨i,v0⟩:=p;obtain ⟨_,h5,h6,h7⟩:=h3 i v0 rfl;simp only [Nat.sub_zero] at h5 h6 h7;have hi:i<es.size:=za;have hsome:(zAP L k).isSome=true:=by rw [←h2];rfl
  have hp:putE L k v=L.modify i fun _=>(k,v):=by unfold putE;rw [aF hsome,modify_map hn h6]
  have hkey:es[i].key=mk k:=by
   have e1:(es.toList.map fun e=>(e.key,e.val))[i]?=(L.map fun p=>(mk p.1,p.2))[i]?:=by rw [hL]
   rw [List.getElem?_map,List.getElem?_map,List.getElem?_eq_getElem h5,List.getElem?_eq_getElem yi] at e1;rw [List.getElem?_eq_getElem h5] at h6;simp only [dX,dV,Prod.mk.injEq] at e1 h6;rw [←h6];simpa using e1.1
  have hstay:∀ x,(Instr.keyThatStays (mk k) (mk k)).run P x = .ok (mk k) x:=fun x=>by
   simp [Instr.keyThatStays,hK.bits]
  have hborn:((es.modify i fun e=>{ e with key:=mk k,val:=v }).toList.map (·.born))=es.toList.map (·.born):=by
   apply List.ext_getElem?
   intro n;rw [List.getElem?_map,List.getElem?_map,Array.toList_modify,List.getElem?_modify]
   by_cases hn:i=n
   ·subst hn
    rw [List.getElem?_eq_getElem yi];simp
   ·simp only [hn,dO]
    cases es.toList[n]?<;>rfl
  refine ⟨_,?_,⟨_,_,hget (es.modify i fun e=>{ e with key:=mk k,val:=v }) clk,?_,?_,?_,?_⟩,hgrow _ _,zd⟩
  ·simp [Instr.mapUpdate,run_underlying hT,hg,hK.chk,hfk,hi,hkey,hstay,hset]
  ·rw [hp]
   apply List.ext_getElem?
   intro n;have e1:(es.toList.map fun e=>(e.key,e.val))[n]?=(L.map fun p=>(mk p.1,p.2))[n]?:=by rw [hL]
   rw [List.getElem?_map,List.getElem?_map] at e1;rw [List.getElem?_map,List.getElem?_map,List.getElem?_modify,Array.toList_modify,List.getElem?_modify]
   by_cases hn:i=n
   ·subst hn
    rw [List.getElem?_eq_getElem h5,List.getElem?_eq_getElem yi];simp
   ·simp only [hn,dO]
    cases hx:es.toList[n]?<;>cases hy:L[n]?<;>simp_all
  ·exact putE_keys hn k v
  ·rw [hborn];exact hb
  ·intro e he
   have:e.born∈(es.modify i fun e=>{ e with key:=mk k,val:=v }).toList.map (·.born):=eN (f:=(·.born)) he
   rw [hborn] at this;obtain ⟨e',he',e2⟩:=List.mem_map.1 this;rw [←e2];exact hc e' he'
theorem run_delete_pm {ty:TypeId} (hT:P.underlying T=some (.map K E)) (hK:KeyT P K mk) (h:PMap mk w r L) (k:κ) :
  ∃ w',(Builtin.delete_ #[T,K] ty #[.map (some r),mk k]).run P w = .ok (.tuple #[]) w'∧PMap mk w' r (delE L k)∧w.grownBy w' (some r)∧w'.heap.size=w.heap.size:=by
 obtain ⟨es,clk,hr,hL,hn,hb,hc⟩:=h;have hrl:r<w.heap.size:=(Array.getElem?_eq_some_iff.1 hr).1;obtain ⟨d,hd,hs⟩:=hK.same;obtain ⟨o,h1,h2,h3⟩:=zDa hs k es.toList L 0 hL;have hg:(getObj r).run P w = .ok (.map es clk) w:=qg;have hset:∀ (es':Array MapEntry) (c':Nat),(setObj r (.map es' c')).run P w = .ok () { w with heap:=w.heap.setIfInBounds r (.map es' c') }:=fun es' c'=>by simp [setObj,Sem.run,hr]
 have hfk:(Instr.findKey K (mk k) es.toList).run P w = .ok o w:=by
  simp [Instr.findKey,run_underlying hd,h1]
 have hgrow:∀ (es':Array MapEntry) (c':Nat),w.grownBy { w with heap:=w.heap.setIfInBounds r (.map es' c') } (some r):=fun es' c' =>
  ⟨rfl,rfl,rfl,zd,fun i hi hne=>by simp only [Array.getElem?_setIfInBounds];rw [aD (fun e=>hne (by rw [e]))]⟩
 have hget:∀ (es':Array MapEntry) (c':Nat),({ w with heap:=w.heap.setIfInBounds r (.map es' c') }:World).heap[r]?=some (.map es' c'):=fun es' c'=>by
  simp [hrl]
 have hlen:es.size=L.length:=yn
 cases o with
 | none =>
  have hnone:zAP L k=none:=qp;refine ⟨_,?_,⟨es,clk,hget _ _,by rw [delE_none hnone];exact hL,by rw [delE_none hnone];exact hn,hb,hc⟩,hgrow _ _,zd⟩
  simp [Builtin.delete_,run_underlying hT,hg,hK.chk,hfk,hset]
 | some p =>
  obtain ⟨i,v0⟩:=p;obtain ⟨_,h5,h6,h7⟩:=h3 i v0 rfl;simp only [Nat.sub_zero] at h5 h6 h7;have hi:i<es.size:=za
  have he:(es.eraseIdxIfInBounds i).toList=es.toList.eraseIdx i:=by
   rw [Array.eraseIdxIfInBounds,dif_pos hi];simp
  have hdl:=erase_map hn h6;refine ⟨_,?_,⟨es.eraseIdxIfInBounds i,clk,hget _ _,?_,?_,?_,?_⟩,hgrow _ _,zd⟩
  ·simp [Builtin.delete_,run_underlying hT,hg,hK.chk,hfk,hset]
  ·rw [he,←hdl,Go.ChangeMaps.map_eraseIdx,Go.ChangeMaps.map_eraseIdx,hL]
  ·exact hn.sublist (List.Sublist.map _ List.filter_sublist)
  ·rw [he,Go.ChangeMaps.map_eraseIdx]
   exact hb.sublist (List.eraseIdx_sublist _ _)
  ·intro e hm
   rw [he] at hm;exact hc e (List.mem_of_mem_eraseIdx hm)
def zAU (mk:κ→Value) (w:World) (it r:Nat) (L R:List (κ×Value)):Prop :=
 ∃ (es:Array MapEntry) (clk since c0:Nat) (seen:Array Nat),w.heap[r]?=some (.map es clk)∧es.toList.map (fun e=>(e.key,e.val))=L.map (fun p=>(mk p.1,p.2))∧(L.map (·.1)).Nodup∧(es.toList.map (·.born)).Nodup∧(∀ e∈es.toList,e.born<clk) ∧
  w.heap[it]?=some (.mapIter (some r) since seen c0)∧(∀ e∈es.toList,e.born<since)∧since≤c0∧since≤clk∧(leftOf es seen).toList.map (fun e=>(e.key,e.val))=R.map (fun p=>(mk p.1,p.2))
end
theorem left_push {es:Array MapEntry} {seen:Array Nat} (hb:(es.toList.map (·.born)).Nodup) {e:MapEntry} (he:e∈(leftOf es seen).toList) :
  ∃ A B,(leftOf es seen).toList=A++e::B∧(leftOf es (seen.push e.born)).toList=A++B:=by
 obtain ⟨A,B,hAB⟩:=List.append_of_mem he;refine ⟨A,B,hAB,?_⟩
 have e1:(leftOf es (seen.push e.born)).toList=(leftOf es seen).toList.filter fun x=>decide (x.born≠e.born):=by
  unfold leftOf;rw [Array.toList_filter,Array.toList_filter,List.filter_filter];refine List.filter_congr fun x _=>?_
  rw [Array.contains_push]
  by_cases hx:x.born=e.born
  ·simp [hx]
  ·simp [hx]
 have hn:((leftOf es seen).toList.map (·.born)).Nodup:=by
  unfold leftOf;rw [Array.toList_filter];exact hb.sublist (List.Sublist.map _ List.filter_sublist)
 rw [e1,hAB,dJ,eG zd];rw [hAB,eE,dT,List.nodup_append] at hn;obtain ⟨_,h2,h3⟩:=hn;obtain ⟨h4,_⟩:=List.nodup_cons.1 h2
 congr 1
 ·exact List.filter_eq_self.2 fun x hx=>by
   have:=h3 x.born (eN (f:=(·.born)) hx) e.born aQ
   simpa using this
 ·exact List.filter_eq_self.2 fun x hx=>by
   have:x.born≠e.born:=fun h=>h4 (by rw [←h];exact eN (f:=(·.born)) hx)
   simpa using this
section
variable {P:Program} {κ:Type} {mk:κ→Value} {T K E:TypeId} {w w':World} {r it:Nat} {L R:List (κ×Value)}
theorem zAU.map [DecidableEq κ] (h:zAU mk w it r L R):PMap mk w r L:=by
 obtain ⟨es,clk,since,c0,seen,h1,h2,h3,h4,h5,_⟩:=h;exact ⟨es,clk,h1,h2,h3,h4,h5⟩
theorem zAU.lt (h:zAU mk w it r L R):it<w.heap.size:=by
 obtain ⟨es,clk,since,c0,seen,_,_,_,_,_,h6,_⟩:=h;exact (Array.getElem?_eq_some_iff.1 h6).1
theorem zAU.keep (h:zAU mk w it r L R) (h1:w'.heap[r]?=w.heap[r]?) (h2:w'.heap[it]?=w.heap[it]?):zAU mk w' it r L R:=by
 obtain ⟨es,clk,since,c0,seen,k1,a,b,c,d,k6,rest⟩:=h;exact ⟨es,clk,since,c0,seen,h1.trans k1,a,b,c,d,h2.trans k6,rest⟩
theorem zAU.below [DecidableEq κ] (h:zAU mk w it r L R) (hb:Below w.heap.size w w'):zAU mk w' it r L R:=h.keep (hb.block r h.map.lt) (hb.block it h.lt)
theorem zAU.start [DecidableEq κ] (hT:P.underlying T=some (.map K E)) (h:PMap mk w r L) :
  ∃ o,(Instr.range T (.map (some r))).run P w = .ok (.pointer (some ⟨w.heap.size,0,none⟩)) (w.alloc o)∧zAU mk (w.alloc o) w.heap.size r L L:=by
 obtain ⟨es,clk,h1,h2,h3,h4,h5⟩:=h;have hrl:r<w.heap.size:=(Array.getElem?_eq_some_iff.1 h1).1;refine ⟨_,run_range_map w T K E r es clk hT h1,es,clk,clk,clk,#[],(dN w _ r hrl).trans h1,h2,h3,h4,h5,bZ w _,h5,aC _,aC _,?_⟩
 have:(leftOf es #[]).toList=es.toList:=by
  unfold leftOf;rw [Array.toList_filter];exact List.filter_eq_self.2 fun _ _=>zd
 rw [this];exact h2
theorem zAU.next (h:zAU mk w it r L R) (hinj:∀ a b,mk a=mk b→a=b) (hne:it≠r) (ty:TypeId) :
  (R=[]∧(Instr.next (.pointer (some ⟨it,0,none⟩)) false ty).run P w = .ok (.tuple #[.bool false]) w) ∨
  ∃ p R' w',R.Perm (p::R')∧p∈L∧(Instr.next (.pointer (some ⟨it,0,none⟩)) false ty).run P w = .ok (.tuple #[.bool true,mk p.1,p.2]) w'∧(Instr.entry (.pointer (some ⟨it,0,none⟩))).run P w' = .ok (.tuple #[mk p.1,p.2]) w' ∧
   zAU mk w' it r L R'∧w.grownBy w' (some it)∧w'.heap.size=w.heap.size:=by
 obtain ⟨es,clk,since,c0,seen,h1,h2,h3,h4,h5,h6,h7,h8,h9,h10⟩:=h;have hit:it<w.heap.size:=(Array.getElem?_eq_some_iff.1 h6).1;have hrl:r<w.heap.size:=(Array.getElem?_eq_some_iff.1 h1).1
 rcases run_next_at (P:=P) w ty it r since c0 seen es clk h6 h1 h7 h8 with ⟨h0,hrun⟩ | ⟨e,he,w1,hw1,hrun⟩
 ·left
  refine ⟨?_,hrun⟩
  have:(leftOf es seen).toList=[]:=by
   have:(leftOf es seen).toList.length=0:=by simpa using h0
   exact List.length_eq_zero_iff.1 this
  rw [this] at h10;exact (List.map_eq_nil_iff.1 h10.symm)
 ·right
  obtain ⟨A,B,hA,hB⟩:=left_push h4 he;rw [hA,eE,dT] at h10;obtain ⟨R1,R2,hR,hR1,hR2⟩:=List.map_eq_append_iff.1 h10.symm;obtain ⟨p,R3,hR3,hp,hR4⟩:=List.map_eq_cons_iff.1 hR2
  injection hp with hk hv
  have hmem:e∈es.toList:=by
   unfold leftOf at he;rw [Array.toList_filter] at he;exact (List.mem_filter.1 he).1
  have hsz:w1.heap.size=w.heap.size:=by rcases hw1 with rfl | rfl<;>rfl
  have hsame:∀ j:Nat,w1.heap[j]?=w.heap[j]?:=by
   rcases hw1 with e | e
   ·intro j;rw [e]
   ·intro j;rw [e];rfl
  have hset:∀ k:Nat,(setBlock w1 it (.mapIter (some r) since (seen.push e.born) clk)).heap[k]?=if it=k then some (.mapIter (some r) since (seen.push e.born) clk) else w.heap[k]?:=fun k=>by
   show (w1.heap.setIfInBounds it _)[k]?=_
   rw [Array.getElem?_setIfInBounds]
   by_cases hk:it=k
   ·subst hk;simp [hsz,hit]
   ·rw [aD hk,aD hk];exact hsame k
  have hit2:=hset it;rw [aF rfl] at hit2;have hr2:=hset r;rw [aD hne] at hr2;refine ⟨p,R1++R3,_,?_,?_,hk▸hv▸hrun,?_,⟨es,clk,since,clk,seen.push e.born,hr2.trans h1,h2,h3,h4,h5,hit2,h7,h9,h9,?_⟩,⟨?_,?_,?_,?_,?_⟩,?_⟩
  ·rw [hR,hR3];exact List.perm_middle
  ·have hin:(mk p.1,p.2)∈L.map (fun p=>(mk p.1,p.2)):=by
    rw [←h2];exact List.mem_map.2 ⟨e,hmem,by rw [hk,hv]⟩
   obtain ⟨q,hq,hqe⟩:=List.mem_map.1 hin
   injection hqe with e1 e2
   have:q=p:=Prod.ext (hinj _ _ e1) e2;exact this▸hq
  ·exact hk▸hv▸run_entry_at _ it r since seen es clk e hit2 (hr2.trans h1) hmem h4
  ·rw [hB,eE,eE,hR1,hR4]
  ·rcases hw1 with rfl | rfl<;>rfl
  ·rcases hw1 with rfl | rfl<;>rfl
  ·rcases hw1 with rfl | rfl<;>rfl
  ·show w.heap.size≤(w1.heap.setIfInBounds it _).size
   simp [hsz]
  ·intro k hk hne'
   rw [hset k,aD (fun e=>hne' (by rw [e]))]
  ·show (w1.heap.setIfInBounds it _).size=_
   simp [hsz]
end
end Dw
namespace Go.Proofs.YtieoifkdobcpiaaGreatDoor
open Go.Shelf Go.RowKit Go.Lib Dw
end Go.Proofs.YtieoifkdobcpiaaGreatDoor
namespace Dw
open Go Go.RowKit
end Dw
namespace Go.Proofs.YtieoifkdobcpiaaGreatDoor
open Go.RowKit Dw
theorem elemDs:Tryz.prog.underlying 24=some (.slice (Tryz.prog.elem 24)):=zb
theorem run_cutToD (A:Option Addr) (n c k:Nat) (hk:k≤c) (W:World):(Instr.slice 24 (.slice A n c) none (some (.int .i64 (k:Int))) none).run Tryz.prog W = .ok (.slice A k c) W:=by
 have h0:(0:Int)≤(k:Int)∧(k:Int)≤(c:Int):=za;rw [run_slice_h (ht:=elemDs) (kh:=.i64) (h:=(k:Int)) (h0:=h0.1) (h2:=h0.2)];have hs:(sizeOf (Tryz.prog.elem 24)).run Tryz.prog W = .ok 16 W:=zb;rw [hs];have:(A.map fun x=>x.add 0)=A:=by cases A<;>simp [Addr.add]
 simp [sliced,Result.andThen,this]
theorem zAE.base {α:Type} {enc:α→List Value} {k:Nat} {w:World} {b b':Nat} {e:TypeId} {v:Value} {l:List α} (h:zAE enc k w b e v l) (hb:b'≤b):zAE enc k w b' e v l:=by
 refine ⟨h.1,?_⟩
 rcases h.2 with hn | ⟨g,cap,cur,hv,hg,rest⟩
 ·exact .inl hn
 ·exact .inr ⟨g,cap,cur,hv,za,rest⟩
theorem zCD {P:Program} {w:World} {α:Type} {enc:α→List Value} {k:Nat} {e:TypeId} {z:Value} {bytes:Nat} {ops:Array Oper} {o:Oper} {a:Act} {K:Act→World→Prop} {Q:Exit→Act→World→Prop} {E:Prop} (hgd:o.guard=none) (s x:Operand) (t:TypeId)
  (ho:o.op = .call { callee:=.builtin .append,args:=#[s,x],argTypes:=#[t,t] }) (hT:ElemT P t e z k bytes) (base:Nat) (v:Value) (l:List α) (hs:a.eval s=v) (hown:zAE enc k w base e v l)
  (bk c:Nat) (y:α) (hx:a.eval x = .slice (some ⟨bk,0,none⟩) 1 c) {cs:Array Value} {T:TypeId} {fr:Nat×Nat} (hblk:w.heap[bk]?=some (.cells cs T fr)) (hcs:cs.toList=enc y) (hk:(enc y).length=k) (hone:∀ u∈enc y,u.oneCell'=true)
  (hlen:l.length+1≤maxLen) (hbytes:(l.length+1)*bytes≤140737488355328) (hbase:base≤w.heap.size)
  (h:∀ g cap w',zAE enc k w' base e (.slice (some ⟨g,0,none⟩) (l.length+1) cap) (l++[y])→w.grownBy w' v.ownBlock→K (a.put o.dst (.slice (some ⟨g,0,none⟩) (l.length+1) cap)) w') :
  if Region.wanted o (yielded ops a.tmps)=true then Oper.wp P o a w K Q else E:=by
 obtain ⟨i,hi,hz0,hz1,hz2⟩:=info_parts hT.info;refine step_append_lies w hgd s x t ho base e i z k bytes hT.ty hi hz0 hz1 hz2 hT.zs hT.pos v l.length (l.flatMap enc) hs hown ⟨bk,0,none⟩ 1 c (enc y) hx (by rw [hk,Nat.one_mul]) ?_ hone za hlen hbytes hbase w.heap.size rfl ?_
 ·rw [←hcs];exact World.news_of_block hblk
 ·intro g cap w' h1 h2 _ _
  refine h g cap w' ?_ h2
  unfold zAE;rw [dC,List.flatMap_append]
  simpa using h1
theorem zDq {α β:Type} {enc:α→List Value} {enc2:β→List Value} {k k2 b b2:Nat} {e e2:TypeId} {w:World} {v v2:Value} {l:List α} {l2:List β} (h:zAE enc k w b e v l) (h2:zAE enc2 k2 w b2 e2 v2 l2) (hne:e≠e2):v.ownBlock=none∨v.ownBlock≠v2.ownBlock:=by
 cases hv:v.ownBlock with
 | none=>exact .inl rfl
 | some q =>
  refine .inr fun he=>?_
  obtain ⟨_,cs,hc⟩:=zAR h hv;obtain ⟨_,cs2,hc2⟩:=zAR h2 he.symm;exact zAA hc hc2 hne rfl
theorem own_ne_mapJ {α:Type} {enc:α→List Value} {k b:Nat} {e:TypeId} {w:World} {v:Value} {l:List α} (h:zAE enc k w b e v l) {r:Nat} {f:BA→Option Value} (hm:zAq Value.string w r f):v.ownBlock=none∨v.ownBlock≠some r:=by
 cases hv:v.ownBlock with
 | none=>exact .inl rfl
 | some q =>
  refine .inr fun he=>?_
  obtain ⟨_,cs,hc⟩:=zAR h hv
  injection he with he
  exact zAg hm hc he
theorem own_far {α:Type} {enc:α→List Value} {k b:Nat} {e:TypeId} {w:World} {v:Value} {l:List α} (h:zAE enc k w b e v l) {g:Nat} {cs:Array Value} {t:TypeId} (hg:Bx w g cs t) (ht:e≠t) (i:Nat) (u:Value):zAE enc k (w.setCell ⟨g,i,none⟩ u) b e v l :=
 ownsRow_setCell_other h (fun e2=>by
  obtain ⟨_,cs2,hcs⟩:=zAR h e2;exact zAA hcs hg ht rfl) u
end Go.Proofs.YtieoifkdobcpiaaGreatDoor
namespace Dw
open Go Go.Proofs.YtieoifkdobcpiaaGreatDoor
section
variable {P:Program} {ops:Array Oper} {Q:Exit→Act→World→Prop} {md:Region.Mode} {S:Array Bool→World→Prop}
def anyL (P:Program) (md:Region.Mode) (ops:Array Oper) (Q:Exit→Act→World→Prop) (S:Array Bool→World→Prop):Nat→Array Bool→Act→World→Prop
 | 0,l,a,w=>Region.ready md ops l=[]∧Q .normal a w
 | n+1,l,a,w=>(Region.ready md ops l=[]→Q .normal a w) ∧
  ∀ i∈Region.ready md ops l,wpOp P ops Q i (fun a' w'=>S (l.setIfInBounds i true) w'∧anyL P md ops Q S n (l.setIfInBounds i true) a' w') a w
theorem anyL_any:∀ (n:Nat) (l:Array Bool) (a:Act) (w:World),anyL P md ops Q S n l a w→wpAny P md ops Q n l a w
 | 0,_,_,_,h=>h
 | n+1,_,_,_,h=>⟨h.1,fun i hi=>wpOp_mono (fun a' w' h'=>anyL_any n _ a' w' h'.2) (h.2 i hi)⟩
def ShutL (md:Region.Mode) (ops:Array Oper) (l:Array Bool):Prop:=∀ (j:Nat) (o:Oper),ops[j]?=some o→l.getD j false=true→∀ e∈o.after,Region.binds md e=true→l.getD e.on false=true
theorem ShutL.set {l:Array Bool} (h:ShutL md ops l) {j:Nat} (hj:j∈Region.ready md ops l):ShutL md ops (l.setIfInBounds j true):=fun k o ho hk e he hb=>by
 refine getD_set_true ?_
 by_cases hkj:j=k
 ·subst hkj
  obtain ⟨_,o',ho',hall⟩:=mem_ready.1 hj;rw [ho] at ho'
  injection ho' with ho'
  subst ho';exact hall e he hb
 ·rw [getD_set_ne false hkj] at hk
  exact h k o ho hk e he hb
theorem ShutL.start (n:Nat):ShutL md ops (Array.replicate n false):=fun j o _ hj=>by
 exfalso
 rw [Array.getD_eq_getD_getElem?,Array.getElem?_replicate] at hj
 split at hj<;>simp at hj
abbrev Ahead (md:Region.Mode) (ops:Array Oper) (S:Array Bool→World→Prop) (i:Nat):World→Prop:=fun w=>∃ l,ShutL md ops l∧l.getD i true=false∧S l w
theorem anyL_first {i:Nat} {oi:Oper} {v:Value} (hi:ops[i]?=some oi) (hsel:∀ (j:Nat) (o:Oper) cs b,ops[j]?=some o→o.op≠.select cs b)
  (hQ:∀ c a w,Q (.panic c) (a.put oi.dst v) w→Q (.panic c) a w) (hSi:∀ l w,S (l.setIfInBounds i true) w↔S l w) :
  ∀ (fuel:Nat) (l:Array Bool) (a:Act) (w:World),ShutL md ops l →
   (∀ j oj,ops[j]?=some oj→j≠i→l.getD j true=false→(∀ e∈oj.after,Region.binds md e=true→e.on≠i)→oi.apart ops oj=true) →
   i∈Region.ready md ops l→YieldsIf P ops (Ahead md ops S i) oi v a→S l w →
   anyL P md ops Q S fuel (l.setIfInBounds i true) (a.put oi.dst v) w→anyL P md ops Q S (fuel+1) l a w:=by
 intro fuel
 induction fuel with
 | zero =>
  intro l a w hsh _ hr hy hS H;refine ⟨fun h=>(by rw [h] at hr;cases hr),fun j hj=>?_⟩
  by_cases hji:j=i
  ·subst hji
   exact hy.wpOp hi ⟨l,hsh,(mem_ready.1 hr).1,hS⟩ ⟨(hSi _ _).2 hS,H⟩
  ·have:=ready_mono hj hji
   rw [H.1] at this
   cases this
 | succ fuel ih =>
  intro l a w hsh hfree hr hy hS H;refine ⟨fun h=>(by rw [h] at hr;cases hr),fun j hj=>?_⟩
  by_cases hji:j=i
  ·subst hji
   exact hy.wpOp hi ⟨l,hsh,(mem_ready.1 hr).1,hS⟩ ⟨(hSi _ _).2 hS,H⟩
  ·have h1:=H.2 j (ready_mono hj hji)
   obtain ⟨hjun,oj,hoj,hall⟩:=mem_ready.1 hj
   have hnot:∀ e∈oj.after,Region.binds md e=true→e.on≠i:=fun e he hb heq=>by
    have h1:=hall e he hb;have h0:=(mem_ready.1 hr).1;rw [heq] at h1
    rcases bQ i l.size with h' | h'
    ·simp [h'] at h0 h1;rw [h0] at h1;cases h1
    ·simp [Array.getElem?_eq_none h'] at h1
   have h2:=wpOp_putIf hoj (hfree j oj hoj hji hjun hnot) (fun cs b=>hsel i oi cs b hi) (fun cs b=>hsel j oj cs b hoj) hQ hy h1
   have hfree':∀ k ok,ops[k]?=some ok→k≠i→(l.setIfInBounds j true).getD k true=false →
     (∀ e∈ok.after,Region.binds md e=true→e.on≠i)→oi.apart ops ok=true:=fun k ok hk hki hun hno=>by
    refine hfree k ok hk hki ?_ hno
    by_cases hjk:j=k
    ·subst hjk;exact hjun
    ·rw [getD_set_ne true hjk] at hun;exact hun
   refine wpOp_mono (fun a' w' h3=>?_) h2
   have hs3:S (l.setIfInBounds j true) w':=by
    have:=h3.2.1;rw [Array.setIfInBounds_comm _ _ (fun e=>hji e.symm)] at this
    exact (hSi _ _).1 this
   refine ⟨hs3,ih (l.setIfInBounds j true) a' w' (hsh.set hj) hfree' (ready_mono hr (Ne.symm hji)) h3.1 hs3 ?_⟩
   rw [Array.setIfInBounds_comm _ _ hji];exact h3.2.2
theorem zBs {i:Nat} {oi:Oper} {v:Value} {fuel:Nat} {l:Array Bool} {a:Act} {w:World} (hi:ops[i]?=some oi)
  (hs:Region.noSelect ops=true) (hf:Region.free md ops l i=true) (hr:(Region.ready md ops l).contains i=true)
  (hQ:∀ c a w,Q (.panic c) (a.put oi.dst v) w→Q (.panic c) a w) (hSi:∀ l w,S (l.setIfInBounds i true) w↔S l w) (hsh:ShutL md ops l) (hy:YieldsIf P ops (Ahead md ops S i) oi v a) (hS:S l w)
  (h:ShutL md ops (l.setIfInBounds i true)→S (l.setIfInBounds i true) w→anyL P md ops Q S fuel (l.setIfInBounds i true) (a.put oi.dst v) w):anyL P md ops Q S (fuel+1) l a w :=
 anyL_first hi (Region.noSelect_spec hs) hQ hSi fuel l a w hsh (Region.free_spec hi hf) (by simpa using hr) hy hS (h (hsh.set (by simpa using hr)) ((hSi _ _).2 hS))
def zBZ (P:Program) (md:Region.Mode) (ops:Array Oper) (Q:Exit→Act→World→Prop) (S:Array Bool→World→Prop) (fuel:Nat) (l:Array Bool) (a:Act) (w:World) (rs:List Nat):Prop :=
 ∀ i∈rs,wpOp P ops Q i (fun a' w'=>S (l.setIfInBounds i true) w'∧anyL P md ops Q S fuel (l.setIfInBounds i true) a' w') a w
theorem zBZ.nil {fuel:Nat} {l:Array Bool} {a:Act} {w:World}:zBZ P md ops Q S fuel l a w []:=fun _ h=>qh
theorem zBZ.cons {fuel:Nat} {l:Array Bool} {a:Act} {w:World} {i:Nat} {o:Oper} {rs:List Nat} (ho:ops[i]?=some o)
  (h:∀ K':Act→World→Prop,Shut (∀ a w,S (l.setIfInBounds i true) w→(S (l.setIfInBounds i true) w→anyL P md ops Q S fuel (l.setIfInBounds i true) a w)→K' a w)→if Region.wanted o (yielded ops a.tmps)=true then Oper.wp P o a w K' Q else K' (a.put o.dst undef) w)
  (hs:zBZ P md ops Q S fuel l a w rs):zBZ P md ops Q S fuel l a w (i::rs):=fun j hj=>by
 rcases List.mem_cons.1 hj with rfl | hj
 ·exact wpOp_step ho (fun K' hK=>h K' (fun a w hS hW=>hK a w ⟨hS,hW hS⟩))
 ·exact hs j hj
theorem zAt {rs:List Nat} {fuel:Nat} {l:Array Bool} {a:Act} {w:World} (hr:Region.ready md ops l=rs) (hne:rs≠[]) (h:zBZ P md ops Q S fuel l a w rs):anyL P md ops Q S (fuel+1) l a w :=
 ⟨fun h0=>absurd (hr▸h0) hne,hr▸h⟩
theorem anyL_done {l:Array Bool} {a:Act} {w:World} (hr:Region.ready md ops l=[]) (h:Q .normal a w):∀ fuel,anyL P md ops Q S fuel l a w
 | 0=>⟨hr,h⟩
 | _+1=>⟨fun _=>h,by rw [hr];simp⟩
theorem wp_region_late {id:Nat} {a:Act} {w:World} (hm:P.follows .mixedOrders=true) (hS:S (Array.replicate ops.size false) w.drew)
  (h:ShutL .any ops (Array.replicate ops.size false)→S (Array.replicate ops.size false) w.drew→anyL P .any ops Q S ops.size (Array.replicate ops.size false) a w.drew):(Code.region id ops true).wp P Q a w :=
 wp_region_any hm (anyL_any _ _ _ _ (h (ShutL.start _) hS))
theorem ShutL.back {l:Array Bool} (h:ShutL .any ops l) {i j:Nat} (hd:depB ops i j=true) (hj:l.getD j false=false):l.getD i false=false:=by
 cases hli:l.getD i false with
 | false=>rfl
 | true =>
  have h2:l.getD j false=true:=zAV (done:=fun k=>l.getD k false) hd (fun o ho e he hb=>h i o ho hli e he hb)
  rw [hj] at h2
  cases h2
theorem getD_ft {l:Array Bool} {j:Nat} (h:l.getD j true=false):l.getD j false=false:=by
 rw [Array.getD_eq_getD_getElem?] at h ⊢
 cases he:l[j]? with
 | none=>rfl
 | some b=>rw [he] at h;simpa using h
end
end Dw
