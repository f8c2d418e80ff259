/- Parts of the proof, joined: The reference's checkGift. The reference's checkDeed. The reference's . -/
import Derived.Test.YtbbchlpccgkikaaGreatDoorSh13
import Derived.Lib.ItoaNum
import Derived.Shelf.Strings.Builder1
import Derived.Shelf.Strings.OnBuilder
import Derived.Shelf.Strings.BuilderF
import Derived.Shelf.Strings.BuilderK
import Derived.Shelf.LaysM
import Derived.Shelf.Strconv.Itoa3
import Derived.Lib.Join
import Derived.Laws.IdiomStrings
import Derived.Lib.QuietBelow
import Derived.BigRegion
import Derived.Maps.RangeRun
set_option maxRecDepth 100000
set_option maxHeartbeats 8000000
namespace Go.Proofs.YtbbchlpccgkikaaGreatDoor
open Go.RowKit Dw
section
variable {w W W':World} {RA:Option Addr} {rc:Nat} {rs:List Rg} {UA:Option Addr} {uc:Nat} {us:List BA} {DA:Option Addr} {dc:Nat} {ds:List De} {d:De}
end
theorem rangeB{w:World}{b:Nat}{cs:Array Value}{T:TypeId}(h:Bx w b cs T):w.rangeAt b 0 cs.toList:=fun j v hv=>by
 rw[bJ];exact h.cell (by rw[<-hv,Array.getElem?_toList])
end Go.Proofs.YtbbchlpccgkikaaGreatDoor
namespace Go.Proofs.YtbbchlpccgkikaaGreatDoor
open Dw
def endsB(id:BA)(x:De):Bool:=decide (x.kd=4)&&decide (x.ot=id)
def endAt(ds:List De)(id:BA):Option Int:=(ds.reverse.find? (endsB id)).map De.bg
theorem endAt_snoc(l:List De)(d:De)(id:BA):endAt (l++[d]) id=if endsB id d=true then some d.bg else endAt l id:=by
 unfold endAt;rw[List.reverse_append,List.reverse_singleton,List.singleton_append,List.find?_cons]
 cases endsB id d<;>simp
def toP(ds:List De)(d:De):Int:=match endAt ds d.id with
 |some t=>min d.en t
 |none=>d.en
def cutR(b e:Int):Int×Int:=if e<=b then (0,0) else (b,e)
def zBL(ds:List De)(d:De):Int×Int:=if zAl d.kd=true then cutR d.bg (toP ds d) else (0,0)
theorem endsB_true{id:BA}{x:De}:endsB id x=true↔x.kd=4/\x.ot=id:=by unfold endsB;simp
theorem nmAt_inj{l:List Rg}(g:GoodR l){i k:Nat}(hi:i<l.length)(hk:k<l.length)(h:zCg l i=zCg l k):i=k:=by
 rw[zAH hi,zAH hk]at h;have h1:=g.inc.idx hi;rw[h,g.inc.idx hk]at h1
 injection h1 with h1
 exact h1.symm
theorem lmF_some{l:List Rg}(g:GoodR l):∀{k i:Nat},k<=l.length->i<k->zAB l i=false->lmF l k (zCg l i)=some (.int .i64 ((zBG l i).length:Int))
 |k+1,i,hk,hi,hp=>by
  unfold lmF
  by_cases he:i=k
  ·subst he
   rw[hp];simp
  ·have hlt:i<k:=by omega
   have ih:=lmF_some g (k:=k) za hlt hp
   split
   ·exact ih
   ·rw[aW fun h=>he (nmAt_inj g za za h)]
    exact ih
theorem lmF_none{l:List Rg}{s:BA}:∀{k:Nat},(∀i,i<k->zAB l i=false->s≠zCg l i)->lmF l k s=none
 |0,_=>rfl
 |k+1,h=>by
  unfold lmF;have ih:=lmF_none (k:=k) fun i hi=>h i za
  split
  ·exact ih
  ·next hp=>rw[aW (h k za (by simpa using hp))];exact ih
theorem leafTo_at{l:List Rg}{i:Nat}(hp:zAB l i=false):∀{k:Nat},i<k->(zBG l k)[(zBG l i).length]?=some i
 |k+1,hi=>by
  have e:zBG l (k+1)=zBG l k++(if zAB l k=true then [] else [k]):=by
   unfold zBG;rw[dP,dQ]
   cases hh:zAB l k<;>simp[hh]
  rw[e]
  by_cases he:i=k
  ·subst he
   rw[hp];simp
  ·have ih:=leafTo_at hp (k:=k) za
   rw[List.getElem?_append_left (List.getElem?_eq_some_iff.1 ih).1];exact ih
theorem leaf_at{l:List Rg}(g:GoodR l){s:BA}(h:leafB l s=true):∃(i n:Nat)(hi:i<l.length),(l[i]).nm=s/\lmF l l.length s=some (.int .i64 (n:Int))/\(zAf l)[n]?=some i:=by
 unfold leafB at h;rw[dN]at h;obtain⟨h1,h2⟩:=h
 cases hx:idx l s with
 |none=>rw[hx]at h1;cases h1
 |some i =>
  obtain⟨hi,hs⟩:=idx_some hx
  have hp:zAB l i=false:=by
   unfold zAB;rw[zAH hi,hs]
   simpa using h2
  refine⟨i,(zBG l i).length,hi,hs,?_,leafTo_at hp hi⟩
  have:=lmF_some g (aE _) hi hp
  rwa [zAH hi,hs]at this
theorem leaf_no{l:List Rg}(g:GoodR l){s:BA}(h:leafB l s=false):lmF l l.length s=none:=by
 refine lmF_none fun i hi hp he=>?_
 rw[zAH hi]at he;have:=leafB_at g hi;rw[<-he,h,hp]at this
 cases this
def vB(rs:List Rg)(ds:List De)(i:Nat)(use:BA)(day:Int)(d:De):Bool:=decide ((zBL ds d).1<=day)&&decide (day<(zBL ds d).2)&&(lies rs d.ar i&&memS d.us use)
def licB(rs:List Rg)(ds:List De)(i:Nat)(use:BA)(day:Int)(th p:BA)(x:Bool)(d:De):Bool:=decide (d.kd=3)&&(decide (d.th=th)&&(decide (d.fr=p)&&((d.ex == x)&&vB rs ds i use day d)))
open Go.RowKit Dw
theorem wl_zero{n:Nat}(h:n=0):(zAc B32 n).length=0:=by rw[(zCA zAn).2 h];rfl
theorem wl_pos{n:Nat}(h:n≠0):(0:Int)<((zAc B32 n).length:Int):=by
 have:(zAc B32 n).length≠0:=fun e=>h ((zCA zAn).1 (List.length_eq_zero_iff.1 e))
 omega
theorem IMulN_c(A A2:Option Addr)(c c2 a b:Nat)(w:World)(h:Nt w A c a)(h2:Nt w A2 c2 b)(hn:(zAc B32 a).length<=400000000)(hm:(zAc B32 b).length<=400000000): Calls Tryz.prog 101 #[inV true A c a,inV false A2 c2 b] w (GivesI (decide (a*b≠0)) (a*b) w):=by
 have HM:=zq (Mul_c A A2 c c2 a b (((w.alloc (.cells #[.bool true,.slice A (zAc B32 a).length c] 84)).alloc (.cells #[.bool false,.slice A2 (zAc B32 b).length c2] 84)).alloc (.cells #[.bool false,.slice none 0 0] 84)) (((h.alloc _).alloc _).alloc _) (((h2.alloc _).alloc _).alloc _) hn hm);obtain⟨p,hp⟩:∃p,p=a*b:=⟨_,rfl⟩;rw[<-hp]at HM ⊢;clear hp
 cases hz:decide (p≠0)
 all_goals
  have hz':(p=0\/p≠0):=Classical.em _
  go_enter Tryz.func101,Tryz.ntmps101;(go_wp2_with fail);(with_reducible refine HM.o.mono ?_);rintro e w1⟨A5,c5,rfl,h5,hb⟩;obtain⟨hc,hf⟩:=bcellK hb;have hs3:w.heap.size+2<w1.heap.size:=qb;have c0:w1.cell? ⟨w.heap.size+1+1,0,none⟩=some (.bool false):=zj;have c1:w1.cell? ⟨w.heap.size+1+1,1,none⟩=some (.slice none 0 0):=zj;have HB:Hid (Below w.heap.size w w1):=((((aJ w.heap.size w).alloc (aE _) _).alloc zd _).alloc ze _).trans (hb.mono ze)
 ·have h0:p=0:=by simpa using hz
  have hl:=wl_zero h0;have hl2:¬(0:Int)<((zAc B32 p).length:Int):=za;clear hz hz' h0;go_wp2;refine aC (v:=inV false A5 c5 p) (by simp[results,Tryz.results101,go_sem,hc,hl]) rfl ⟨A5,c5,rfl,?_,?_⟩
  ·exact h5.set2 c0 c1 (nb_ _) (ns_ _ _ _) _ _
  ·exact tc4
 ·have h0:p≠0:=by simpa using hz
  have hl2:=wl_pos h0;have hl3:0<(zAc B32 p).length:=za;clear hz hz' h0;go_wp2;refine aC (v:=inV true A5 c5 p) (by simp[results,Tryz.results101,go_sem,hc]) rfl ⟨A5,c5,rfl,?_,?_⟩
  ·exact h5.set2 c0 c1 (nb_ _) (ns_ _ _ _) _ _
  ·exact tc4
theorem IAddN_c(A A2:Option Addr)(c c2 a b:Nat)(w:World)(h:Nt w A c a)(h2:Nt w A2 c2 b)(hn:(zAc B32 a).length<=400000000)(hba:b<=a): Calls Tryz.prog 165 #[inV false A c a,inV true A2 c2 b] w (GivesI false (a-b) w):=by
 have HCM:=zq (fun W (q:Nt W A c a) (q2:Nt W A2 c2 b)=>Cmp_c A A2 c c2 a b W q q2 za);have HA:=zq (fun W (q:Nt W A c a) (q2:Nt W A2 c2 b)=>sub_c A A2 c c2 a b W q q2 za hba)
 rcases Nat.eq_or_lt_of_le hba with he|hl
 ·have hd:a-b=0:=by omega
  have hk:cmpN a b=0:=zDq he.symm;rw[hk]at HCM;rw[hd];clear hd hk he hba HA
  go_enter Tryz.func165,Tryz.ntmps165;(go_wp2_with fail);(with_reducible refine(HCM.o _ (((h.alloc _).alloc _).alloc _) (((h2.alloc _).alloc _).alloc _)).mono ?_);rintro e w1⟨rfl,nd,rfl⟩;go_wp2;refine aC (v:=inV false none 0 0) (by simp[results,Tryz.results165,go_sem];rfl) rfl ⟨none,0,rfl,Nt.zero _,?_⟩
  exact((zAd ((((aJ w.heap.size w).alloc (aE _) _).alloc zd _).alloc ze _) nd).setCell (by first|(simp;omega)|omega) _).setCell (by first|(simp;omega)|omega) _
 ·have hk:cmpN a b=1:=zCS hl
  rw[hk]at HCM;clear hk hl hba;generalize a-b=p at *
  go_enter Tryz.func165,Tryz.ntmps165;(go_wp2_with fail);(with_reducible refine(HCM.o _ (((h.alloc _).alloc _).alloc _) (((h2.alloc _).alloc _).alloc _)).mono ?_);rintro e w1⟨rfl,nd,rfl⟩;have g1:Nt ((((w.alloc (.cells #[.bool false,.slice A (zAc B32 a).length c] 84)).alloc (.cells #[.bool true,.slice A2 (zAc B32 b).length c2] 84)).alloc (.cells #[.bool false,.slice none 0 0] 84)).drewN (nd+1)) A c a:=(((h.alloc _).alloc _).alloc _).drewN _;have g2:Nt ((((w.alloc (.cells #[.bool false,.slice A (zAc B32 a).length c] 84)).alloc (.cells #[.bool true,.slice A2 (zAc B32 b).length c2] 84)).alloc (.cells #[.bool false,.slice none 0 0] 84)).drewN (nd+1)) A2 c2 b:=(((h2.alloc _).alloc _).alloc _).drewN _;have HB0:Hid (Below w.heap.size w ((((w.alloc (.cells #[.bool false,.slice A (zAc B32 a).length c] 84)).alloc (.cells #[.bool true,.slice A2 (zAc B32 b).length c2] 84)).alloc (.cells #[.bool false,.slice none 0 0] 84)).drewN (nd+1))):=zAd ((((aJ w.heap.size w).alloc (aE _) _).alloc zd _).alloc ze _) (nd+1);have HBz:Hid (Bx ((((w.alloc (.cells #[.bool false,.slice A (zAc B32 a).length c] 84)).alloc (.cells #[.bool true,.slice A2 (zAc B32 b).length c2] 84)).alloc (.cells #[.bool false,.slice none 0 0] 84)).drewN (nd+1)) (w.heap.size+1+1) #[.bool false,.slice none 0 0] 84):=(Bx.new2 _ _ _ _ _).drewN _;have HBx:Hid (Bx ((((w.alloc (.cells #[.bool false,.slice A (zAc B32 a).length c] 84)).alloc (.cells #[.bool true,.slice A2 (zAc B32 b).length c2] 84)).alloc (.cells #[.bool false,.slice none 0 0] 84)).drewN (nd+1)) w.heap.size #[.bool false,.slice A (zAc B32 a).length c] 84):=(((Bx.new _ _ _).alloc _).alloc _).drewN _;have HBy:Hid (Bx ((((w.alloc (.cells #[.bool false,.slice A (zAc B32 a).length c] 84)).alloc (.cells #[.bool true,.slice A2 (zAc B32 b).length c2] 84)).alloc (.cells #[.bool false,.slice none 0 0] 84)).drewN (nd+1)) (w.heap.size+1) #[.bool true,.slice A2 (zAc B32 b).length c2] 84):=((Bx.new1 _ _ _ _).alloc _).drewN _;go_wp2
  go_region_held3 (fun w'=>w'.cell? ⟨w.heap.size,0,none⟩=some (.bool false)/\w'.cell? ⟨w.heap.size,1,none⟩=some (.slice A (zAc B32 a).length c)/\w'.cell? ⟨w.heap.size+1,1,none⟩=some (.slice A2 (zAc B32 b).length c2)) ((refine⟨?_,?_,?_⟩<;>first|with_reducible assumption|go_simp))
   (first
    |((go_at_call 223;(with_reducible refine(HA.o _ g1 g2).mono ?_);rintro e w1⟨A5,c5,rfl,h5,hb⟩;have HZ:=zq (HBz.o.below hb);have HB:=zq (zAa HB0.o hb);have HX:=zq (HBx.o.below hb);have HY:=zq (HBy.o.below hb);have x0:=HX.o.c 0 rfl;have x1:=HX.o.c 1 rfl;have y1:=HY.o.c 1 rfl;have r0:=HZ.o.c 0 rfl;have r1:=HZ.o.c 1 rfl;have fr:=HZ.o.frozen;have rl:=HZ.o.lt;clear hb)))
  go_wp2;refine aC (v:=inV false A5 c5 p) (by simp[results,Tryz.results165,go_sem,r0,r1]) rfl ⟨A5,c5,rfl,?_,?_⟩
  ·exact h5.set2 r0 r1 (nb_ _) (ns_ _ _ _) _ _
  ·exact(HB.o.setCell (by first|(simp;omega)|omega) _).setCell (by first|(simp;omega)|omega) _
abbrev raN(A:Option Addr)(c n:Nat)(A2:Option Addr)(c2 d:Nat):Array Value:=#[.bool true,.slice A (zAc B32 n).length c,.slice A2 (zAc B32 d).length c2]
def subP(p q:Nat×Nat):Nat×Nat:=zCN (p.1*q.2-q.1*p.2) (p.2*q.2)
theorem subP_same(n m d:Nat)(h:0<d):subP (n,d) (m,d)=zCN (n-m) d:=by
 unfold subP;show zCN (n*d-m*d) (d*d)=_
 rw[<-Nat.sub_mul,aR,lowP_scale h]
theorem RAddN_same(A A2 A3 A4:Option Addr)(c c2 c3 c4 n d m e:Nat)(w:World)(h:Nt w A c n)(h2:Nt w A2 c2 d)(h3:Nt w A3 c3 m)(h4:Nt w A4 c4 e)(hn:(zAc B32 n).length<=100000000)(hd:(zAc B32 d).length<=100000000)(_hm:(zAc B32 m).length<=100000000)(he:(zAc B32 e).length<=100000000)(hd0:0<d)(he0:0<e)(_hm0:m≠0)(hle:m*d<=n*e)(hde:d=e): Calls Tryz.prog 100 #[raV false A c n A2 c2 d,raV true A3 c3 m A4 c4 e] w (zCa false (subP (n,d) (m,e)).1 (subP (n,d) (m,e)).2 w):=by
 subst hde;rw[subP_same n m d hd0];have hle2:m<=n:=Nat.le_of_mul_le_mul_right hle hd0;have HC:=zq (fun W (x:Nt W A2 c2 d) (y:Nt W A4 c4 d)=>Cmp_c A2 A4 c2 c4 d d W x y za);have HA:=zq (fun W (x:Nt W A c n) (y:Nt W A3 c3 m)=>IAddN_c A A3 c c3 n m W x y za hle2);have HO:=zq (fun A5 c5 W (x:Nt W A5 c5 (n-m)) (y:Nt W A2 c2 d)=>Over_c A5 A2 c5 c2 (n-m) d false W x y hd0 (by have:=zAI zAn (Nat.sub_le n m);omega) za);rw[zDq rfl]at HC;simp only[Bool.false_and]at HO;generalize (zCN (n-m) d).1=pp at *;generalize (zCN (n-m) d).2=pq at *;clear hle hle2;generalize n-m=nm at *;have HX0:Hid (Bx (((w.alloc (.cells (raC A c n A2 c2 d) 86)).alloc (.cells (raN A3 c3 m A4 c4 d) 86)).alloc (.cells zBj 86)) w.heap.size (raC A c n A2 c2 d) 86):=((Bx.new _ _ _).alloc _).alloc _;have HY0:Hid (Bx (((w.alloc (.cells (raC A c n A2 c2 d) 86)).alloc (.cells (raN A3 c3 m A4 c4 d) 86)).alloc (.cells zBj 86)) (w.heap.size+1) (raN A3 c3 m A4 c4 d) 86):=(Bx.new1 _ _ _ _).alloc _;have HZ0:Hid (Bx (((w.alloc (.cells (raC A c n A2 c2 d) 86)).alloc (.cells (raN A3 c3 m A4 c4 d) 86)).alloc (.cells zBj 86)) (w.heap.size+1+1) zBj 86):=Bx.new2 _ _ _ _ _;have HB0:Hid (Below w.heap.size w (((w.alloc (.cells (raC A c n A2 c2 d) 86)).alloc (.cells (raN A3 c3 m A4 c4 d) 86)).alloc (.cells zBj 86))):=(((aJ w.heap.size w).alloc (aE _) _).alloc zd _).alloc ze _;obtain⟨W,hW⟩:∃W,W=(((w.alloc (.cells (raC A c n A2 c2 d) 86)).alloc (.cells (raN A3 c3 m A4 c4 d) 86)).alloc (.cells zBj 86)):=⟨_,rfl⟩;have g1:Nt W A c n:=yb;have g2:Nt W A2 c2 d:=zx;have g3:Nt W A3 c3 m:=zy;have g4:Nt W A4 c4 d:=ya;rw[<-hW]at HX0 HY0 HZ0 HB0;clear hn hd _hm he hd0 he0 _hm0
 go_enter Tryz.func100,Tryz.ntmps100;(go_wp2_with fail);rw[<-hW];clear hW;obtain⟨x0,x1,x2⟩:=HX0.o.t;obtain⟨y0,y1,y2⟩:=HY0.o.t;have z0:=HZ0.o.frozen;have z1:=HZ0.o.lt;(go_wp2_with fail);(with_reducible refine(HC.o _ g2 g4).mono ?_);rintro e0 w0⟨rfl,nd,rfl⟩;clear x0 x1 x2 y0 y1 y2 z0 z1;have HX:=zq (HX0.o.drewN (nd+1));have HY:=zq (HY0.o.drewN (nd+1));have HZ:=zq (HZ0.o.drewN (nd+1));have HB:=zq (zAd HB0.o (nd+1));obtain⟨x0,x1,x2⟩:=HX.o.t;obtain⟨y0,y1,y2⟩:=HY.o.t;clear HX0 HY0 HZ0 HB0;go_wp2
 go_region_held3 (fun w'=>(w'.cell? ⟨w.heap.size,0,none⟩=some (.bool false)/\w'.cell? ⟨w.heap.size,1,none⟩=some (.slice A (zAc B32 n).length c)/\w'.cell? ⟨w.heap.size,2,none⟩=some (.slice A2 (zAc B32 d).length c2))/\(w'.cell? ⟨w.heap.size+1,0,none⟩=some (.bool true)/\w'.cell? ⟨w.heap.size+1,1,none⟩=some (.slice A3 (zAc B32 m).length c3)/\w'.cell? ⟨w.heap.size+1,2,none⟩=some (.slice A4 (zAc B32 d).length c4)))
  ((refine⟨⟨?_,?_,?_⟩,?_,?_,?_⟩<;>first|with_reducible assumption|go_simp))
  (first
   |((go_at_call 165;(with_reducible refine(HA.o _ (g1.drewN (nd+1)) (g3.drewN (nd+1))).mono ?_);rintro e1 w1⟨A5,c5,rfl,h5,hb1⟩;have HX1:=zq (HX.o.below hb1);have HY1:=zq (HY.o.below hb1);have HZ1:=zq (HZ.o.below hb1);have HB1:=zq (HB.o.trans (hb1.mono HB.o.size));have g21:=(g2.drewN (nd+1)).below hb1;obtain⟨a0,a1,a2⟩:=HX1.o.t;obtain⟨b0,b1,b2⟩:=HY1.o.t;clear hb1))
   |((go_at_call 164;(with_reducible refine(HO.o _ _ _ h5 g21).mono ?_);rintro e2 w2⟨A6,c6,A7,c7,rfl,h6,h7,hb2⟩;have HX2:=zq (HX1.o.below hb2);have HY2:=zq (HY1.o.below hb2);have HZ2:=zq (HZ1.o.below hb2);have HB2:=zq (zAa HB1.o hb2);clear a0 a1 a2 b0 b1 b2;obtain⟨a0,a1,a2⟩:=HX2.o.t;obtain⟨b0,b1,b2⟩:=HY2.o.t;obtain⟨r0,r1,r2⟩:=HZ2.o.t;have fr:=HZ2.o.frozen;have rl:=HZ2.o.lt;clear hb2)))
 clear HX HY HZ HB;go_wp2;refine aC (v:=raV false A6 c6 pp A7 c7 pq) ym rfl ⟨A6,c6,A7,c7,rfl,h6.setR HZ2.o _ _ _,h7.setR HZ2.o _ _ _,?_⟩
 exact((HB2.o.setCell ze _).setCell ze _).setCell ze _
theorem RAddN_diff(A A2 A3 A4:Option Addr)(c c2 c3 c4 n d m e:Nat)(w:World)(h:Nt w A c n)(h2:Nt w A2 c2 d)(h3:Nt w A3 c3 m)(h4:Nt w A4 c4 e)(hn:(zAc B32 n).length<=100000000)(hd:(zAc B32 d).length<=100000000)(hm:(zAc B32 m).length<=100000000)(he:(zAc B32 e).length<=100000000)(hd0:0<d)(he0:0<e)(hm0:m≠0)(hle:m*d<=n*e)(hde:d≠e): Calls Tryz.prog 100 #[raV false A c n A2 c2 d,raV true A3 c3 m A4 c4 e] w (zCa false (subP (n,d) (m,e)).1 (subP (n,d) (m,e)).2 w):=by
 have HC:=zq (fun W (x:Nt W A2 c2 d) (y:Nt W A4 c4 e)=>Cmp_c A2 A4 c2 c4 d e W x y za)
 have hk:(cmpN d e == 0)=false:=by
  exact tcm
 have l1:=zCC n e;have l2:=zCC m d;have l3:=zCC d e;have l4:=zAI zAn (Nat.sub_le (n*e) (m*d));have HM1:=zq (fun W (x:Nt W A c n) (y:Nt W A4 c4 e)=>IMul_c A A4 c c4 n e W x y za za);have HM2:=zq (fun W (x:Nt W A3 c3 m) (y:Nt W A2 c2 d)=>IMulN_c A3 A2 c3 c2 m d W x y za za);rw[show decide (m*d≠0)=true from aT (eO hm0 za)]at HM2;have HM3:=zq (fun W (x:Nt W A2 c2 d) (y:Nt W A4 c4 e)=>Mul_c A2 A4 c2 c4 d e W x y za za);have HA:=zq (fun A5 c5 A6 c6 W (x:Nt W A5 c5 (n*e)) (y:Nt W A6 c6 (m*d))=>IAddN_c A5 A6 c5 c6 (n*e) (m*d) W x y za hle);have HO:=zq (fun A5 c5 A6 c6 W (x:Nt W A5 c5 (n*e-m*d)) (y:Nt W A6 c6 (d*e))=>Over_c A5 A6 c5 c6 (n*e-m*d) (d*e) false W x y (dH hd0 he0) za za);simp only[Bool.false_and]at HO;have hap:subP (n,d) (m,e)=zCN (n*e-m*d) (d*e):=rfl;rw[hap];clear hap l1 l2 l3 l4 hle hm0;generalize (zCN (n*e-m*d) (d*e)).1=pp at *;generalize (zCN (n*e-m*d) (d*e)).2=pq at *;generalize n*e=p1 at *;generalize m*d=p2 at *;generalize d*e=p3 at *;generalize p1-p2=p4 at *;generalize cmpN d e=cz at *;have HX0:Hid (Bx (((w.alloc (.cells (raC A c n A2 c2 d) 86)).alloc (.cells (raN A3 c3 m A4 c4 e) 86)).alloc (.cells zBj 86)) w.heap.size (raC A c n A2 c2 d) 86):=((Bx.new _ _ _).alloc _).alloc _;have HY0:Hid (Bx (((w.alloc (.cells (raC A c n A2 c2 d) 86)).alloc (.cells (raN A3 c3 m A4 c4 e) 86)).alloc (.cells zBj 86)) (w.heap.size+1) (raN A3 c3 m A4 c4 e) 86):=(Bx.new1 _ _ _ _).alloc _;have HZ0:Hid (Bx (((w.alloc (.cells (raC A c n A2 c2 d) 86)).alloc (.cells (raN A3 c3 m A4 c4 e) 86)).alloc (.cells zBj 86)) (w.heap.size+1+1) zBj 86):=Bx.new2 _ _ _ _ _;have HB0:Hid (Below w.heap.size w (((w.alloc (.cells (raC A c n A2 c2 d) 86)).alloc (.cells (raN A3 c3 m A4 c4 e) 86)).alloc (.cells zBj 86))):=(((aJ w.heap.size w).alloc (aE _) _).alloc zd _).alloc ze _;obtain⟨W,hW⟩:∃W,W=(((w.alloc (.cells (raC A c n A2 c2 d) 86)).alloc (.cells (raN A3 c3 m A4 c4 e) 86)).alloc (.cells zBj 86)):=⟨_,rfl⟩;have g1:Nt W A c n:=yb;have g2:Nt W A2 c2 d:=zx;have g3:Nt W A3 c3 m:=zy;have g4:Nt W A4 c4 e:=ya;rw[<-hW]at HX0 HY0 HZ0 HB0;clear hn hd hm he hd0 he0 hde
 go_enter Tryz.func100,Tryz.ntmps100;(go_wp2_with fail);rw[<-hW];clear hW;obtain⟨x0,x1,x2⟩:=HX0.o.t;obtain⟨y0,y1,y2⟩:=HY0.o.t;have z0:=HZ0.o.frozen;have z1:=HZ0.o.lt;(go_wp2_with fail);(with_reducible refine(HC.o _ g2 g4).mono ?_);rintro e0 w0⟨rfl,nd,rfl⟩;clear x0 x1 x2 y0 y1 y2 z0 z1;have HX:=zq (HX0.o.drewN (nd+1));have HY:=zq (HY0.o.drewN (nd+1));have HZ:=zq (HZ0.o.drewN (nd+1));have HB:=zq (zAd HB0.o (nd+1));obtain⟨x0,x1,x2⟩:=HX.o.t;obtain⟨y0,y1,y2⟩:=HY.o.t;clear HX0 HY0 HZ0 HB0;go_wp2
 go_region_held3 (fun w'=>(w'.cell? ⟨w.heap.size,0,none⟩=some (.bool false)/\w'.cell? ⟨w.heap.size,1,none⟩=some (.slice A (zAc B32 n).length c)/\w'.cell? ⟨w.heap.size,2,none⟩=some (.slice A2 (zAc B32 d).length c2))/\(w'.cell? ⟨w.heap.size+1,0,none⟩=some (.bool true)/\w'.cell? ⟨w.heap.size+1,1,none⟩=some (.slice A3 (zAc B32 m).length c3)/\w'.cell? ⟨w.heap.size+1,2,none⟩=some (.slice A4 (zAc B32 e).length c4)))
  ((refine⟨⟨?_,?_,?_⟩,?_,?_,?_⟩<;>first|with_reducible assumption|go_simp))
  (first
   |((go_at_call 101;(with_reducible refine(HM1.o _ (g1.drewN (nd+1)) (g4.drewN (nd+1))).mono ?_);rintro e1 w1⟨A5,c5,rfl,h5,hb1⟩;have HX1:=zq (HX.o.below hb1);have HY1:=zq (HY.o.below hb1);have HZ1:=zq (HZ.o.below hb1);have HB1:=zq (HB.o.trans (hb1.mono HB.o.size));have g21:=(g2.drewN (nd+1)).below hb1;have g31:=(g3.drewN (nd+1)).below hb1;have g41:=(g4.drewN (nd+1)).below hb1;obtain⟨a0,a1,a2⟩:=HX1.o.t;obtain⟨b0,b1,b2⟩:=HY1.o.t;clear hb1))
   |((go_at_call 101;(with_reducible refine(HM2.o _ g31 g21).mono ?_);rintro e2 w2⟨A6,c6,rfl,h6,hb2⟩;have HX2:=zq (HX1.o.below hb2);have HY2:=zq (HY1.o.below hb2);have HZ2:=zq (HZ1.o.below hb2);have HB2:=zq (zAa HB1.o hb2);have h52:=h5.below hb2;have g22:=g21.below hb2;have g42:=g41.below hb2;clear a0 a1 a2 b0 b1 b2;obtain⟨a0,a1,a2⟩:=HX2.o.t;obtain⟨b0,b1,b2⟩:=HY2.o.t;clear hb2))
   |((go_at_call 165;(with_reducible refine(HA.o _ _ _ _ _ h52 h6).mono ?_);rintro e3 w3⟨A7,c7,rfl,h7,hb3⟩;have HX3:=zq (HX2.o.below hb3);have HY3:=zq (HY2.o.below hb3);have HZ3:=zq (HZ2.o.below hb3);have HB3:=zq (zAa HB2.o hb3);have g23:=g22.below hb3;have g43:=g42.below hb3;clear a0 a1 a2 b0 b1 b2;obtain⟨a0,a1,a2⟩:=HX3.o.t;obtain⟨b0,b1,b2⟩:=HY3.o.t;clear hb3))
   |((go_at_call 166;(with_reducible refine(HM3.o _ g23 g43).mono ?_);rintro e4 w4⟨A8,c8,rfl,h8,hb4⟩;have HX4:=zq (HX3.o.below hb4);have HY4:=zq (HY3.o.below hb4);have HZ4:=zq (HZ3.o.below hb4);have HB4:=zq (zAa HB3.o hb4);have h74:=h7.below hb4;clear a0 a1 a2 b0 b1 b2;obtain⟨a0,a1,a2⟩:=HX4.o.t;obtain⟨b0,b1,b2⟩:=HY4.o.t;clear hb4))
   |((go_at_call 164;(with_reducible refine(HO.o _ _ _ _ _ h74 h8).mono ?_);rintro e5 w5⟨A9,c9,AD,cE,rfl,h9,hF,hb5⟩;have HX5:=zq (HX4.o.below hb5);have HY5:=zq (HY4.o.below hb5);have HZ5:=zq (HZ4.o.below hb5);have HB5:=zq (zAa HB4.o hb5);clear a0 a1 a2 b0 b1 b2;obtain⟨a0,a1,a2⟩:=HX5.o.t;obtain⟨b0,b1,b2⟩:=HY5.o.t;obtain⟨r0,r1,r2⟩:=HZ5.o.t;have fr:=HZ5.o.frozen;have rl:=HZ5.o.lt;clear hb5)))
 clear HX HY HZ HB;go_wp2;refine aC (v:=raV false A9 c9 pp AD cE pq) ym rfl ⟨A9,c9,AD,cE,rfl,h9.setR HZ5.o _ _ _,hF.setR HZ5.o _ _ _,?_⟩
 exact((HB5.o.setCell ze _).setCell ze _).setCell ze _
theorem RAddN_c(A A2 A3 A4:Option Addr)(c c2 c3 c4 n d m e:Nat)(w:World)(h:Nt w A c n)(h2:Nt w A2 c2 d)(h3:Nt w A3 c3 m)(h4:Nt w A4 c4 e)(hn:(zAc B32 n).length<=100000000)(hd:(zAc B32 d).length<=100000000)(hm:(zAc B32 m).length<=100000000)(he:(zAc B32 e).length<=100000000)(hd0:0<d)(he0:0<e)(hm0:m≠0)(hle:m*d<=n*e): Calls Tryz.prog 100 #[raV false A c n A2 c2 d,raV true A3 c3 m A4 c4 e] w (zCa false (subP (n,d) (m,e)).1 (subP (n,d) (m,e)).2 w):=by
 by_cases hde:d=e
 ·exact RAddN_same A A2 A3 A4 c c2 c3 c4 n d m e w h h2 h3 h4 hn hd hm he hd0 he0 hm0 hle hde
 ·exact RAddN_diff A A2 A3 A4 c c2 c3 c4 n d m e w h h2 h3 h4 hn hd hm he hd0 he0 hm0 hle hde
end Go.Proofs.YtbbchlpccgkikaaGreatDoor
namespace Go.Proofs.YtbbchlpccgkikaaGreatDoor
open Dw
abbrev zAV:=BA->Rat
def upH(f:zAV)(p:BA)(x:Rat):zAV:=fun q=>if q=p then x else f q
theorem zBv(f:zAV)(p:BA)(x:Rat):upH f p x p=x:=aD rfl
theorem zAJ(f:zAV){p q:BA}(x:Rat)(h:q≠p):upH f p x q=f q:=aW h
def zCY(nu de:BA):Rat:=mkRat (zAD (zBe nu):Int) (zAD de)
def shQ(s:Sh):Rat:=zCY s.nu s.de
def zAj(l:List Sh)(f:zAV):zAV:=l.foldl (fun g s=>upH g s.pt (shQ s)) f
def orgB(th:BA)(day:Int)(d:De):Bool:=decide (d.kd=1)&&(decide (d.th=th)&&decide (d.bg<=day))
def orgF(th:BA)(day:Int)(f:zAV)(d:De):zAV:=if orgB th day d=true then zAj d.sh f else f
def zBJ(has:Rat)(l:List Sh)(f:zAV):zAV:=l.foldl (fun g s=>upH g s.pt (g s.pt+has*shQ s)) f
def giveF(d:De)(f:zAV):zAV:=upH (upH f d.fr (f d.fr-f d.fr*zCY d.nu d.de)) d.to_ (upH f d.fr (f d.fr-f d.fr*zCY d.nu d.de) d.to_+f d.fr*zCY d.nu d.de)
def zDw(d:De)(f:zAV):zAV:=if d.kd=5 then zBJ (f d.fr) d.sh (upH f d.fr 0) else giveF d f
def zCO(rs:List Rg)(ds:List De)(i:Nat)(th use:BA)(day:Int)(d:De):Bool:=
 if d.kd=2 then decide (d.th=th)&&vB rs ds i use day d else if d.kd=5 then decide (d.bg<=day) else false
def zCP(mv:De->Bool)(f:zAV)(d:De):zAV:=if mv d=true then zDw d f else f
def zCy(th:BA)(day:Int)(ds:List De):zAV:=ds.foldl (orgF th day) (fun _=>0)
def zAt(rs:List Rg)(ds:List De)(i:Nat)(th use:BA)(day:Int)(n:Nat):zAV:=(ds.take n).foldl (zCP (zCO rs ds i th use day)) (zCy th day ds)
def zDg(q:Rat):Bool:=decide (10^2000<=q.num.natAbs) || decide (10^2000<=q.den)
def sumF(N:List BA)(f:zAV):Rat:=N.foldr (fun p s=>f p+s) 0
theorem sumF_nil(f:zAV):sumF [] f=0:=rfl
theorem zCz(p:BA)(N:List BA)(f:zAV):sumF (p::N) f=f p+sumF N f:=rfl
theorem sumF_congr{N:List BA}{f g:zAV}(h:∀p∈N,f p=g p):sumF N f=sumF N g:=by
 induction N with
 |nil=>rfl
 |cons p N ih=>rw[zCz,zCz,h p bN,ih fun q hq=>h q (bM _ hq)]
theorem sumF_up{N:List BA}(hn:N.Nodup){p:BA}(hp:p∈N)(f:zAV)(x:Rat):sumF N (upH f p x)=sumF N f-f p+x:=by
 induction N with
 |nil=>cases hp
 |cons a N ih =>
  obtain⟨h1,h2⟩:=List.nodup_cons.1 hn;rw[zCz,zCz]
  by_cases ha:a=p
  ·subst ha
   rw[zBv,sumF_congr (f:=upH f a x) (g:=f) fun q hq=>zAJ f x (fun e=>h1 (by rw[<-e];exact hq))]
   grind
  ·rw[zAJ f x ha,ih h2 ((List.mem_cons.1 hp).resolve_left fun e=>ha e.symm)]
   grind
theorem sumF_zero(N:List BA):sumF N (fun _=>0)=0:=by
 induction N with
 |nil=>rfl
 |cons p N ih=>rw[zCz,ih];grind
def zBr(l:List Sh):Rat:=l.foldr (fun s t=>shQ s+t) 0
theorem sumF_pass{N:List BA}(hn:N.Nodup)(has:Rat):∀(l:List Sh)(f:zAV),(∀s∈l,s.pt∈N)->sumF N (zBJ has l f)=sumF N f+has*zBr l
 |[],f,_=>by show sumF N f=sumF N f+has*0;grind
 |s::l,f,h=>by
  have ih:=sumF_pass hn has l (upH f s.pt (f s.pt+has*shQ s)) fun t ht=>h t (bM _ ht)
  show sumF N (zBJ has l (upH f s.pt (f s.pt+has*shQ s)))=_
  rw[ih,sumF_up hn (h s bN)];show _=sumF N f+has*(shQ s+zBr l)
  grind
theorem sumF_give{N:List BA}(hn:N.Nodup)(d:De)(f:zAV)(h1:d.fr∈N)(h2:d.to_∈N):sumF N (giveF d f)=sumF N f:=by
 unfold giveF;rw[sumF_up hn h2,sumF_up hn h1]
 grind
theorem sumF_take{N:List BA}(hn:N.Nodup)(d:De)(f:zAV)(h1:d.fr∈N)(h2:d.kd≠5->d.to_∈N)(h3:d.kd=5->∀s∈d.sh,s.pt∈N)(h4:d.kd=5->zBr d.sh=1):sumF N (zDw d f)=sumF N f:=by
 unfold zDw
 by_cases hk:d.kd=5
 ·rw[aD hk,sumF_pass hn _ _ _ (h3 hk),sumF_up hn h1,h4 hk]
  grind
 ·rw[aW hk,sumF_give hn d f h1 (h2 hk)]
theorem sumF_put{N:List BA}(hn:N.Nodup):∀(l:List Sh)(f:zAV),(∀s∈l,s.pt∈N)->(l.map Sh.pt).Nodup->(∀s∈l,f s.pt=0)->sumF N (zAj l f)=sumF N f+zBr l
 |[],f,_,_,_=>by show sumF N f=sumF N f+0;grind
 |s::l,f,h,hd,h0=>by
  rw[dZ]at hd;obtain⟨h1,h2⟩:=List.nodup_cons.1 hd
  have ih:=sumF_put hn l (upH f s.pt (shQ s)) (fun t ht=>h t (bM _ ht)) h2 (fun t ht=>by
   rw[zAJ _ _ (fun e=>h1 (by rw[<-e];exact aS ht))];exact h0 t (bM _ ht))
  show sumF N (zAj l (upH f s.pt (shQ s)))=_
  rw[ih,sumF_up hn (h s bN),h0 s bN];show _=sumF N f+(shQ s+zBr l)
  grind
structure HoldOk (N:List BA) (f:zAV):Prop where
 pos:∀p,0<=f p
 out:∀p,p∉N->f p=0
theorem ratQ_pos(nu de:BA):0<=zCY nu de:=by
 unfold zCY;exact tbj
theorem shQ_pos(s:Sh):0<=shQ s:=ratQ_pos _ _
section
variable {N:List BA} {f:zAV}
theorem HoldOk.up(h:HoldOk N f){p:BA}{x:Rat}(hp:p∈N)(hx:0<=x):HoldOk N (upH f p x):=
 ⟨fun q=>by
  by_cases hq:q=p
  ·subst hq;rw[zBv];exact hx
  ·rw[zAJ _ _ hq];exact h.pos q,
  fun q hq=>by rw[zAJ _ _ (fun e=>hq (by rw[e];exact hp))];exact h.out q hq⟩
theorem HoldOk.put:∀(l:List Sh)(f:zAV),HoldOk N f->(∀s∈l,s.pt∈N)->HoldOk N (zAj l f)
 |[],_,h,_=>h
 |s::l,f,h,hs=>HoldOk.put l (upH f s.pt (shQ s)) (h.up (hs s bN) (shQ_pos s)) fun t ht=>hs t (bM _ ht)
theorem HoldOk.pass{has:Rat}(hh:0<=has):∀(l:List Sh)(f:zAV),HoldOk N f->(∀s∈l,s.pt∈N)->HoldOk N (zBJ has l f)
 |[],_,h,_=>h
 |s::l,f,h,hs=>HoldOk.pass hh l (upH f s.pt (f s.pt+has*shQ s)) (h.up (hs s bN) (by
   have:=h.pos s.pt;have:=Rat.mul_nonneg hh (shQ_pos s)
   grind)) fun t ht=>hs t (bM _ ht)
theorem part_le{a q:Rat}(ha:0<=a)(hq:q<=1):0<=a-a*q:=by
 have:=Rat.mul_le_mul_of_nonneg_left hq ha
 grind
theorem HoldOk.give(h:HoldOk N f)(d:De)(h1:d.fr∈N)(h2:d.to_∈N)(hq:zCY d.nu d.de<=1):HoldOk N (giveF d f):=by
 unfold giveF;have k1:HoldOk N (upH f d.fr (f d.fr-f d.fr*zCY d.nu d.de)):=h.up h1 (part_le (h.pos _) hq);refine k1.up h2 ?_;have a:=k1.pos d.to_;have b:=Rat.mul_nonneg (h.pos d.fr) (ratQ_pos d.nu d.de)
 grind
theorem HoldOk.take(h:HoldOk N f)(d:De)(h1:d.fr∈N)(h2:d.kd≠5->d.to_∈N)(h3:d.kd=5->∀s∈d.sh,s.pt∈N)(hq:d.kd≠5->zCY d.nu d.de<=1):HoldOk N (zDw d f):=by
 unfold zDw
 by_cases hk:d.kd=5
 ·rw[aD hk];exact HoldOk.pass (h.pos _) _ _ (h.up h1 (by grind)) (h3 hk)
 ·rw[aW hk];exact h.give d h1 (h2 hk) (hq hk)
end
def insN(p:BA):List BA->List BA
 |[]=>[p]
 |a::l=>if a=p then a::l else if slt p a=true then p::a::l else a::insN p l
def IncN(l:List BA):Prop:=l.Pairwise fun a b=>slt a b=true
theorem zBP{p q:BA}:∀{l:List BA},q∈insN p l↔q=p\/q∈l
 |[]=>by simp[insN]
 |a::l=>by
  unfold insN
  split
  ·next h=>subst h;simp
  ·split
   ·simp
   ·rw[eQ,zBP (l:=l),eQ]
    constructor
    ·rintro(h|h|h)<;>simp[h]
    ·rintro(h|h|h)<;>simp[h]
theorem slt_of_ne{a b:BA}(h:a≠b)(h2:slt b a=false):slt a b=true:=by
 cases hs:sle b a with
 |false=>exact zBq hs
 |true =>
  exfalso;have h3:(slt b a || b.toList == a.toList)=true:=hs;rw[h2,Bool.false_or]at h3;exact h (str_eq h3).symm
theorem IncN.ins{p:BA}:∀{l:List BA},IncN l->IncN (insN p l)
 |[],_=>by simp[insN,IncN]
 |a::l,h=>by
  obtain⟨h1,h2⟩:=List.pairwise_cons.1 h;unfold insN
  split
  ·exact h
  ·next hne =>
   split
   ·next hlt =>
    refine List.pairwise_cons.2 ⟨fun b hb=>?_,h⟩
    rcases List.mem_cons.1 hb with rfl|hb
    ·exact hlt
    ·exact slt_trans hlt (h1 b hb)
   ·next hlt =>
    refine List.pairwise_cons.2 ⟨fun b hb=>?_,IncN.ins h2⟩
    rcases zBP.1 hb with rfl|hb
    ·exact slt_of_ne hne (by simpa using hlt)
    ·exact h1 b hb
theorem IncN.nodup{l:List BA}(h:IncN l):l.Nodup:=h.imp fun h=>zCc h
theorem slt_irr(a:BA):slt a a=false:=by
 cases h:slt a a with
 |false=>rfl
 |true=>exact absurd rfl (zCc h)
theorem incN_ext:∀{l m:List BA},IncN l->IncN m->(∀x,x∈l↔x∈m)->l=m
 |[],[],_,_,_=>rfl
 |[],b::m,_,_,h=>absurd ((h b).2 bN) zd
 |a::l,[],_,_,h=>absurd ((h a).1 bN) zd
 |a::l,b::m,h1,h2,h=>by
  obtain⟨k1,k2⟩:=List.pairwise_cons.1 h1;obtain⟨k3,k4⟩:=List.pairwise_cons.1 h2
  have hab:a=b:=by
   rcases List.mem_cons.1 ((h a).1 bN)with e|e
   ·exact e
   ·rcases List.mem_cons.1 ((h b).2 bN)with e2|e2
    ·exact e2.symm
    ·have:=slt_trans (k1 b e2) (k3 a e)
     rw[slt_irr]at this
     cases this
  subst hab
  congr 1
  refine incN_ext k2 k4 fun x=>?_
  have hx:=h x;rw[eQ,eQ]at hx
  constructor
  ·intro hm
   rcases hx.1 (.inr hm)with e|e
   ·subst e;exact absurd rfl (zCc (k1 x hm))
   ·exact e
  ·intro hm
   rcases hx.2 (.inr hm)with e|e
   ·subst e;exact absurd rfl (zCc (k3 x hm))
   ·exact e
def keysAll(l:List Sh)(K:List BA):List BA:=l.foldl (fun K s=>insN s.pt K) K
def zBa(th:BA)(day:Int)(K:List BA)(d:De):List BA:=if orgB th day d=true then keysAll d.sh K else K
def zAK(d:De)(K:List BA):List BA:=if d.kd=5 then keysAll d.sh (insN d.fr K) else insN d.to_ (insN d.fr K)
def zAL(mv:De->Bool)(K:List BA)(d:De):List BA:=if mv d=true then zAK d K else K
def zDf(th:BA)(day:Int)(ds:List De):List BA:=ds.foldl (zBa th day) []
def zBY(rs:List Rg)(ds:List De)(i:Nat)(th use:BA)(day:Int)(n:Nat):List BA:=(ds.take n).foldl (zAL (zCO rs ds i th use day)) (zDf th day ds)
theorem keysAll_inc:∀(l:List Sh){K:List BA},IncN K->IncN (keysAll l K)
 |[],_,h=>h
 |_::l,_,h=>keysAll_inc l h.ins
theorem zBy:∀(l:List Sh){K:List BA}{q:BA},q∈keysAll l K↔(∃s∈l,s.pt=q)\/q∈K
 |[],K,q=>by simp[keysAll]
 |s::l,K,q=>by
  show q∈keysAll l (insN s.pt K)↔_
  rw[zBy l,zBP]
  constructor
  ·rintro(⟨t,ht,e⟩|e|h)
   ·exact .inl ⟨t,bM _ ht,e⟩
   ·exact .inl ⟨s,bN,e.symm⟩
   ·exact .inr h
  ·rintro(⟨t,ht,e⟩|h)
   ·rcases List.mem_cons.1 ht with rfl|ht
    ·exact .inr (.inl e.symm)
    ·exact .inl ⟨t,ht,e⟩
   ·exact .inr (.inr h)
theorem zCQ(d:De){K:List BA}(h:IncN K):IncN (zAK d K):=by
 unfold zAK
 split
 ·exact keysAll_inc _ h.ins
 ·exact h.ins.ins
theorem HoldOk.mono{N M:List BA}{f:zAV}(h:HoldOk N f)(hs:∀p∈N,p∈M):HoldOk M f:=⟨h.pos,fun p hp=>h.out p fun hm=>hp (hs p hm)⟩
theorem HoldOk.takeK{K:List BA}{f:zAV}(h:HoldOk K f)(d:De)(hq:d.kd≠5->zCY d.nu d.de<=1):HoldOk (zAK d K) (zDw d f):=by
 have hs:∀p∈K,p∈zAK d K:=fun p hp=>by
  exact tbr
 have h1:d.fr∈zAK d K:=by
  exact tbp
 refine(h.mono hs).take d h1 (fun hk=>?_) (fun hk s hs=>?_) hq
 ·unfold zAK
  rw[aW hk];exact zBP.2 (.inl rfl)
 ·unfold zAK
  exact tc9
theorem HoldOk.orgK{K:List BA}{f:zAV}(h:HoldOk K f)(th:BA)(day:Int)(d:De):HoldOk (zBa th day K d) (orgF th day f d):=by
 unfold zBa orgF
 split
 ·exact HoldOk.put _ _ (h.mono fun p hp=>(zBy _).2 (.inr hp)) fun s hs=>(zBy _).2 (.inl ⟨s,hs,rfl⟩)
 ·exact h
theorem keysOrg_inc(th:BA)(day:Int)(d:De){K:List BA}(h:IncN K):IncN (zBa th day K d):=by
 unfold zBa
 split
 ·exact keysAll_inc _ h
 ·exact h
theorem start_ok(th:BA)(day:Int):∀(ds:List De)(K:List BA)(f:zAV),IncN K->HoldOk K f->IncN (ds.foldl (zBa th day) K)/\HoldOk (ds.foldl (zBa th day) K) (ds.foldl (orgF th day) f)
 |[],_,_,h1,h2=>⟨h1,h2⟩
 |d::ds,K,f,h1,h2=>start_ok th day ds (zBa th day K d) (orgF th day f d) (keysOrg_inc th day d h1) (h2.orgK th day d)
theorem steps_ok(mv:De->Bool):∀(ds:List De)(K:List BA)(f:zAV),(∀d∈ds,mv d=true->d.kd≠5->zCY d.nu d.de<=1)->IncN K->HoldOk K f -> IncN (ds.foldl (zAL mv) K)/\HoldOk (ds.foldl (zAL mv) K) (ds.foldl (zCP mv) f)
 |[],_,_,_,h1,h2=>⟨h1,h2⟩
 |d::ds,K,f,hq,h1,h2=>by
  refine steps_ok mv ds (zAL mv K d) (zCP mv f d) (fun e he=>hq e (bM _ he)) ?_ ?_
  ·unfold zAL
   split
   ·exact zCQ d h1
   ·exact h1
  ·unfold zAL zCP
   split
   ·next hm=>exact h2.takeK d (hq d bN hm)
   ·exact h2
theorem hold_none:HoldOk [] (fun _=>0):=⟨fun _=>zc,fun _ _=>rfl⟩
def holL(K:List BA)(f:zAV):List BA:=K.filter fun p=>decide (f p≠0)
theorem holL_inc{K:List BA}{f:zAV}(h:IncN K):IncN (holL K f):=List.Pairwise.filter _ h
theorem holL_mem{K:List BA}{f:zAV}(h:HoldOk K f){p:BA}:p∈holL K f↔f p≠0:=by
 unfold holL;rw[List.mem_filter]
 constructor
 ·exact fun hp=>by simpa using hp.2
 ·intro hp
  refine⟨?_,by simpa using hp⟩
  refine eR fun hn=>hp (h.out p hn)
def toQ(p:Nat×Nat):Rat:=mkRat (p.1:Int) p.2
theorem toQ_low{n d:Nat}(hd:0<d):toQ (zCN n d)=mkRat (n:Int) d:=by
 have hg:0<Nat.gcd n d:=dS _ hd;have h1:=Nat.div_mul_cancel (Nat.gcd_dvd_left n d);have h2:=Nat.div_mul_cancel (Nat.gcd_dvd_right n d)
 have h3:d/Nat.gcd n d≠0:=by
  intro h;rw[h]at h2;omega
 unfold toQ zCN;rw[eS h3 za]
 have:n/Nat.gcd n d*d=n*(d/Nat.gcd n d):=by
  clear h3;generalize Nat.gcd n d=g at *
  calc n/g*d=n/g*(d/g*g):=by rw[h2]
   _=(n/g*g)*(d/g):=by rw[bS,aR g]
   _=n*(d/g):=by rw[h1]
 exact_mod_cast this
theorem toQ_add{p q:Nat×Nat}(hp:0<p.2)(hq:0<q.2):toQ (addP p q)=toQ p+toQ q:=by
 unfold addP;rw[toQ_low (dH hp hq)];unfold toQ;rw[Rat.mkRat_add_mkRat _ _ za za];simp
theorem addP_pos{p q:Nat×Nat}(hp:0<p.2)(hq:0<q.2):0<(addP p q).2:=by
 have hd:=dH hp hq;exact Nat.div_pos (Nat.le_of_dvd hd (Nat.gcd_dvd_right _ _)) (dS _ hd)
theorem sumP_toQ{l:List Sh}(h:∀s∈l,0<zAD s.de):∀k,k<=l.length->0<(zDo l k).2/\toQ (zDo l k)=zBr (l.take k)
 |0,_=>⟨by rw[sumP_zero];decide,by rw[sumP_zero];rfl⟩
 |k+1,hk=>by
  obtain⟨h1,h2⟩:=sumP_toQ h k za;have hs:=h _ (bI (show k<l.length by omega));rw[sumP_succ (show k<l.length by omega)];refine⟨addP_pos h1 hs,?_⟩
  rw[toQ_add h1 hs,h2,bA (show k<l.length by omega)]
  have e:∀(m:List Sh)(s:Sh),zBr (m++[s])=zBr m+shQ s:=fun m s=>by
   induction m with
   |nil=>show shQ s+0=0+shQ s;grind
   |cons a m ih=>show shQ a+zBr (m++[s])=shQ a+zBr m+shQ s;rw[ih];grind
  rw[e]
  rfl
structure ShsOk (l:List Sh):Prop where
 nd:(l.map Sh.pt).Nodup
 nm:∀s∈l,zBi s.pt=true
 rat:∀s∈l,ratF s.nu s.de=0
 pos:∀s∈l,posB s.nu=true
theorem pts_inc{l:List Sh}(h:∀i (hi:i+1<l.length),slt l[i].pt l[i+1].pt=true):(l.map Sh.pt).Nodup:=by
 have:=inc_pair (l:=l.map Sh.pt) (fun i hi=>by
  have h9:=h i yf
  simpa using h9)
 exact this.imp fun h=>zCc h
theorem shF_ok{k:Int}{l:List Sh}(h:shF k l=0):ShsOk l/\(zDo l l.length).1<=(zDo l l.length).2/\(k=5->(zDo l l.length).1=(zDo l l.length).2):=by
 unfold shF at h
 split at h
 ·cases h
 split at h
 ·cases h
 have key:∀i f,zBg l i=some f->f≠0:=fun i f hf=>by
  unfold zBg at hf
  split at hf
  ·cases hf;simp
  ·split at hf
   ·cases hf;simp
   ·split at hf
    ·next h1=>cases hf;exact h1
    ·split at hf
     ·cases hf;simp
     ·cases hf
 split at h
 ·next f hf =>
  exfalso;obtain⟨i,_,hi⟩:=List.exists_of_findSome?_eq_some hf;exact key i f hi h
 next hn =>
 rw[List.findSome?_eq_none_iff]at hn
 have hall:∀i (hi:i<l.length),zBi l[i].pt=true/\(0<i->sle l[i].pt (l[i-1]'(by omega)).pt=false)/\ratF l[i].nu l[i].de=0/\posB l[i].nu=true:=fun i hi=>by
  have:=hn i yf;unfold zBg at this;rw[ptAt_of hi,ptAt_of (show i-1<l.length by omega),shD_of hi]at this
  split at this
  ·cases this
  next h1 =>
  split at this
  ·cases this
  next h2 =>
  split at this
  ·cases this
  next h3 =>
  split at this
  ·cases this
  next h4 =>
  refine⟨qc,fun h0=>?_,by simpa using h3,by simpa using h4⟩
  cases hs:sle l[i].pt (l[i-1]'(by omega)).pt with
  |false=>rfl
  |true=>exact absurd ⟨h0,hs⟩ h2
 refine⟨⟨pts_inc fun i hi=>zBq ?_,fun s hs=>?_,fun s hs=>?_,fun s hs=>?_⟩,?_,?_⟩
 ·have:=(hall (i+1) hi).2.1 za
  simpa using this
 ·obtain⟨i,hi,rfl⟩:=dO hs;exact(hall i hi).1
 ·obtain⟨i,hi,rfl⟩:=dO hs;exact(hall i hi).2.2.1
 ·obtain⟨i,hi,rfl⟩:=dO hs;exact(hall i hi).2.2.2
 ·split at h
  ·cases h
  ·omega
 ·split at h
  ·cases h
  ·next h9=>intro hk;omega
theorem zCe{nu de:BA}(h:ratF nu de=0):0<zAD de:=by
 obtain⟨_,h2,h3,_,_⟩:=zCv h;exact den_pos h2 h3
theorem toQ_one{p:Nat×Nat}(hp:0<p.2)(h:p.1=p.2):toQ p=1:=by
 unfold toQ;rw[h,show(1:Rat)=mkRat 1 1 from by decide,eS za za];simp
theorem toQ_le{p:Nat×Nat}(hp:0<p.2)(h:p.1<=p.2):toQ p<=1:=by
 have h1:toQ p+toQ (p.2-p.1,p.2)=1:=by
  unfold toQ;rw[Rat.mkRat_add_mkRat _ _ za za,show(1:Rat)=mkRat 1 1 from by decide,eS (Nat.ne_of_gt (dH hp hp)) za];have:((p.2-p.1:Nat):Int)=(p.2:Int)-p.1:=za;simp only[this]
  push_cast
  grind
 have h2:0<=toQ (p.2-p.1,p.2):=by
  unfold toQ;exact tbj
 grind
theorem shs_sum{k:Int}{l:List Sh}(h:shF k l=0)(hk:k=5):zBr l=1:=by
 obtain⟨h1,_,h3⟩:=shF_ok h;obtain⟨p1,p2⟩:=sumP_toQ (fun s hs=>zCe (h1.rat s hs)) l.length (aE _);rw[aG]at p2;rw[<-p2,toQ_one p1 (h3 hk)]
theorem parF_ok{d:De}(h:parF d=0)(hk:d.kd=2):ratF d.nu d.de=0/\posB d.nu=true/\zCY d.nu d.de<=1:=by
 unfold parF at h;rw[aW (by rw[hk];simp)]at h
 split at h
 ·next h1=>exact absurd h h1
 next h1 =>
 have h1':ratF d.nu d.de=0:=qc
 split at h
 ·cases h
 next h2 =>
 refine⟨h1',?_,?_⟩
 ·cases hp:posB d.nu with
  |true=>rfl
  |false=>exact absurd (.inl hp) h2
 ·exact toQ_le (p:=(zAD (zBe d.nu),zAD d.de)) (zCe h1') (Nat.not_lt.1 fun hl=>h2 (.inr hl))
structure ParOk (d:De):Prop where
 kd:1<=d.kd/\d.kd<=5
 org:d.kd=1->ShsOk d.sh/\d.fr=emp
 asg:d.kd=2->ratF d.nu d.de=0/\posB d.nu=true/\zCY d.nu d.de<=1/\d.fr≠d.to_
 pas:d.kd=5->ShsOk d.sh/\zBr d.sh=1/\∀s∈d.sh,s.pt≠d.fr
theorem chkD_par{rs:List Rg}{us:List BA}{pre:List De}{d:De}(h:chkD rs us pre d=0):ParOk d:=by
 unfold chkD at h
 split at h
 ·cases h
 split at h
 ·cases h
 split at h
 ·cases h
 split at h
 ·cases h
 split at h
 ·cases h
 next h5 =>
 split at h
 ·cases h
 next hnd =>
 simp only[zAw,Bool.not_eq_true,bH,Bool.and_eq_false_iff]at hnd;obtain⟨⟨⟨⟨⟨⟨⟨⟨_,n2⟩,_⟩,_⟩,_⟩,_⟩,_⟩,_⟩,_⟩:=hnd;have hkd:1<=d.kd/\d.kd<=5:=za
 split at h
 ·next hg =>
  have hk:d.kd=2\/d.kd=3:=by unfold zAl at hg;simpa using hg
  unfold giftF at h
  split at h
  ·cases h
  split at h
  ·cases h
  next hc =>
  split at h
  ·next h1=>exact absurd h h1
  next g3 =>
  refine⟨hkd,fun hh=>za,fun hh=>?_,fun hh=>za⟩
  obtain⟨a,b,c⟩:=parF_ok (by simpa using g3) hh;exact⟨a,b,c,hc⟩
 ·next hg =>
  split at h
  ·next h4=>exact⟨hkd,fun hh=>za,fun hh=>za,fun hh=>za⟩
  ·next h4 =>
   have hk:¬(d.kd=2\/d.kd=3):=fun hh=>by apply hg;unfold zAl;simpa using hh
   unfold divF at h
   split at h
   ·cases h
   split at h
   ·cases h
   split at h
   ·next h1=>exact absurd h h1
   next g3 =>
   have g3':shF d.kd d.sh=0:=by simpa using g3
   split at h
   ·cases h
   next g4 =>
   refine⟨hkd,fun hh=>⟨(shF_ok g3').1,?_⟩,fun hh=>za,fun hh=>⟨(shF_ok g3').1,shs_sum g3' hh,fun s hs he=>?_⟩⟩
   ·have hg0:zAl d.kd=false:=by simpa using hg
    rcases n2 with n|n
    ·rw[hg0,hh]at n;simp at n
    ·simpa using n
   ·exact g4 ⟨hh,List.any_eq_true.2 ⟨s,hs,by simpa using he⟩⟩
theorem chkD_org{rs:List Rg}{us:List BA}{pre:List De}{d:De}(h:chkD rs us pre d=0)(hk:d.kd=1\/d.kd=5):∀p∈pre,¬(p.kd=d.kd/\p.th=d.th/\p.fr=d.fr):=by
 unfold chkD at h
 have hg:zAl d.kd=false:=by
  unfold zAl
  rcases hk with e|e<;>rw[e]<;>rfl
 rw[hg]at h
 split at h
 ·cases h
 split at h
 ·cases h
 split at h
 ·cases h
 split at h
 ·cases h
 split at h
 ·cases h
 split at h
 ·cases h
 split at h
 ·next h1=>cases h1
 split at h
 ·omega
 unfold divF at h
 split at h
 ·cases h
 split at h
 ·cases h
 split at h
 ·next h1=>exact absurd h h1
 split at h
 ·cases h
 split at h
 ·cases h
 next h9 =>
 intro p hp hc;exact h9 (List.any_eq_true.2 ⟨p,hp,by simp[hc]⟩)
theorem zBO{rs:List Rg}{us:List BA}{ds:List De}(h:zBQ rs us ds=0):∀d∈ds,ParOk d:=fun d hd=>by
 obtain⟨k,hk,rfl⟩:=dO hd;exact chkD_par ((zAT h).2 k hk)
theorem title_org{rs:List Rg}{us:List BA}{ds:List De}(h:zBQ rs us ds=0):ds.Pairwise fun a b=>¬(a.kd=1/\b.kd=1/\a.th=b.th):=by
 have hc:=(zAT h).2;refine List.pairwise_iff_getElem.2 fun i j hi hj hij=>?_
 rintro⟨k1,k2,k3⟩;refine chkD_org (hc j hj) (.inl k2) ds[i] ?_ ⟨k1.trans k2.symm,k3,?_⟩
 ·rw[List.mem_take_iff_getElem]
  exact⟨i,za,rfl⟩
 ·rw[(zBO h _ (bI hi)).org k1 |>.2,(zBO h _ (bI hj)).org k2 |>.2]
def orgSum(th:BA)(day:Int)(ds:List De):Rat:=ds.foldr (fun d s=>(if orgB th day d=true then zBr d.sh else 0)+s) 0
theorem zDh{th:BA}{day:Int}{d:De}:orgB th day d=true↔d.kd=1/\d.th=th/\d.bg<=day:=by unfold orgB;simp
theorem org_none{th:BA}{day:Int}:∀(ds:List De)(f:zAV),(∀d∈ds,orgB th day d=false)->ds.foldl (orgF th day) f=f/\orgSum th day ds=0
 |[],_,_=>⟨rfl,rfl⟩
 |d::ds,f,h=>by
  have hd:=h d bN;obtain⟨h1,h2⟩:=org_none (th:=th) (day:=day) ds f fun e he=>h e (bM _ he)
  constructor
  ·rw[cO]
   have:orgF th day f d=f:=by unfold orgF;rw[hd];rfl
   rw[this,h1]
  ·show(if orgB th day d=true then zBr d.sh else 0)+orgSum th day ds=0
   rw[hd,h2];simp
   grind
theorem start_one{th:BA}{day:Int}:∀(ds:List De),ds.Pairwise (fun a b=>¬(a.kd=1/\b.kd=1/\a.th=b.th)) ->
  (zCy th day ds=(fun _=>0)/\orgSum th day ds=0)\/∃d∈ds,orgB th day d=true/\zCy th day ds=zAj d.sh (fun _=>0)/\orgSum th day ds=zBr d.sh
 |[],_=>.inl ⟨rfl,rfl⟩
 |d::ds,h=>by
  obtain⟨h1,h2⟩:=List.pairwise_cons.1 h
  cases hd:orgB th day d with
  |true =>
   obtain⟨k1,k2,_⟩:=zDh.1 hd
   have hn:∀e∈ds,orgB th day e=false:=fun e he=>by
    cases hh:orgB th day e with
    |false=>rfl
    |true =>
     obtain⟨k3,k4,_⟩:=zDh.1 hh;exact absurd ⟨k1,k3,k2.trans k4.symm⟩ (h1 e he)
   obtain⟨e1,e2⟩:=org_none (th:=th) (day:=day) ds (zAj d.sh (fun _=>0)) hn;refine .inr ⟨d,bN,hd,?_,?_⟩
   ·unfold zCy
    rw[cO];have:orgF th day (fun _=>0) d=zAj d.sh (fun _=>0):=by unfold orgF;rw[hd];rfl
    rw[this,e1]
   ·show(if orgB th day d=true then zBr d.sh else 0)+orgSum th day ds=_
    rw[hd,e2,aD rfl]
    grind
  |false =>
   have e:zCy th day (d::ds)=zCy th day ds:=by
    unfold zCy;rw[cO];have:orgF th day (fun _=>0) d=(fun _=>0):=by unfold orgF;rw[hd];rfl
    rw[this]
   have e2:orgSum th day (d::ds)=orgSum th day ds:=by
    show(if orgB th day d=true then zBr d.sh else 0)+orgSum th day ds=_
    rw[hd];simp
    grind
   rcases start_one (th:=th) (day:=day) ds h2 with ⟨a,b⟩|⟨x,hx,a,b,c⟩
   ·exact .inl ⟨by rw[e,a],by rw[e2,b]⟩
   ·exact .inr ⟨x,bM _ hx,a,by rw[e,b],by rw[e2,c]⟩
theorem keys_start{th:BA}{day:Int}:∀(ds:List De)(K:List BA),(∀q∈K,q∈ds.foldl (zBa th day) K)/\∀d∈ds,orgB th day d=true->∀s∈d.sh,s.pt∈ds.foldl (zBa th day) K
 |[],_=>⟨fun _ h=>h,fun _ h=>qg⟩
 |d::ds,K=>by
  obtain⟨h1,h2⟩:=keys_start (th:=th) (day:=day) ds (zBa th day K d)
  have hm:∀q∈K,q∈zBa th day K d:=fun q hq=>by
   unfold zBa
   split
   ·exact(zBy _).2 (.inr hq)
   ·exact hq
  refine⟨fun q hq=>h1 q (hm q hq),fun e he ho s hs=>?_⟩
  rcases List.mem_cons.1 he with rfl|he
  ·refine h1 _ ?_
   unfold zBa;rw[aD ho];exact(zBy _).2 (.inl ⟨s,hs,rfl⟩)
  ·exact h2 e he ho s hs
theorem sum_mono{N M:List BA}{f:zAV}(hn:N.Nodup)(hm:M.Nodup)(h1:HoldOk N f)(h2:HoldOk M f):sumF N f=sumF M f:=by
 induction N generalizing M f with
 |nil =>
  have:∀p,f p=0:=fun p=>h1.out p zd
  rw[sumF_congr (N:=M) (g:=fun _=>0) (fun p _=>this p),sumF_zero,sumF_nil]
 |cons a N ih =>
  obtain⟨k1,k2⟩:=List.nodup_cons.1 hn
  have g1:HoldOk N (upH f a 0):=⟨fun p=>by
   by_cases hp:p=a
   ·subst hp;rw[zBv];exact Rat.le_refl
   ·rw[zAJ _ _ hp];exact h1.pos p,fun p hp=>by
   by_cases hpa:p=a
   ·subst hpa;rw[zBv]
   ·rw[zAJ _ _ hpa]
    exact h1.out p (by simp[hpa,hp])⟩
  have g2:HoldOk M (upH f a 0):=⟨g1.pos,fun p hp=>by
   by_cases hpa:p=a
   ·subst hpa;rw[zBv]
   ·rw[zAJ _ _ hpa];exact h2.out p hp⟩
  have e1:sumF N (upH f a 0)=sumF N f:=sumF_congr fun p hp=>zAJ _ _ (fun e=>k1 (by rw[<-e];exact hp))
  have e2:=ih k2 hm g1 g2;rw[zCz,<-e1,e2]
  by_cases ha:a∈M
  ·rw[sumF_up hm ha];grind
  ·have h0:=h2.out a ha
   rw[sumF_congr (N:=M) (g:=f) (fun p hp=>zAJ _ _ (fun e=>ha (by rw[<-e];exact hp))),h0]
   grind
theorem steps_sum(mv:De->Bool):∀(ds:List De)(K:List BA)(f:zAV),(∀d∈ds,mv d=true->d.kd≠5->zCY d.nu d.de<=1)->(∀d∈ds,mv d=true->d.kd=5->zBr d.sh=1)->IncN K->HoldOk K f -> sumF (ds.foldl (zAL mv) K) (ds.foldl (zCP mv) f)=sumF K f
 |[],_,_,_,_,_,_=>rfl
 |d::ds,K,f,hq,h5,h1,h2=>by
  rw[cO,cO]
  cases hm:mv d with
  |false =>
   have e1:zAL mv K d=K:=by unfold zAL;rw[hm];rfl
   have e2:zCP mv f d=f:=by unfold zCP;rw[hm];rfl
   rw[e1,e2];exact steps_sum mv ds K f (fun e he=>hq e (bM _ he)) (fun e he=>h5 e (bM _ he)) h1 h2
  |true =>
   have e1:zAL mv K d=zAK d K:=by unfold zAL;rw[hm];rfl
   have e2:zCP mv f d=zDw d f:=by unfold zCP;rw[hm];rfl
   have g1:=zCQ d h1;have g2:=h2.takeK d (hq d bN hm);rw[e1,e2,steps_sum mv ds _ _ (fun e he=>hq e (bM _ he)) (fun e he=>h5 e (bM _ he)) g1 g2]
   have hs:∀p∈K,p∈zAK d K:=fun p hp=>by
    exact tbr
   rw[sumF_take g1.nodup d f ?_ ?_ ?_ (fun h=>h5 d bN hm h)]
   ·exact sum_mono g1.nodup h1.nodup (h2.mono hs) h2
   ·exact tbp
   ·intro hk
    unfold zAK;rw[aW hk];exact zBP.2 (.inl rfl)
   ·intro hk s hs
    unfold zAK;exact tc9
theorem parts_sum{rs:List Rg}{us:List BA}{ds:List De}(h:zBQ rs us ds=0)(i:Nat)(th use:BA)(day:Int)(n:Nat): IncN (zBY rs ds i th use day n)/\HoldOk (zBY rs ds i th use day n) (zAt rs ds i th use day n)/\sumF (zBY rs ds i th use day n) (zAt rs ds i th use day n)=orgSum th day ds:=by
 have hpar:=zBO h;obtain⟨s1,s2⟩:=start_ok th day ds [] (fun _=>0) List.Pairwise.nil hold_none
 have hmv:∀d∈ds.take n,zCO rs ds i th use day d=true->d.kd≠5->zCY d.nu d.de<=1:=fun d hd hm h5=>by
  have hd':=cQ hd;unfold zCO at hm
  by_cases h2:d.kd=2
  ·exact((hpar d hd').asg h2).2.2.1
  ·rw[aW h2,aW h5]at hm;cases hm
 have h5s:∀d∈ds.take n,zCO rs ds i th use day d=true->d.kd=5->zBr d.sh=1:=fun d hd _ h5=>((hpar d (cQ hd)).pas h5).2.1
 obtain⟨t1,t2⟩:=steps_ok (zCO rs ds i th use day) (ds.take n) (zDf th day ds) (zCy th day ds) hmv s1 s2;refine⟨t1,t2,?_⟩
 have e:=steps_sum (zCO rs ds i th use day) (ds.take n) (zDf th day ds) (zCy th day ds) hmv h5s s1 s2;show sumF (zBY rs ds i th use day n) (zAt rs ds i th use day n)=_
 unfold zBY zAt;rw[e]
 rcases start_one (th:=th) (day:=day) ds (title_org h)with ⟨a,b⟩|⟨d,hd,a,b,c⟩
 ·rw[a,b,sumF_zero]
 ·obtain⟨k1,_,_⟩:=zDh.1 a
  have ho:=((hpar d hd).org k1).1;show sumF (ds.foldl (zBa th day) []) (zCy th day ds)=orgSum th day ds
  rw[b,c,sumF_put s1.nodup d.sh (fun _=>0) (fun s hs=>(keys_start ds []).2 d hd a s hs) ho.nd (fun _ _=>rfl),sumF_zero]
  grind
end Go.Proofs.YtbbchlpccgkikaaGreatDoor
namespace Go.Proofs
open Go.Shelf
end Go.Proofs
namespace Go.Proofs.YtbbchlpccgkikaaGreatDoor
open Go.RowKit Dw
theorem dec_size(u:Nat)(k:Nat)(h:u<10^k)(h1:1<=k):(Lib.decDigits u).length<=k:=by
 induction u using Nat.strongRecOn generalizing k with
 |_ u ih =>
  rw[Lib.decDigits]
  by_cases hu:u<10
  ·rw[dif_pos hu];simpa using h1
  ·rw[dif_neg hu,dI]
   have hk:2<=k:=by
    rcases aQ k 2 with h2|h2
    ·have:k=1:=by omega
     subst this;omega
    ·exact h2
   have:=ih (u/10) za (k-1) (by
    have e:10^k=10^(k-1)*10:=by rw[<-bQ];congr 1;omega
    rw[e]at h;exact Nat.div_lt_of_lt_mul (by rwa [aR])) za
   simp only[bP,dW];omega
end Go.Proofs.YtbbchlpccgkikaaGreatDoor
namespace Go.Proofs.YtbbchlpccgkikaaGreatDoor
open Dw
def zCT(n:Nat):BA:=⟨(Lib.decDigits n).toArray⟩
theorem dig_one(u:Nat)(h:u<10):(UInt8.ofNat (48+u)).toNat=48+u:=by
 rw[UInt8.toNat_ofNat'];omega
theorem dig_all(n:Nat):(Lib.decDigits n).all dgB=true:=by
 induction n using Nat.strongRecOn with
 |_ n ih =>
  rw[Lib.decDigits]
  split
  ·next h=>simp[dgB];omega
  ·next h =>
   rw[List.all_append,ih (n/10) za];simp[dgB]
   omega
theorem dig_val(n:Nat):zBW (Lib.decDigits n)=n:=by
 induction n using Nat.strongRecOn with
 |_ n ih =>
  rw[Lib.decDigits]
  split
  ·next h =>
   show 10*0+((UInt8.ofNat (48+n)).toNat-48)=n
   rw[dig_one n h];omega
  ·next h =>
   rw[decV_snoc,ih (n/10) za,dig_one (n%10) za];omega
theorem dig_len(n k:Nat)(hk:1<=k):(Lib.decDigits n).length<=k↔n<10^k:=by
 constructor
 ·intro h
  have h1:=decV_lt (l:=Lib.decDigits n) fun c hc=>by
   have:=(dgB_iff c).1 (List.all_eq_true.1 (dig_all n) c hc);omega
  rw[dig_val]at h1;exact aB h1 (aV za h)
 ·exact fun h=>dec_size n k h hk
theorem digB_size(n:Nat):(zCT n).size=(Lib.decDigits n).length:=by
 show(Lib.decDigits n).toArray.size=_
 simp
theorem digB_zero:zCT 0=zeroS:=by
 unfold zCT;rw[Lib.decDigits]
 rfl
theorem dg_back{c:UInt8}(h:dgB c=true):UInt8.ofNat (48+(c.toNat-48))=c:=by
 have:=(dgB_iff c).1 h
 apply UInt8.toNat_inj.1
 rw[UInt8.toNat_ofNat'];have:=c.toNat_lt;omega
theorem decV_pos{l:List UInt8}(h:l.all dgB=true)(hne:l≠[])(hh:(l.headD 0).toNat≠48):0<zBW l:=by
 cases l with
 |nil=>exact absurd rfl hne
 |cons a t =>
  rw[List.all_cons,dN]at h;have h1:=(dgB_iff a).1 h.1;have e:=zCK [a] t;rw[List.singleton_append]at e;have e2:zBW [a]=a.toNat-48:=by show 10*0+(a.toNat-48)=_;omega
  rw[e,e2];simp only[List.headD_cons]at hh;have:0<(a.toNat-48)*10^t.length:=dH za (Nat.pow_pos zc);omega
theorem dig_uniq:∀(n:Nat)(l:List UInt8),l.length=n->l.all dgB=true->l≠[]->(l.length=1\/(l.headD 0).toNat≠48)->l=Lib.decDigits (zBW l)
 |0,l,hn,_,hne,_=>absurd (List.length_eq_zero_iff.1 hn) hne
 |n+1,l,hn,hall,hne,hh=>by
  obtain⟨m,c,rfl⟩:∃m c,l=m++[c]:=⟨l.dropLast,l.getLast hne,(List.dropLast_concat_getLast hne).symm⟩;rw[List.all_append,dN]at hall;have hc:dgB c=true:=by simpa using hall.2
  have hc2:=(dgB_iff c).1 hc;rw[decV_snoc]
  cases m with
  |nil =>
   have e:zBW []=0:=rfl;rw[e,Lib.decDigits,dif_pos za];have:10*0+(c.toNat-48)=c.toNat-48:=za;rw[this,dg_back hc]
   rfl
  |cons a t =>
   have hhd:((a::t).headD 0).toNat≠48:=by
    rcases hh with h|h
    ·simp at h
    ·simpa using h
   have ih:=dig_uniq n (a::t) (by simpa using hn) hall.1 zd (.inr hhd);have hp:=decV_pos hall.1 zd hhd;rw[Lib.decDigits,dif_neg za];have e1:(10*zBW (a::t)+(c.toNat-48))/10=zBW (a::t):=za;have e2:(10*zBW (a::t)+(c.toNat-48))%10=c.toNat-48:=za;rw[e1,e2,dg_back hc,<-ih]
def outQ(q:Rat):BA×BA:=(zCT q.num.natAbs,zCT q.den)
theorem den_mk{n:Int}{d:Nat}(hd:d≠0):(mkRat n d).den∣d:=by
 rw[Rat.den_mkRat,aW hd];exact Nat.div_dvd_of_dvd (Nat.gcd_dvd_left _ _)
theorem as_mk{a:Rat}{M:Nat}(hM:M≠0)(h:a.den∣M):∃x:Int,a=mkRat x M:=by
 obtain⟨k,rfl⟩:=h;have hk:k≠0:=fun e=>hM (by rw[e,cP])
 refine⟨a.num*k,?_⟩
 conv=>lhs;rw[<-Rat.mkRat_self a]
 rw[eS a.den_nz hM]
 push_cast
 grind
theorem den_add{a b:Rat}{M:Nat}(hM:M≠0)(ha:a.den∣M)(hb:b.den∣M):(a+b).den∣M:=by
 obtain⟨x,rfl⟩:=as_mk hM ha;obtain⟨y,rfl⟩:=as_mk hM hb
 have:mkRat x M+mkRat y M=mkRat (x+y) M:=by
  rw[Rat.mkRat_add_mkRat _ _ hM hM,eS (eO hM hM) hM]
  push_cast
  grind
 rw[this];exact den_mk hM
theorem den_neg(a:Rat):(-a).den=a.den:=rfl
theorem den_sub{a b:Rat}{M:Nat}(hM:M≠0)(ha:a.den∣M)(hb:b.den∣M):(a-b).den∣M:=by
 have:a-b=a + -b:=by grind
 rw[this];exact den_add hM ha (by rw[den_neg];exact hb)
theorem den_mul{a b:Rat}:(a*b).den∣a.den*b.den:=by
 have h:a*b=mkRat (a.num*b.num) (a.den*b.den):=by
  conv=>lhs;rw[<-Rat.mkRat_self a,<-Rat.mkRat_self b]
  rw[Rat.mkRat_mul_mkRat]
 rw[h];exact den_mk (eO a.den_nz b.den_nz)
structure HoldB (N:List BA) (M:Nat) (f:zAV):Prop where
 ok:HoldOk N f
 nd:N.Nodup
 sum:sumF N f<=1
 den:∀p,(f p).den∣M
 nz:M≠0
theorem sum_ge{N:List BA}{f:zAV}(h:∀p,0<=f p):0<=sumF N f:=by
 induction N with
 |nil=>exact Rat.le_refl
 |cons a N ih=>rw[zCz];have:=h a;grind
theorem le_sum{N:List BA}{f:zAV}(h:∀p,0<=f p){p:BA}(hp:p∈N):f p<=sumF N f:=by
 induction N with
 |nil=>cases hp
 |cons a N ih =>
  rw[zCz]
  rcases List.mem_cons.1 hp with rfl|hp
  ·have:=sum_ge (N:=N) h;grind
  ·have:=ih hp;have:=h a;grind
theorem HoldB.le{N:List BA}{M:Nat}{f:zAV}(h:HoldB N M f)(p:BA):f p<=1:=by
 by_cases hp:p∈N
 ·have:=le_sum h.ok.pos hp;have:=h.sum;grind
 ·rw[h.ok.out p hp];decide
def denP(l:List Sh):Nat:=l.foldr (fun s n=>zAD s.de*n) 1
theorem denP_dvd{l:List Sh}{s:Sh}(h:s∈l):zAD s.de∣denP l:=by
 induction l with
 |nil=>cases h
 |cons a l ih =>
  show _∣zAD a.de*denP l
  rcases List.mem_cons.1 h with rfl|h
  ·exact Nat.dvd_mul_right _ _
  ·exact eT (ih h) (Nat.dvd_mul_left _ _)
theorem denP_nz{l:List Sh}(h:∀s∈l,0<zAD s.de):denP l≠0:=by
 induction l with
 |nil=>decide
 |cons a l ih =>
  show zAD a.de*denP l≠0
  have:=h a bN;exact eO za (ih fun s hs=>h s (bM _ hs))
theorem denP_lt{l:List Sh}(h:∀s∈l,zAD s.de<10^2000):denP l<10^(2000*l.length+1):=by
 induction l with
 |nil=>decide
 |cons a l ih =>
  show zAD a.de*denP l<_
  have h1:=h a bN;have h2:=ih fun s hs=>h s (bM _ hs)
  have e:2000*(a::l).length+1=2000+(2000*l.length+1):=by rw[bP];omega
  obtain⟨u,hu⟩:∃u,u=2000:=⟨_,rfl⟩;rw[e,Nat.pow_add];rw[<-hu]at h1 h2 ⊢
  rcases cN (denP l)with h0|h0
  ·rw[h0,cP]
   exact dH (Nat.pow_pos zc) (Nat.pow_pos zc)
  ·exact Nat.mul_lt_mul'' h1 h2
theorem shSum_app(l m:List Sh):zBr (l++m)=zBr l+zBr m:=by
 induction l with
 |nil=>show zBr m=0+zBr m;grind
 |cons a l ih=>show shQ a+zBr (l++m)=shQ a+zBr l+zBr m;rw[ih];grind
theorem shSum_pos(l:List Sh):0<=zBr l:=by
 induction l with
 |nil=>exact Rat.le_refl
 |cons a l ih=>show 0<=shQ a+zBr l;have:=shQ_pos a;grind
theorem shSum_take(l:List Sh)(j:Nat):zBr (l.take j)<=zBr l:=by
 have h:=shSum_app (l.take j) (l.drop j);rw[cM]at h;have:=shSum_pos (l.drop j)
 grind
theorem shQ_den{s:Sh}(h:0<zAD s.de):(shQ s).den∣zAD s.de:=den_mk za
theorem HoldB.more{N K:List BA}{M:Nat}{f:zAV}(h:HoldB N M f)(hk:K.Nodup)(hs:∀p∈N,p∈K):HoldB K M f:=
 ⟨h.ok.mono hs,hk,by rw[sum_mono hk h.nd (h.ok.mono hs) h.ok];exact h.sum,h.den,h.nz⟩
theorem mul_le{a q:Rat}(ha:0<=a)(h1:a<=1)(hq0:0<=q)(hq:q<=1):0<=a*q/\a*q<=1:=by
 have h2:=Rat.mul_le_mul_of_nonneg_left hq ha;have h3:=Rat.mul_nonneg ha hq0
 grind
theorem HoldB.passMid{N:List BA}{M:Nat}{f:zAV}{fr:BA}{l:List Sh}(h:HoldB N M f)(hf:fr∈N)(hl:∀s∈l,s.pt∈N)(hd:∀s∈l,0<zAD s.de)(h1:zBr l=1):∀j,j<=l.length -> HoldB N (M*denP l) (zBJ (f fr) (l.take j) (upH f fr 0)):=fun j hj=>by
 have hz:=denP_nz hd;have hM:=eO h.nz hz;have hl':∀s∈l.take j,s.pt∈N:=fun s hs=>hl s (cQ hs)
 have k0:HoldOk N (upH f fr 0):=h.ok.up hf Rat.le_refl;refine⟨HoldOk.pass (h.ok.pos fr) _ _ k0 hl',h.nd,?_,?_,hM⟩
 ·rw[sumF_pass h.nd _ _ _ hl',sumF_up h.nd hf]
  have a:=shSum_take l j;have b:=h.sum;have c:=Rat.mul_le_mul_of_nonneg_left (show zBr (l.take j)<=1 by grind) (h.ok.pos fr)
  grind
 ·have key:∀(m:List Sh)(g:zAV),(∀s∈m,s∈l)->(∀p,(g p).den∣M*denP l)->∀p,(zBJ (f fr) m g p).den∣M*denP l:=fun m=>by
   induction m with
   |nil=>exact fun g _ hg=>hg
   |cons s m ih =>
    intro g hs hg;refine ih (upH g s.pt (g s.pt+f fr*shQ s)) (fun t ht=>hs t (bM _ ht)) fun p=>?_
    by_cases hp:p=s.pt
    ·subst hp
     rw[zBv];refine den_add hM (hg _) (eT den_mul (Nat.mul_dvd_mul (h.den fr) ?_));have hsl:=hs s bN;exact eT (shQ_den (hd s hsl)) (denP_dvd hsl)
    ·rw[zAJ _ _ hp];exact hg p
  refine key _ _ (fun s hs=>cQ hs) fun p=>?_
  by_cases hp:p=fr
  ·subst hp;rw[zBv];exact Nat.one_dvd _
  ·rw[zAJ _ _ hp];exact eT (h.den p) (Nat.dvd_mul_right _ _)
theorem HoldB.giveMid{N:List BA}{M:Nat}{f:zAV}{d:De}(h:HoldB N M f)(hf:d.fr∈N)(hq:zCY d.nu d.de<=1)(hd:0<zAD d.de): HoldB N (M*zAD d.de) (upH f d.fr (f d.fr-f d.fr*zCY d.nu d.de))/\(f d.fr*zCY d.nu d.de).den∣M*zAD d.de:=by
 have hM:=eO h.nz (show zAD d.de≠0 by omega);have hx:(f d.fr*zCY d.nu d.de).den∣M*zAD d.de:=eT den_mul (Nat.mul_dvd_mul (h.den _) (den_mk za));have hp:=mul_le (h.ok.pos d.fr) (h.le d.fr) (ratQ_pos d.nu d.de) hq;refine⟨⟨h.ok.up hf (part_le (h.ok.pos _) hq),h.nd,?_,fun p=>?_,hM⟩,hx⟩
 ·rw[sumF_up h.nd hf]
  have:=h.sum
  grind
 ·by_cases hpp:p=d.fr
  ·subst hpp
   rw[zBv];exact den_sub hM (eT (h.den _) (Nat.dvd_mul_right _ _)) hx
  ·rw[zAJ _ _ hpp];exact eT (h.den p) (Nat.dvd_mul_right _ _)
theorem HoldB.give{N:List BA}{M:Nat}{f:zAV}{d:De}(h:HoldB N M f)(hf:d.fr∈N)(ht:d.to_∈N)(hq:zCY d.nu d.de<=1)(hd:0<zAD d.de):HoldB N (M*zAD d.de) (giveF d f):=by
 obtain⟨h1,hx⟩:=h.giveMid hf hq hd;refine⟨h.ok.give d hf ht hq,h.nd,by rw[sumF_give h.nd d f hf ht];exact h.sum,fun p=>?_,h1.nz⟩
 unfold giveF
 by_cases hp:p=d.to_
 ·subst hp
  rw[zBv];exact den_add h1.nz (h1.den _) hx
 ·rw[zAJ _ _ hp];exact h1.den p
def growD(d:De):Nat:=if d.kd=5 then denP d.sh else zAD d.de
theorem HoldB.take{N:List BA}{M:Nat}{f:zAV}{d:De}(h:HoldB N M f)(hp:ParOk d)(hk:d.kd=2\/d.kd=5)(hf:d.fr∈N)(ht:d.kd≠5->d.to_∈N)(hl:d.kd=5->∀s∈d.sh,s.pt∈N):HoldB N (M*growD d) (zDw d f):=by
 unfold growD zDw
 rcases hk with hk|hk
 ·obtain⟨a,b,c,_⟩:=hp.asg hk
  rw[aW za,aW za];exact h.give hf (ht za) c (zCe a)
 ·obtain⟨a,b,_⟩:=hp.pas hk
  rw[aD hk,aD hk];have:=h.passMid hf (hl hk) (fun s hs=>zCe (a.rat s hs)) b d.sh.length (aE _)
  rwa [aG]at this
theorem valS_lt{s:BA}(h:numB s=true)(hs:s.size<=2000):zAD s<10^2000:=by
 have h1:=decV_lt (l:=s.data.toList) fun c hc=>by
  have:=(dgB_iff c).1 (List.all_eq_true.1 (zBc h).1 c hc);omega
 obtain⟨q,hq⟩:∃q,q=2000:=⟨_,rfl⟩;rw[<-hq]at hs ⊢;refine aB h1 (aV za ?_);rw[<-Lib.size_eq];exact hs
theorem ratF_lt{nu de:BA}(h:ratF nu de=0):zAD de<10^2000:=by
 obtain⟨_,h2,_,_,h5⟩:=zCv h;exact valS_lt h2 h5
theorem shs_le{k:Int}{l:List Sh}(h:shF k l=0):zBr l<=1:=by
 obtain⟨h1,h2,_⟩:=shF_ok h;obtain⟨p1,p2⟩:=sumP_toQ (fun s hs=>zCe (h1.rat s hs)) l.length (aE _);rw[aG]at p2;rw[<-p2];exact toQ_le p1 h2
theorem chkD_sh{rs:List Rg}{us:List BA}{pre:List De}{d:De}(h:chkD rs us pre d=0)(hk:d.kd=1\/d.kd=5):shF d.kd d.sh=0:=by
 unfold chkD at h
 have hg:zAl d.kd=false:=by
  unfold zAl
  rcases hk with e|e<;>rw[e]<;>rfl
 rw[hg]at h
 split at h
 ·cases h
 split at h
 ·cases h
 split at h
 ·cases h
 split at h
 ·cases h
 split at h
 ·cases h
 split at h
 ·cases h
 split at h
 ·next h1=>cases h1
 split at h
 ·omega
 unfold divF at h
 split at h
 ·cases h
 split at h
 ·cases h
 split at h
 ·next h1=>exact absurd h h1
 next h1=>simpa using h1
theorem title_sh{rs:List Rg}{us:List BA}{ds:List De}(h:zBQ rs us ds=0):∀d∈ds,(d.kd=1\/d.kd=5)->shF d.kd d.sh=0:=fun d hd hk=>by
 obtain⟨k,hk',rfl⟩:=dO hd;exact chkD_sh ((zAT h).2 k hk') hk
theorem growD_lt{d:De}(hp:ParOk d)(hl:d.sh.length<=20)(hk:d.kd=2\/d.kd=5):growD d<10^40001:=by
 unfold growD
 rcases hk with hk|hk
 ·rw[aW za]
  have h9:=ratF_lt (hp.asg hk).1;obtain⟨a,ha⟩:∃a,a=2000:=⟨_,rfl⟩;obtain⟨b,hb⟩:∃b,b=40001:=⟨_,rfl⟩;rw[<-ha]at h9;rw[<-hb];exact aB h9 (aV za za)
 ·rw[aD hk]
  obtain⟨b,hb⟩:∃b,b=40001:=⟨_,rfl⟩;rw[<-hb];exact aB (denP_lt fun s hs=>ratF_lt ((hp.pas hk).1.rat s hs)) (aV za za)
theorem put_den:∀(l:List Sh)(f:zAV)(M:Nat),M≠0->(∀p,(f p).den∣M)->(∀s∈l,(shQ s).den∣M)->∀p,(zAj l f p).den∣M
 |[],_,_,_,hf,_=>hf
 |s::l,f,M,hM,hf,hs=>put_den l (upH f s.pt (shQ s)) M hM (fun p=>by
   by_cases hp:p=s.pt
   ·subst hp;rw[zBv];exact hs s bN
   ·rw[zAJ _ _ hp];exact hf p) fun t ht=>hs t (bM _ ht)
theorem start_bound{rs:List Rg}{us:List BA}{ds:List De}(h:zBQ rs us ds=0)(th:BA)(day:Int):∃M,HoldB (zDf th day ds) M (zCy th day ds)/\M<10^40001:=by
 obtain⟨s1,s2⟩:=start_ok th day ds [] (fun _=>0) List.Pairwise.nil hold_none
 rcases start_one (th:=th) (day:=day) ds (title_org h)with ⟨a,_⟩|⟨d,hd,a,b,_⟩
 ·refine⟨1,⟨s2,s1.nodup,?_,?_,zc⟩,by obtain⟨b,hb⟩:∃b,b=40001:=⟨_,rfl⟩;rw[<-hb];exact Nat.one_lt_pow za zc⟩
  ·show sumF _ (zCy th day ds)<=1
   rw[a,sumF_zero];decide
  ·intro p
   show((zCy th day ds) p).den∣1
   rw[a];exact Nat.dvd_refl _
 ·obtain⟨k1,_,_⟩:=zDh.1 a
  have ho:=((zBO h d hd).org k1).1;have hsh:=title_sh h d hd (.inl k1);have hz:=denP_nz fun s hs=>zCe (ho.rat s hs)
  refine⟨denP d.sh,⟨s2,s1.nodup,?_,?_,hz⟩,?_⟩
  ·show sumF (ds.foldl (zBa th day) []) (zCy th day ds)<=1
   rw[b,sumF_put s1.nodup d.sh (fun _=>0) (fun s hs=>(keys_start ds []).2 d hd a s hs) ho.nd (fun _ _=>rfl),sumF_zero];have:=shs_le hsh
   grind
  ·intro p
   show((zCy th day ds) p).den∣_
   rw[b];exact put_den d.sh _ _ hz (fun p=>Nat.one_dvd _) (fun s hs=>eT (shQ_den (zCe (ho.rat s hs))) (denP_dvd hs)) p
  ·obtain⟨b,hb⟩:∃b,b=40001:=⟨_,rfl⟩
   rw[<-hb];exact aB (denP_lt fun s hs=>ratF_lt (ho.rat s hs)) (aV za (by have:=shF_len hsh;omega))
theorem keysTake_mem(d:De){K:List BA}:(∀p∈K,p∈zAK d K)/\d.fr∈zAK d K/\(d.kd≠5->d.to_∈zAK d K)/\(d.kd=5->∀s∈d.sh,s.pt∈zAK d K):=by
 unfold zAK;refine⟨fun p hp=>?_,?_,fun hk=>?_,fun hk s hs=>?_⟩
 ·exact tdm
 ·exact tdl
 ·rw[aW hk]
  exact zBP.2 (.inl rfl)
 ·exact tc9
theorem movB_kd{rs:List Rg}{ds:List De}{i:Nat}{th use:BA}{day:Int}{d:De}(h:zCO rs ds i th use day d=true):d.kd=2\/d.kd=5:=by
 unfold zCO at h
 split at h
 ·next h1=>exact .inl h1
 ·split at h
  ·next h2=>exact .inr h2
  ·cases h
theorem take_snoc{l:List De}{k:Nat}(hk:k<l.length):l.take (k+1)=l.take k++[l[k]]:=bA hk
theorem zDu(rs:List Rg){ds:List De}(i:Nat)(th use:BA)(day:Int){n:Nat}(hn:n<ds.length): zAt rs ds i th use day (n+1)=zCP (zCO rs ds i th use day) (zAt rs ds i th use day n) ds[n]/\zBY rs ds i th use day (n+1)=zAL (zCO rs ds i th use day) (zBY rs ds i th use day n) ds[n]:=by
 unfold zAt zBY;rw[take_snoc hn,bB,bB];exact⟨rfl,rfl⟩
theorem zCn{rs:List Rg}{us:List BA}{ds:List De}(h:zBQ rs us ds=0)(i:Nat)(th use:BA)(day:Int):∀n,n<=ds.length->∃M,HoldB (zBY rs ds i th use day n) M (zAt rs ds i th use day n)/\M<10^(40001*(n+1))
 |0,_=>by
  obtain⟨M,h1,h2⟩:=start_bound h th day;exact⟨M,by simpa[zBY,zAt]using h1,by rw[bJ,cR];exact h2⟩
 |n+1,hn=>by
  obtain⟨M,h1,h2⟩:=zCn h i th use day n za;obtain⟨e1,e2⟩:=zDu rs i th use day (show n<ds.length by omega);have hd:=bI (show n<ds.length by omega);rw[e1,e2];generalize ds[n]=d at hd;obtain⟨k1,_,_⟩:=parts_sum h i th use day n
  cases hm:zCO rs ds i th use day d with
  |false =>
   have g1:zAL (zCO rs ds i th use day) (zBY rs ds i th use day n) d=zBY rs ds i th use day n:=by unfold zAL;rw[hm];rfl
   have g2:zCP (zCO rs ds i th use day) (zAt rs ds i th use day n) d=zAt rs ds i th use day n:=by unfold zCP;rw[hm];rfl
   rw[g1,g2];exact⟨M,h1,aB h2 (aV za za)⟩
  |true =>
   have g1:zAL (zCO rs ds i th use day) (zBY rs ds i th use day n) d=zAK d (zBY rs ds i th use day n):=by unfold zAL;rw[hm];rfl
   have g2:zCP (zCO rs ds i th use day) (zAt rs ds i th use day n) d=zDw d (zAt rs ds i th use day n):=by unfold zCP;rw[hm];rfl
   rw[g1,g2];obtain⟨m1,m2,m3,m4⟩:=keysTake_mem d (K:=zBY rs ds i th use day n);have hpar:=zBO h d hd
   have hl:d.sh.length<=20:=by
    obtain⟨k,hk,e⟩:=dO hd;have:=(chkD_lens ((zAT h).2 k hk) (zAT h).1).2.2
    rwa [e]at this
   refine⟨M*growD d,(h1.more (zCQ d k1).nodup m1).take hpar (movB_kd hm) m2 m3 m4,?_⟩
   have:=growD_lt hpar hl (movB_kd hm);have e3:40001*(n+1+1)=40001*(n+1)+40001:=za;rw[e3,Nat.pow_add];exact Nat.mul_lt_mul'' h2 this
def pairs(K:List BA)(f:zAV):List (BA×Rat):=K.map fun q=>(q,f q)
def zCR(K:List BA)(f:zAV):Bool:=K.any fun p=>zDg (f p)
def zBN(rs:List Rg)(ds:List De)(i:Nat)(th use:BA)(day:Int)(n:Nat):Bool:=(List.range n).any fun k=>zCR (zBY rs ds i th use day (k+1)) (zAt rs ds i th use day (k+1))
def zBs(rs:List Rg)(us:List BA)(ds:List De)(th pl use:BA)(day:Int):List (BA×Rat)×Int:=
 if zBQ rs us ds≠0 then ([],zBQ rs us ds) else if zBi th=false then ([],5) else if (leafB rs pl&&memS us use)=false then ([],5) else if zCF day=false then ([],1)
 else if zBN rs ds ((idx rs pl).getD 0) th use day ds.length=true then ([],2)
 else (pairs (holL (zBY rs ds ((idx rs pl).getD 0) th use day ds.length) (zAt rs ds ((idx rs pl).getD 0) th use day ds.length)) (zAt rs ds ((idx rs pl).getD 0) th use day ds.length),0)
theorem toQ_num{p:Nat×Nat}(h:Nat.gcd p.1 p.2=1)(h0:0<p.2):p=((toQ p).num.natAbs,(toQ p).den):=by
 have e:toQ p=(⟨(p.1:Int),p.2,za,by simpa[Nat.Coprime]using h⟩:Rat):=Rat.mkRat_self ⟨(p.1:Int),p.2,za,by simpa[Nat.Coprime]using h⟩;rw[e]
 rfl
theorem lowP_gcd{n d:Nat}(hd:0<d):Nat.gcd (zCN n d).1 (zCN n d).2=1/\0<(zCN n d).2:=by
 have hg:0<Nat.gcd n d:=dS _ hd;exact⟨Nat.coprime_div_gcd_div_gcd hg,Nat.div_pos (Nat.le_of_dvd hd (Nat.gcd_dvd_right _ _)) hg⟩
theorem low_q{n d:Nat}{q:Rat}(hd:0<d)(h:mkRat (n:Int) d=q):zCN n d=(q.num.natAbs,q.den):=by
 obtain⟨h1,h2⟩:=lowP_gcd (n:=n) hd;have:=toQ_num h1 h2;rw[toQ_low hd,h]at this;exact this
theorem abs_num{q:Rat}(h:0<=q):((q.num.natAbs:Nat):Int)=q.num:=by
 have:=Rat.num_nonneg.2 h;omega
theorem as_q{q:Rat}(h:0<=q):q=mkRat ((q.num.natAbs:Nat):Int) q.den:=by
 rw[abs_num h];exact(Rat.mkRat_self q).symm
abbrev prQ(q:Rat):Nat×Nat:=(q.num.natAbs,q.den)
theorem den_q(q:Rat):0<q.den:=Nat.pos_of_ne_zero q.den_nz
theorem addP_q{a b:Rat}(ha:0<=a)(hb:0<=b):addP (prQ a) (prQ b)=prQ (a+b):=by
 unfold addP;refine low_q (dH (den_q a) (den_q b)) ?_
 conv=>rhs;rw[as_q ha,as_q hb]
 rw[Rat.mkRat_add_mkRat _ _ a.den_nz b.den_nz];simp
theorem le_q{a b:Rat}(hb:0<=b)(h:b<=a):b.num.natAbs*a.den<=a.num.natAbs*b.den:=by
 have h1:=(Rat.le_iff b a).1 h;have ha:0<=a:=Rat.le_trans hb h;rw[<-abs_num ha,<-abs_num hb]at h1
 exact_mod_cast h1
theorem subP_q{a b:Rat}(hb:0<=b)(h:b<=a):subP (prQ a) (prQ b)=prQ (a-b):=by
 unfold subP;refine low_q (dH (den_q a) (den_q b)) ?_;have hle:=le_q hb h;have ha:0<=a:=Rat.le_trans hb h
 have key:mkRat (((a.num.natAbs*b.den-b.num.natAbs*a.den:Nat)):Int) (a.den*b.den)+b=a:=by
  conv=>lhs;arg 2;rw[as_q hb]
  conv=>rhs;rw[as_q ha]
  rw[Rat.mkRat_add_mkRat _ _ (eO a.den_nz b.den_nz) b.den_nz,eS (eO (eO a.den_nz b.den_nz) b.den_nz) a.den_nz,Int.ofNat_sub hle]
  push_cast
  grind
 show mkRat (((a.num.natAbs*b.den-b.num.natAbs*a.den:Nat)):Int) (a.den*b.den)=a-b
 grind
def mulP(p q:Nat×Nat):Nat×Nat:=zCN (p.1*q.1) (p.2*q.2)
theorem mulP_q{a b:Rat}(ha:0<=a)(hb:0<=b):mulP (prQ a) (prQ b)=prQ (a*b):=by
 unfold mulP;refine low_q (dH (den_q a) (den_q b)) ?_
 conv=>rhs;rw[as_q ha,as_q hb]
 rw[Rat.mkRat_mul_mkRat];simp
def SzN(k n:Nat):Prop:=(zAc B32 n).length<=k/\(zAc BT n).length<=k
theorem len_pow{B:Nat}(hB:10<=B){n k:Nat}(h:n<10^k):(zAc B n).length<=k:=by
 have hB1:1<B:=za
 rcases cN (zAc B n).length with h0|h0
 ·omega
 ·have:=wval_ge (B:=B) h0 (zCH hB1 h0)
  rw[zAz hB1]at this;refine Nat.le_of_not_lt fun hk=>?_
  have h2:10^k<=B^((zAc B n).length-1):=dC (Nat.pow_le_pow_left hB k) (aV za za);omega
theorem szN_of{n k:Nat}(h:n<10^k):SzN k n:=⟨len_pow zc h,len_pow zc h⟩
theorem SzN.le{n k m:Nat}(h:SzN k n)(hk:k<=m):SzN m n:=⟨dC h.1 hk,dC h.2 hk⟩
def SzQ(k:Nat)(q:Rat):Prop:=SzN k q.num.natAbs/\SzN k q.den
theorem SzQ.le{q:Rat}{k m:Nat}(h:SzQ k q)(hk:k<=m):SzQ m q:=⟨h.1.le hk,h.2.le hk⟩
theorem ratF_gcd{nu de:BA}(h:ratF nu de=0):Nat.gcd (zAD (zBe nu)) (zAD de)=1:=by
 unfold ratF at h
 split at h
 ·cases h
 split at h
 ·cases h
 split at h
 ·next h1=>exact h1
 ·cases h
theorem ratF_prQ{nu de:BA}(h:ratF nu de=0):(zAD (zBe nu),zAD de)=prQ (zCY nu de):=by
 obtain⟨_,h2,h3,_,_⟩:=zCv h;exact toQ_num (ratF_gcd h) (den_pos h2 h3)
open Go.RowKit Dw
def GivesMiI(A:Option Addr)(c n:Nat)(w:World)(e:Ending)(w':World):Prop:=e=.returned (inV (decide (n≠0)) A c n)/\Below w.heap.size w w'
theorem IMinus_c(A:Option Addr)(c n:Nat)(w:World):Calls Tryz.prog 126 #[inV false A c n] w (GivesMiI A c n w):=by
 by_cases h0:n=0
 ·have hl:=wl_zero h0
  have hl2:¬(0:Int)<((zAc B32 n).length:Int):=za;have hd:decide (n≠0)=false:=by simp[h0]
  unfold GivesMiI;rw[hd];clear h0 hd
  go_enter Tryz.func126,Tryz.ntmps126;go_wp2;refine aC (v:=inV false A c n) (by simp[results,Tryz.results126,go_sem,hl]) rfl ⟨rfl,?_⟩
  exact tc2
 ·have hl2:=wl_pos h0
  have hl3:0<(zAc B32 n).length:=za;have hd:decide (n≠0)=true:=by simp[h0]
  unfold GivesMiI;rw[hd];clear h0 hd
  go_enter Tryz.func126,Tryz.ntmps126;go_wp2;refine aC (v:=inV true A c n) (by simp[results,Tryz.results126,go_sem]) rfl ⟨rfl,?_⟩
  exact tc2
theorem RMul_c(A A2 A3 A4:Option Addr)(c c2 c3 c4 n d m e:Nat)(w:World)(h:Nt w A c n)(h2:Nt w A2 c2 d)(h3:Nt w A3 c3 m)(h4:Nt w A4 c4 e)(hn:(zAc B32 n).length<=100000000)(hd:(zAc B32 d).length<=100000000)(hm:(zAc B32 m).length<=100000000)(he:(zAc B32 e).length<=100000000)(hd0:0<d)(he0:0<e): Calls Tryz.prog 148 #[raV false A c n A2 c2 d,raV false A3 c3 m A4 c4 e] w (zCa false (mulP (n,d) (m,e)).1 (mulP (n,d) (m,e)).2 w):=by
 have l1:=zCC n m;have l3:=zCC d e;have HM1:=zq (fun W (x:Nt W A c n) (y:Nt W A3 c3 m)=>IMul_c A A3 c c3 n m W x y za za);have HM3:=zq (fun W (x:Nt W A2 c2 d) (y:Nt W A4 c4 e)=>Mul_c A2 A4 c2 c4 d e W x y za za);have HO:=zq (fun A5 c5 A6 c6 W (x:Nt W A5 c5 (n*m)) (y:Nt W A6 c6 (d*e))=>Over_c A5 A6 c5 c6 (n*m) (d*e) false W x y (dH hd0 he0) za za);simp only[Bool.false_and]at HO;have hap:mulP (n,d) (m,e)=zCN (n*m) (d*e):=rfl;rw[hap];clear hap l1 l3;generalize (zCN (n*m) (d*e)).1=pp at *;generalize (zCN (n*m) (d*e)).2=pq at *;generalize n*m=p1 at *;generalize d*e=p3 at *;have HX0:Hid (Bx (((w.alloc (.cells (raC A c n A2 c2 d) 86)).alloc (.cells (raC A3 c3 m A4 c4 e) 86)).alloc (.cells zBj 86)) w.heap.size (raC A c n A2 c2 d) 86):=((Bx.new _ _ _).alloc _).alloc _;have HY0:Hid (Bx (((w.alloc (.cells (raC A c n A2 c2 d) 86)).alloc (.cells (raC A3 c3 m A4 c4 e) 86)).alloc (.cells zBj 86)) (w.heap.size+1) (raC A3 c3 m A4 c4 e) 86):=(Bx.new1 _ _ _ _).alloc _;have HZ0:Hid (Bx (((w.alloc (.cells (raC A c n A2 c2 d) 86)).alloc (.cells (raC A3 c3 m A4 c4 e) 86)).alloc (.cells zBj 86)) (w.heap.size+1+1) zBj 86):=Bx.new2 _ _ _ _ _;have HB0:Hid (Below w.heap.size w (((w.alloc (.cells (raC A c n A2 c2 d) 86)).alloc (.cells (raC A3 c3 m A4 c4 e) 86)).alloc (.cells zBj 86))):=(((aJ w.heap.size w).alloc (aE _) _).alloc zd _).alloc ze _;obtain⟨W,hW⟩:∃W,W=(((w.alloc (.cells (raC A c n A2 c2 d) 86)).alloc (.cells (raC A3 c3 m A4 c4 e) 86)).alloc (.cells zBj 86)):=⟨_,rfl⟩;have g1:Nt W A c n:=yb;have g2:Nt W A2 c2 d:=zx;have g3:Nt W A3 c3 m:=zy;have g4:Nt W A4 c4 e:=ya;rw[<-hW]at HX0 HY0 HZ0 HB0;clear hn hd hm he hd0 he0
 go_enter Tryz.func148,Tryz.ntmps148;(go_wp2_with fail);rw[<-hW];clear hW;have HX:=zq (HX0.o.drew);have HY:=zq (HY0.o.drew);have HZ:=zq (HZ0.o.drew);have HB:Hid (Below w.heap.size w W.drew):=zAd HB0.o 1;obtain⟨x0,x1,x2⟩:=HX0.o.t;obtain⟨y0,y1,y2⟩:=HY0.o.t;clear HX0 HY0 HZ0 HB0
 go_region_held3 (fun w'=>(w'.cell? ⟨w.heap.size,0,none⟩=some (.bool false)/\w'.cell? ⟨w.heap.size,1,none⟩=some (.slice A (zAc B32 n).length c)/\w'.cell? ⟨w.heap.size,2,none⟩=some (.slice A2 (zAc B32 d).length c2))/\(w'.cell? ⟨w.heap.size+1,0,none⟩=some (.bool false)/\w'.cell? ⟨w.heap.size+1,1,none⟩=some (.slice A3 (zAc B32 m).length c3)/\w'.cell? ⟨w.heap.size+1,2,none⟩=some (.slice A4 (zAc B32 e).length c4)))
  ((refine⟨⟨?_,?_,?_⟩,?_,?_,?_⟩<;>first|with_reducible assumption|go_simp))
  (first
   |((go_at_call 101;(with_reducible refine(HM1.o _ g1.drew g3.drew).mono ?_);rintro e1 w1⟨A5,c5,rfl,h5,hb1⟩;have HX1:=zq (HX.o.below hb1);have HY1:=zq (HY.o.below hb1);have HZ1:=zq (HZ.o.below hb1);have HB1:=zq (HB.o.trans (hb1.mono HB.o.size));have g21:=g2.drew.below hb1;have g41:=g4.drew.below hb1;obtain⟨a0,a1,a2⟩:=HX1.o.t;obtain⟨b0,b1,b2⟩:=HY1.o.t;clear hb1))
   |((go_at_call 166;(with_reducible refine(HM3.o _ g21 g41).mono ?_);rintro e4 w4⟨A8,c8,rfl,h8,hb4⟩;have HX4:=zq (HX1.o.below hb4);have HY4:=zq (HY1.o.below hb4);have HZ4:=zq (HZ1.o.below hb4);have HB4:=zq (zAa HB1.o hb4);have h54:=h5.below hb4;clear a0 a1 a2 b0 b1 b2;obtain⟨a0,a1,a2⟩:=HX4.o.t;obtain⟨b0,b1,b2⟩:=HY4.o.t;clear hb4))
   |((go_at_call 164;(with_reducible refine(HO.o _ _ _ _ _ h54 h8).mono ?_);rintro e5 w5⟨A9,c9,AD,cE,rfl,h9,hF,hb5⟩;have HX5:=zq (HX4.o.below hb5);have HY5:=zq (HY4.o.below hb5);have HZ5:=zq (HZ4.o.below hb5);have HB5:=zq (zAa HB4.o hb5);clear a0 a1 a2 b0 b1 b2;obtain⟨a0,a1,a2⟩:=HX5.o.t;obtain⟨b0,b1,b2⟩:=HY5.o.t;obtain⟨r0,r1,r2⟩:=HZ5.o.t;have fr:=HZ5.o.frozen;have rl:=HZ5.o.lt;clear hb5)))
 clear HX HY HZ HB;go_wp2;refine aC (v:=raV false A9 c9 pp AD cE pq) (by simp[results,Tryz.results148,go_sem,r0,r1,r2]) rfl ⟨A9,c9,AD,cE,rfl,h9.setR HZ5.o _ _ _,hF.setR HZ5.o _ _ _,?_⟩
 exact((HB5.o.setCell ze _).setCell ze _).setCell ze _
theorem RSub_c(A A2 A3 A4:Option Addr)(c c2 c3 c4 n d m e:Nat)(w:World)(h:Nt w A c n)(h2:Nt w A2 c2 d)(h3:Nt w A3 c3 m)(h4:Nt w A4 c4 e)(hn:(zAc B32 n).length<=100000000)(hd:(zAc B32 d).length<=100000000)(hm:(zAc B32 m).length<=100000000)(he:(zAc B32 e).length<=100000000)(hd0:0<d)(he0:0<e)(hle:m*d<=n*e): Calls Tryz.prog 65 #[raV false A c n A2 c2 d,raV false A3 c3 m A4 c4 e] w (zCa false (subP (n,d) (m,e)).1 (subP (n,d) (m,e)).2 w):=by
 have HA:Hid (∀W,Nt W A c n->Nt W A2 c2 d->Nt W A3 c3 m->Nt W A4 c4 e->Calls Tryz.prog 100 #[raV false A c n A2 c2 d,raV (decide (m≠0)) A3 c3 m A4 c4 e] W (zCa false (subP (n,d) (m,e)).1 (subP (n,d) (m,e)).2 W)):=by
  intro W x1 x2 x3 x4
  by_cases h0:m=0
  ·have e1:decide (m≠0)=false:=by simp[h0]
   have e2:subP (n,d) (m,e)=addP (n,d) (m,e):=by
    unfold subP addP;rw[h0];show zCN (n*e-0*d) (d*e)=zCN (n*e+0*d) (d*e)
    rw[Nat.zero_mul,Nat.sub_zero,cZ]
   rw[e1,e2];exact RAdd_c A A2 A3 A4 c c2 c3 c4 n d m e W x1 x2 x3 x4 hn hd hm he hd0 he0
  ·have e1:decide (m≠0)=true:=by simp[h0]
   rw[e1];exact RAddN_c A A2 A3 A4 c c2 c3 c4 n d m e W x1 x2 x3 x4 hn hd hm he hd0 he0 h0 hle
 have HMI:Hid (∀W,Calls Tryz.prog 126 #[inV false A3 c3 m] W fun e w'=>e=.returned (inV (decide (m≠0)) A3 c3 m)/\Below W.heap.size W w'):=fun W=>IMinus_c A3 c3 m W
 generalize decide (m≠0)=ng at *;generalize (subP (n,d) (m,e)).1=pp at *;generalize (subP (n,d) (m,e)).2=pq at *;have HX0:Hid (Bx (((w.alloc (.cells (raC A c n A2 c2 d) 86)).alloc (.cells (raC A3 c3 m A4 c4 e) 86)).alloc (.cells zBj 86)) w.heap.size (raC A c n A2 c2 d) 86):=((Bx.new _ _ _).alloc _).alloc _;have HY0:Hid (Bx (((w.alloc (.cells (raC A c n A2 c2 d) 86)).alloc (.cells (raC A3 c3 m A4 c4 e) 86)).alloc (.cells zBj 86)) (w.heap.size+1) (raC A3 c3 m A4 c4 e) 86):=(Bx.new1 _ _ _ _).alloc _;have HZ0:Hid (Bx (((w.alloc (.cells (raC A c n A2 c2 d) 86)).alloc (.cells (raC A3 c3 m A4 c4 e) 86)).alloc (.cells zBj 86)) (w.heap.size+1+1) zBj 86):=Bx.new2 _ _ _ _ _;have HB0:Hid (Below w.heap.size w (((w.alloc (.cells (raC A c n A2 c2 d) 86)).alloc (.cells (raC A3 c3 m A4 c4 e) 86)).alloc (.cells zBj 86))):=(((aJ w.heap.size w).alloc (aE _) _).alloc zd _).alloc ze _;obtain⟨W,hW⟩:∃W,W=(((w.alloc (.cells (raC A c n A2 c2 d) 86)).alloc (.cells (raC A3 c3 m A4 c4 e) 86)).alloc (.cells zBj 86)):=⟨_,rfl⟩;have g1:Nt W A c n:=yb;have g2:Nt W A2 c2 d:=zx;have g3:Nt W A3 c3 m:=zy;have g4:Nt W A4 c4 e:=ya;rw[<-hW]at HX0 HY0 HZ0 HB0;clear hn hd hm he hd0 he0 hle
 go_enter Tryz.func65,Tryz.ntmps65;(go_wp2_with fail);rw[<-hW];clear hW;have HX:=zq (HX0.o.drew);have HY:=zq (HY0.o.drew);have HZ:=zq (HZ0.o.drew);have HB:Hid (Below w.heap.size w W.drew):=zAd HB0.o 1;obtain⟨x0,x1,x2⟩:=HX0.o.t;obtain⟨y0,y1,y2⟩:=HY0.o.t;clear HX0 HY0 HZ0 HB0
 go_region_held3 (fun w'=>(w'.cell? ⟨w.heap.size,0,none⟩=some (.bool false)/\w'.cell? ⟨w.heap.size,1,none⟩=some (.slice A (zAc B32 n).length c)/\w'.cell? ⟨w.heap.size,2,none⟩=some (.slice A2 (zAc B32 d).length c2))/\(w'.cell? ⟨w.heap.size+1,0,none⟩=some (.bool false)/\w'.cell? ⟨w.heap.size+1,1,none⟩=some (.slice A3 (zAc B32 m).length c3)/\w'.cell? ⟨w.heap.size+1,2,none⟩=some (.slice A4 (zAc B32 e).length c4)))
  ((refine⟨⟨?_,?_,?_⟩,?_,?_,?_⟩<;>first|with_reducible assumption|go_simp))
  (first
   |((go_at_call 126;(with_reducible refine(HMI.o _).mono ?_);rintro e1 w1⟨rfl,hb1⟩;have HX1:=zq (HX.o.below hb1);have HY1:=zq (HY.o.below hb1);have HZ1:=zq (HZ.o.below hb1);have HB1:=zq (HB.o.trans (hb1.mono HB.o.size));have g11:=g1.drew.below hb1;have g21:=g2.drew.below hb1;have g31:=g3.drew.below hb1;have g41:=g4.drew.below hb1;obtain⟨a0,a1,a2⟩:=HX1.o.t;obtain⟨b0,b1,b2⟩:=HY1.o.t;clear hb1))
   |((go_at_call 100;(with_reducible refine(HA.o _ g11 g21 g31 g41).mono ?_);rintro e5 w5⟨A9,c9,AD,cE,rfl,h9,hF,hb5⟩;have HX5:=zq (HX1.o.below hb5);have HY5:=zq (HY1.o.below hb5);have HZ5:=zq (HZ1.o.below hb5);have HB5:=zq (zAa HB1.o hb5);clear a0 a1 a2 b0 b1 b2;obtain⟨a0,a1,a2⟩:=HX5.o.t;obtain⟨b0,b1,b2⟩:=HY5.o.t;obtain⟨r0,r1,r2⟩:=HZ5.o.t;have fr:=HZ5.o.frozen;have rl:=HZ5.o.lt;clear hb5)))
 clear HX HY HZ HB;go_wp2;refine aC (v:=raV false A9 c9 pp AD cE pq) (by simp[results,Tryz.results65,go_sem,r0,r1,r2]) rfl ⟨A9,c9,AD,cE,rfl,h9.setR HZ5.o _ _ _,hF.setR HZ5.o _ _ _,?_⟩
 exact((HB5.o.setCell ze _).setCell ze _).setCell ze _
end Go.Proofs.YtbbchlpccgkikaaGreatDoor
namespace Go.Proofs.YtbbchlpccgkikaaGreatDoor
open Dw
structure RevD (n0 a:Nat) (r:List UInt8):Prop where
 all:r.all dgB=true
 val:n0=a*10^r.length+zBW r.reverse
theorem RevD.start(n:Nat):RevD n n []:=⟨rfl,by simp[zBW]⟩
theorem RevD.step{n0 a:Nat}{r:List UInt8}(h:RevD n0 a r):RevD n0 (a/10) (r++[UInt8.ofNat (48+a%10)]):=by
 have hd:=dig_one (a%10) za;refine⟨?_,?_⟩
 ·rw[List.all_append,h.all]
  simp[dgB]
  omega
 ·rw[dI,List.reverse_append,List.reverse_singleton,List.length_singleton,zCK,List.length_reverse]
  have e:zBW [UInt8.ofNat (48+a%10)]=a%10:=by
   show 10*0+((UInt8.ofNat (48+a%10)).toNat-48)=_
   rw[hd];omega
  rw[e,h.val,bQ];have h3:a=a/10*10+a%10:=za;generalize hp:10^r.length=p
  have e4:a/10*(p*10)+(a%10*p+zBW r.reverse)=(a/10*10+a%10)*p+zBW r.reverse:=by
   rw[bT,bS,aR 10 p];omega
  rw[e4,<-h3]
theorem RevD.done{n0:Nat}{r:List UInt8}(h:RevD n0 0 r)(hne:r≠[])(hl:r.length=1\/(r.getLast hne).toNat≠48):r.reverse=Lib.decDigits n0:=by
 have e:n0=zBW r.reverse:=by rw[h.val];omega
 rw[e];refine dig_uniq r.reverse.length r.reverse rfl (by rw[List.all_reverse];exact h.all) (by simpa using hne) ?_
 rcases hl with h1|h1
 ·exact .inl qc
 ·right
  have:r.reverse.headD 0=r.getLast hne:=by
   rw[List.headD_eq_head?_getD,List.head?_reverse,List.getLast?_eq_some_getLast hne]
   rfl
  rw[this];exact h1
structure TxI (n0 q n k:Nat) (r:List UInt8):Prop where
 rev:RevD n0 (q*10^(9-k)+n) r
 lt:n<10^(9-k)
 fin:q=0->n=0->∃h:r≠[],(r.getLast h).toNat≠48
theorem TxI.start{n0 a:Nat}{r:List UInt8}(h:RevD n0 a r)(ha:a≠0):TxI n0 (a/1000000000) (a%1000000000) 0 r:=by
 refine⟨?_,?_,fun h1 h2=>?_⟩
 ·have e:a/1000000000*10^(9-0)+a%1000000000=a:=by
   have e9:(10:Nat)^(9-0)=1000000000:=zc;rw[e9];omega
  rw[e];exact h
 ·have e9:(10:Nat)^(9-0)=1000000000:=by decide
  rw[e9];omega
 ·exfalso;omega
theorem TxI.step{n0 q n k:Nat}{r:List UInt8}(h:TxI n0 q n k r)(hk:k<9)(hp:0<q\/0<n):TxI n0 q (n/10) (k+1) (r++[UInt8.ofNat (48+n%10)]):=by
 obtain⟨h1,h2,_⟩:=h;obtain⟨P,hP⟩:∃P,P=10^(9-(k+1)):=⟨_,rfl⟩;have e:10^(9-k)=P*10:=by rw[hP,<-bQ];congr 1;omega
 rw[e]at h1 h2;have e3:q*(P*10)=q*P*10:=(bS _ _ _).symm;rw[e3]at h1;have h4:=h1.step;have e1:(q*P*10+n)/10=q*P+n/10:=za;have e2:(q*P*10+n)%10=n%10:=za;rw[e1,e2]at h4;refine⟨by rw[<-hP];exact h4,by rw[<-hP];omega,fun hq hn=>⟨zd,?_⟩⟩
 have e9:∀(c:UInt8)(h:r++[c]≠[]),(r++[c]).getLast h=c:=fun c h=>zd
 rw[e9,dig_one (n%10) za];omega
theorem TxI.done{n0 q n k:Nat}{r:List UInt8}(h:TxI n0 q n k r)(hk:k=9\/(q=0/\n=0)):RevD n0 q r/\(q=0->∃h:r≠[],(r.getLast h).toNat≠48):=by
 obtain⟨h1,h2,h3⟩:=h
 rcases hk with rfl|⟨rfl,rfl⟩
 ·have e9:(10:Nat)^(9-9)=1:=by decide
  rw[e9]at h1 h2;obtain rfl:n=0:=za;rw[cR,cZ]at h1;exact⟨h1,fun hq=>h3 hq rfl⟩
 ·rw[Nat.zero_mul,cZ]at h1
  exact⟨h1,fun _=>h3 rfl rfl⟩
theorem rev_digits{n0:Nat}{r:List UInt8}(h:RevD n0 0 r)(hl:∃h:r≠[],(r.getLast h).toNat≠48):r.reverse=Lib.decDigits n0:=by
 obtain⟨hne,h2⟩:=hl;exact h.done hne (.inr h2)
def Swp(r:List UInt8)(i:Nat)(L:List UInt8):Prop:=L.length=r.length/\∀x:Nat,L[x]?=if x<i\/r.length<=x+i then r.reverse[x]? else r[x]?
theorem Swp.start(r:List UInt8):Swp r 0 r:=by
 refine⟨rfl,fun x=>?_⟩
 split
 ·next h=>rw[List.getElem?_eq_none za,List.getElem?_eq_none (by rw[List.length_reverse];omega)]
 ·rfl
theorem Swp.get{r L:List UInt8}{i j:Nat}(h:Swp r i L)(hij:i+j+1=r.length)(hl:i<j):∃(h1:i<L.length)(h2:j<L.length),(some L[i]=r[i]?)/\(some L[j]=r[j]?):=by
 obtain⟨h1,h2⟩:=h;have a:=h2 i;have b:=h2 j;rw[aW za]at a b;refine⟨za,za,?_,?_⟩
 ·rw[<-a,List.getElem?_eq_getElem]
 ·rw[<-b,List.getElem?_eq_getElem]
theorem Swp.step{r L:List UInt8}{i j:Nat}{a b:UInt8}(h:Swp r i L)(hij:i+j+1=r.length)(hl:i<j)(ha:some a=r[j]?)(hb:some b=r[i]?):Swp r (i+1) ((L.set i a).set j b):=by
 obtain⟨h1,h2⟩:=h;refine⟨qc,fun x=>?_⟩;rw[List.getElem?_set,List.getElem?_set]
 by_cases hx:j=x
 ·subst hx
  rw[aD rfl,aD (by rw[aF];omega),aD za,List.getElem?_reverse za,hb]
  congr 1
  omega
 ·rw[aW hx]
  by_cases hy:i=x
  ·subst hy
   rw[aD rfl,aD za,aD za,List.getElem?_reverse za,ha]
   congr 1
   omega
  ·rw[aW hy,h2 x]
   by_cases hc:x<i\/r.length<=x+i
   ·rw[aD hc,aD za]
   ·rw[aW hc,aW za]
theorem Swp.done{r L:List UInt8}{i:Nat}(h:Swp r i L)(hl:r.length<=2*i+1):L=r.reverse:=by
 obtain⟨h1,h2⟩:=h;refine List.ext_getElem? fun x=>?_
 rw[h2 x]
 split
 ·rfl
 ·next hc =>
  rw[List.getElem?_reverse za]
  congr 1
  omega
open Go.RowKit Dw
abbrev encB:UInt8->List Value:=fun c=>[.int .u8 (c.toNat:Int)]
theorem elB:ElemT Tryz.prog 217 5 (.int .u8 0) 1 1:=⟨Tryz.underlying217,zb,rfl,zc⟩
abbrev OwnB(w:World)(base:Nat)(v:Value)(l:List UInt8):Prop:=zAs encB 1 w base 5 v l
theorem rev_len{n0 a k:Nat}{r:List UInt8}(h:RevD n0 a r)(ha:0<a)(hn:(zAc B32 n0).length<=k):r.length<=10*k:=by
 have h1:=zCf zAn n0
 have h2:10^r.length<=n0:=by
  rw[h.val];exact dC (Nat.le_mul_of_pos_left _ ha) (dG _ _)
 have h3:B32^(zAc B32 n0).length<=10^(10*k):=by
  rw[Nat.pow_mul];exact dC (Nat.pow_le_pow_left (show B32<=10^10 by decide) _) (aV zc hn)
 refine Nat.le_of_not_lt fun hk=>?_
 have h4:10^(10*k)<=10^r.length:=aV zc za;omega
theorem digB_len{n k:Nat}(h:(zAc B32 n).length<=k):(zCT n).size<=10*k+1:=by
 rw[digB_size];have h1:=zCf zAn n
 have h3:B32^(zAc B32 n).length<=10^(10*k):=by
  rw[Nat.pow_mul];exact dC (Nat.pow_le_pow_left (show B32<=10^10 by decide) _) (aV zc h)
 refine(dig_len n (10*k+1) za).2 (aB h1 (dC h3 (aV zc za)))
theorem encB_flat(L:List UInt8):L.flatMap encB=L.map fun c=>Value.int .u8 (c.toNat:Int):=flat1 L
theorem OwnB.get{w:World}{B g c n:Nat}{L:List UInt8}(h:OwnB w B (.slice (some ⟨g,0,none⟩) n c) L)(hn:n=L.length)(i:Nat)(hi:i<L.length):w.cell? ⟨g,i,none⟩=some (.int .u8 (L[i].toNat:Int))/\w.frozen? ⟨g,i,none⟩=false:=by
 subst hn;unfold OwnB zAs at h;rw[encB_flat]at h;have h1:=dK h i za;exact⟨by rw[h1];simp[hi],dL h i⟩
theorem OwnB.put{w:World}{B g c n:Nat}{L:List UInt8}(h:OwnB w B (.slice (some ⟨g,0,none⟩) n c) L)(hn:n=L.length)(i:Nat)(x:UInt8): OwnB (w.setCell ⟨g,i,none⟩ (.int .u8 (x.toNat:Int))) B (.slice (some ⟨g,0,none⟩) n c) (L.set i x):=by
 subst hn;unfold OwnB zAs at h ⊢;rw[encB_flat]at h ⊢;have h1:=(dM h i (.int .u8 (x.toNat:Int))).1;rw[List.map_set,aF];exact h1
theorem OwnB.lo{w:World}{B g c n:Nat}{L:List UInt8}(h:OwnB w B (.slice (some ⟨g,0,none⟩) n c) L):B<=g:=(zAM h rfl).1
theorem len_powB{B:Nat}(hB:1<B){n k:Nat}(h:n<B^k):(zAc B n).length<=k:=by
 rcases cN (zAc B n).length with h0|h0
 ·omega
 ·have:=wval_ge (B:=B) h0 (zCH hB h0)
  rw[zAz hB]at this;refine Nat.le_of_not_lt fun hk=>?_
  have h2:B^k<=B^((zAc B n).length-1):=aV za za;omega
theorem trim_a(A:Option Addr)(c:Nat)(L:List Nat)(w:World)(hn:L.length<=1000000000)(hc:L.length<=c)(h:Wds w A L)(hl:WLt B32 L){n:Nat}(hv:zAk B32 L=n): Calls Tryz.prog 225 #[.slice A L.length c] w fun e w'=>e=.returned (ntV A c n)/\Nt w A c n/\w'=w:=by
 have e:zBm L=zAc B32 n:=by rw[wtrim_words zAn hl,hv]
 refine(trim_c A c L w hn hc h).mono ?_;rintro _ _⟨rfl,rfl⟩;refine⟨by rw[e],⟨?_,?_⟩,rfl⟩
 ·exact tas
 ·rw[<-e];have:=wtrim_len L;omega
def GivesNNf(q r:Nat)(w:World)(e:Ending)(w':World):Prop:=
 ∃g c A2 c2,e=.returned (.tuple #[ntV (some ⟨g,0,none⟩) c q,ntV A2 c2 r])/\Nt w' (some ⟨g,0,none⟩) c q/\Nt w' A2 c2 r/\Below w.heap.size w w'/\w.heap.size<=g/\g<w'.heap.size
theorem divWord_f(A:Option Addr)(c a b:Nat)(w:World)(h:Nt w A c a)(hn:(zAc B32 a).length<=900000000)(hb1:1<=b)(hb2:b<=4294967295): Calls Tryz.prog 194 #[ntV A c a,.int .u64 (b:Int)] w (GivesNNf (a/b) (a%b) w):=by
 have hmk:∀w:World,(Instr.makeSlice 82 (.int .i64 ((zAc B32 a).length:Int)) (.int .i64 ((zAc B32 a).length:Int))).run Tryz.prog w =
   .ok (.slice (some ⟨w.heap.size,0,none⟩) (zAc B32 a).length (zAc B32 a).length) (w.alloc (.cells (Array.replicate (zAc B32 a).length (.int .u32 0)) 254)):=mk_nat _ za
 unfold ntV;have hl:=zAX zAn a;have HVA:=zq (zAz zAn a);obtain⟨h,hcap⟩:=h;generalize zAc B32 a=l at *
 go_enter Tryz.func194,Tryz.ntmps194;go_wp2;clear hmk;have hnew:=zBD.new w l.length;have hbel:Below w.heap.size w (w.alloc (.cells (Array.replicate l.length (.int .u32 0)) 254)):=(aJ _ _).alloc (aE _) _;obtain⟨g,hg⟩:∃g,g=w.heap.size:=⟨_,rfl⟩;rw[<-hg]at hnew;obtain⟨w1,hw1⟩:∃w1,w1=w.alloc (.cells (Array.replicate l.length (.int .u32 0)) 254):=⟨_,rfl⟩;rw[<-hw1]at hnew hbel;rw[<-hg,<-hw1];have HG:=zq hg;have HB:=zq hbel;clear hg hbel hw1
 go_loopg[7,8] l.length (DwRel w g l b)
 case atStart=>exact⟨0,List.replicate l.length 0,_,aE _,rfl,rfl,rfl,za,hnew,zd,WLt.zeros zBI _,by rw[aY (aE _),aY zd];simp[zAk],HB.o,yh⟩
 case round =>
  obtain⟨rr,Q,z,hm,hz,rfl,rfl,hrr,hA,hQ,hLt,hV,hbw,hwg⟩:=hrel;have HV:=zq hV;have HQ:=zq hQ;clear hV hQ
  rcases cN gk with h0|h0
  ·subst h0
   obtain rfl:z=-1:=hz
   have HT:Hid (zAk B32 Q=a/b/\rr=a%b):=by
    exact tay
   (go_wp2_with fail);have hq2:=HQ.o;rw[<-hq2];(with_reducible refine(trim_a _ _ Q _ za (aE _) (by have:=hA.rd Q.length;rwa [aG]at this) hLt HT.o.1).mono ?_);rintro e w' ⟨rfl,hn1,rfl⟩;clear hq2;(go_wp2_with fail);have hnat:=natOf_c rr w' za;rw[HT.o.2]at hnat;rw[HT.o.2];(with_reducible refine hnat.mono ?_);rintro e w'' ⟨A2,c2,rfl,hn2,hb2'⟩;clear hnat;go_wp2;go_ret2
   exact⟨_,_,A2,c2,rfl,hn1.below hb2',hn2,hbw.trans (hb2'.mono hbw.size),hwg,aB hA.lt hb2'.size⟩
  ·exact tae
def TxR(w:World)(n0:Nat)(m:Nat)(av ov:Value)(wr:World):Prop:=
 ∃A c r v,v=ov/\av=ntV A c m/\Nt wr A c m/\(zAc B32 m).length<=100000000/\OwnB wr w.heap.size v r/\RevD n0 m r/\(m=0->∃h:r≠[],(r.getLast h).toNat≠48)/\Below w.heap.size w wr
def TxR2(w:World)(n0:Nat)(gq c q:Nat)(m:Nat)(ov nv kv:Value)(wr:World):Prop:=
 ∃(k n:Nat)(r:List UInt8)(v:Value),v=ov/\k+m=9/\kv=.int .i64 (k:Int)/\nv=.int .u64 (n:Int)/\TxI n0 q n k r/\Nt wr (some ⟨gq,0,none⟩) c q/\OwnB wr w.heap.size v r/\v.ownBlock≠some gq/\gq<wr.heap.size/\Below w.heap.size w wr
def TxR3(w:World)(r:List UInt8)(g c:Nat)(m:Nat)(iv jv:Value)(wr:World):Prop:=
 ∃(i:Nat)(z:Int)(L:List UInt8),i+m=r.length/\z=(r.length:Int)-1-i/\iv=.int .i64 (i:Int)/\jv=.int .i64 z/\Swp r i L/\OwnB wr w.heap.size (.slice (some ⟨g,0,none⟩) r.length c) L/\Below w.heap.size w wr
theorem Nt.push{w w':World}{g c n:Nat}{o:Obj}{row:Option Nat}(h:Nt w (some ⟨g,0,none⟩) c n)(hg:(w.alloc o).grownBy w' row)(hne:row≠some g):Nt w' (some ⟨g,0,none⟩) c n:=by
 have h2:=h.alloc o;refine⟨fun hl=>?_,h2.cap⟩
 obtain⟨b,o2,e,hc⟩:=h2.rd hl
 injection e with e
 injection e with e3 e4 _
 subst e3;subst e4;exact⟨g,0,rfl,fun i hi=>hg.cell (hc i hi) fun e=>hne e.symm⟩
theorem text_zero(A:Option Addr)(c:Nat)(w:World):Calls Tryz.prog 149 #[ntV A c 0] w (zAg (.string (zCT 0)) w):=by
 rw[digB_zero]
 go_enter Tryz.func149,Tryz.ntmps149;go_wp2;go_ret
 exact zAg.mk rfl (aJ _ _)
theorem text_c(A:Option Addr)(c n:Nat)(w:World)(h:Nt w A c n)(hn:(zAc B32 n).length<=100000000):Calls Tryz.prog 149 #[ntV A c n] w (zAg (.string (zCT n)) w):=by
 by_cases h0:n=0
 ·subst h0
  exact text_zero A c w
 have hl:=pos_len (n:=n) za;have hlb:(((zAc B32 n).length:Int) == 0)=false:=by simp;intro e;rw[e]at hl;simp at hl
 have HN:=zq hn;have HN0:=zq h0;have HNT:=zq h;clear hl hn h0 h
 go_enter Tryz.func149,Tryz.ntmps149;go_wp2
 go_loopg[0,3] n (TxR w n)
 case atStart=>exact⟨A,c,[],_,rfl,rfl,HNT.o,HN.o,zAs.nil _ _ _ _ _,RevD.start n,fun e=>absurd e HN0.o,aJ _ _⟩
 clear hlb
 case round =>
  obtain⟨A',c',r,v,rfl,rfl,hnt,hlm,hown,hrev,hfin,hb⟩:=hrel
  by_cases hm:gk=0
  case neg =>
   have hl2:(0:Int)<((zAc B32 gk).length:Int):=wl_pos hm;have HDV:Hid (Calls Tryz.prog 194 #[ntV A' c' gk,.int .u64 1000000000] wr (GivesNNf (gk/1000000000) (gk%1000000000) wr)):=divWord_f A' c' gk 1000000000 wr hnt za za za;have HRV:=zq hrev;have HM:=zq hm;have HLM:=zq hlm;have HOW:=zq hown;have HB:=zq hb;clear hnt hlm hown hrev hfin hb hm;(go_wp2_with fail);(with_reducible refine HDV.o.mono ?_);rintro e w1⟨gq,c5,A6,c6,rfl,h5,h6,hb1,hgq,hgl⟩
   have HNE:Hid (v.ownBlock≠some gq):=fun e=>by
    have:=(bL HOW.o gq e).2;omega
   have hr1:(zAc B32 (gk%1000000000)).length<=2:=dC (len_powB (k:=1) zAn (by have:=bZ gk (show 0<1000000000 by decide);rw[zBZ];omega)) za;have HSM:=zq (zCx A6 c6 (gk%1000000000) w1 h6 hr1);have HTX:=zq (TxI.start HRV.o HM.o);have HQ:Hid (gk/1000000000<gk):=Nat.div_lt_self (Nat.pos_of_ne_zero HM.o) zc;have hql:(zAc B32 (gk/1000000000)).length<=100000000:=dC (zAI zAn (Nat.div_le_self _ _)) HLM.o;have HQL:=zq hql;clear hr1 hql;generalize gk/1000000000=q at *;generalize gk%1000000000=n1 at *;(go_wp2_with fail);(with_reducible refine HSM.o.mono ?_);rintro e w2⟨rfl,nd,rfl⟩;have HOW2:=zq ((HOW.o.below hb1).drewN nd);have HB2:=zq (zAd (zAa HB.o hb1) nd);have HNT2:=zq (h5.drewN nd);have HGL:Hid (gq<(w1.drewN nd).heap.size):=hgl;clear hb1 h5 h6 HSM HOW HB HRV HLM hl2 hgq hgl;go_wp2
   go_loopg[3,6,8] 9 (TxR2 w n gq c5 q)
   case atStart=>exact⟨0,n1,r,_,rfl,rfl,rfl,rfl,HTX.o,HNT2.o,HOW2.o,HNE.o,HGL.o,HB2.o⟩
   clear HTX HNT2 HOW2 HB2 HNE HGL
   case round =>
    obtain⟨k,n2,r2,v2,rfl,hkm,rfl,rfl,htx,hnt,how,hne,hgl,hb⟩:=hrel;have HNE:=zq hne;have HGL:=zq hgl;have HKM:=zq hkm;have HTX:=zq htx;have HNT:=zq hnt;have HOW:=zq how;have HB:=zq hb;have hws:w.heap.size<=wr.heap.size:=hb.size
    have hn9:n2<=1000000000:=by
     have h1:=htx.lt;have h2:10^(9-k)<=10^9:=aV zc za;have h3:(10:Nat)^9=1000000000:=zc;omega
    clear hkm htx hnt how hb hne hgl
    by_cases hgo:k<9/\(0<q\/0<n2)
    ·obtain⟨hk9,hqn⟩:=hgo
     have HTS:=zq (HTX.o.step hk9 hqn)
     have hrl:r2.length<=1000000000:=by
      have h1:=rev_len HTX.o.rev (by
       rcases hqn with h|h
       ·exact aB (dH h (Nat.pow_pos zc)) (dG _ _)
       ·exact aB h (Nat.le_add_left _ _)) HN.o
      omega
     have hgt:((0:Int)<((zAc B32 q).length:Int)/\¬zAc B32 q=[])\/((zAc B32 q).length=0/\decide (0<n2)=true/\0<n2):=by
      by_cases hq:q=0
      ·exact .inr ⟨wl_zero hq,aT za,za⟩
      ·exact .inl ⟨wl_pos hq,fun e=>hq ((zCA zAn).1 e)⟩
     obtain⟨ch,hch⟩:∃ch,ch=UInt8.ofNat (48+n2%10):=⟨_,rfl⟩
     have HNEW:Hid (∀W:World,(W.alloc (.cells #[.int .u8 (48+(n2:Int)%10)] 5)).heap[W.heap.size]?=some (.cells (encB ch).toArray 5 (0,0))):=fun W=>by
      have e:(ch.toNat:Int)=48+(n2:Int)%10:=by rw[hch,dig_one (n2%10) za];omega
      rw[aK];show some (Obj.cells #[Value.int .u8 (48+(n2:Int)%10)] 5 (0,0))=some (Obj.cells #[Value.int .u8 (ch.toNat:Int)] 5 (0,0))
      rw[e]
     rw[<-hch]at HTS;clear hqn HTX hch
     rcases hgt with ⟨hgt,hgt2⟩|⟨hgt,hgt2,hgt3⟩
     all_goals
      go_wp2_with (at_builtin;refine zBC _ _ _ elB rfl rfl w.heap.size v2 r2 rfl (HOW.o.alloc _) wr.heap.size 1 ch rfl (HNEW.o wr) rfl zt zm za ze ?_;intro A1 c1 w4 hown4 hg4 hb4 hor4)
      have HO4:=zq hown4;have HB4:=zq ((HB.o.alloc hws _).trans hb4);have HN4:Hid (Nt w4 (some ⟨gq,0,none⟩) c5 q):=Nt.push HNT.o hg4 HNE.o
      have HGL4:Hid (gq<w4.heap.size):=by
       have h1:=hg4.size;have h2:=HGL.o;simp at h1
       show gq<w4.heap.size
       omega
      have HNE4:Hid ((Value.slice A1 (r2.length+1) c1).ownBlock≠some gq):=by
       rcases hor4 with h|h
       ·show _≠_;rw[h];exact HNE.o
       ·show _≠_
        rw[h];intro e
        injection e with e
        have:=HGL.o;simp at e
        omega
      clear hown4 hg4 hb4 hor4;go_wp2
      go_roundg (gk-1)
      case measure=>have:=HKM.o;omega
      case rel=>exact⟨k+1,n2/10,_,_,rfl,by have:=HKM.o;omega,zi,by first|rfl|go_num,HTS.o,HN4.o,HO4.o,HNE4.o,HGL4.o,HB4.o⟩
    ·have HTD:=zq (HTX.o.done (by have:=HKM.o;omega))
     have hx:(¬(k:Int)<9)\/((k:Int)<9/\(zAc B32 q).length=0/\n2=0):=by
      by_cases hk9:k<9
      ·exact .inr ⟨za,wl_zero za,za⟩
      ·exact .inl za
     clear hgo HTX
     rcases hx with hx|⟨hx,hx2,rfl⟩
     all_goals
      go_wp2
      go_roundg q
      case measure=>exact HQ.o
      case rel=>exact⟨some ⟨gq,0,none⟩,c5,r2,_,rfl,rfl,HNT.o,HQL.o,HOW.o,HTD.o.1,HTD.o.2,HB.o⟩
  case pos =>
   subst hm;have HRD:=zq (rev_digits hrev (hfin rfl))
   have hrl:r.length<=1000000001:=by
    have h1:=digB_len HN.o;rw[digB_size,<-HRD.o,List.length_reverse]at h1;omega
   have hr0:0<r.length:=List.length_pos_iff.2 (hfin rfl).1
   obtain⟨g,cap,rfl⟩:∃g cap,v=.slice (some ⟨g,0,none⟩) r.length cap:=by
    rcases hown.2 with ⟨_,h⟩|⟨g,cap,cur,h,_⟩
    ·omega
    ·exact⟨g,cap,h⟩
   have HOW:=zq hown;have HB:=zq hb;have hl2:(zAc B32 0).length=0:=wl_zero rfl;clear hnt hlm hown hrev hfin hb;go_wp2
   go_loopg[9,10] r.length (TxR3 w r g cap)
   case atStart=>exact⟨0,(r.length:Int)-1,r,za,za,rfl,zi,Swp.start r,HOW.o,HB.o⟩
   clear HOW HB hl2
   case round =>
    obtain⟨i,z,L,him,hz,rfl,rfl,hsw,how,hb⟩:=hrel;have HIM:=zq him;have HSW:=zq hsw;have HOW:=zq how;have HB:=zq hb;have hLl:L.length=r.length:=hsw.1;clear him hsw how hb
    by_cases hij:(i:Int)<z
    ·obtain⟨j,rfl⟩:∃j:Nat,z=(j:Int):=⟨z.toNat,za⟩
     have hij2:i+j+1=r.length:=za;obtain⟨hi1,hj1,hga,hgb⟩:=HSW.o.get hij2 za;obtain⟨ci,fi⟩:=HOW.o.get hLl.symm i hi1;obtain⟨cj,fj⟩:=HOW.o.get hLl.symm j hj1;have HSS:=zq (HSW.o.step hij2 za hgb hga);have HOS:=zq ((HOW.o.put hLl.symm i L[j]).put (by simpa using hLl.symm) j L[i]);have HBS:Hid (Below w.heap.size w ((wr.setCell ⟨g,i,none⟩ (.int .u8 (L[j].toNat:Int))).setCell ⟨g,j,none⟩ (.int .u8 (L[i].toNat:Int)))):=(HB.o.setCell HOW.o.lo _).setCell HOW.o.lo _;have hne:¬(i=j):=za;have y1:(i:Int)<(r.length:Int):=za;have y2:(j:Int)<(r.length:Int):=za;have HIJ:=zq hij2;clear hga hgb hz hij2;generalize L[i]=bi at *;generalize L[j]=bj at *;go_upto_region 16 with fail
     go_region
     go_wp2
     go_roundg (gk-1)
     case measure=>have:=HIM.o;omega
     case rel=>exact⟨i+1,(j:Int)-1,_,by have:=HIM.o;omega,by have:=HIJ.o;omega,zi,zi,HSS.o,HOS.o.drewN 1,zAd HBS.o 1⟩
    ·have hz2:r.length<=2*i+1:=by have:=HIM.o;omega
     have HE:=zq ((HSW.o.done hz2).trans HRD.o)
     have hcv:=run_convert_bytes_back (P:=Tryz.prog) wr 217 9 5 ⟨g,0,none⟩ cap L Tryz.underlying217 Tryz.underlying5 Tryz.underlying9 (fun q hq=>by
      rw[addN,bJ];exact(HOW.o.get hLl.symm q hq).1)
     rw[hLl,HE.o]at hcv;have hcv2:(convert 217 9 (.slice (some ⟨g,0,none⟩) r.length cap)).run Tryz.prog wr=.ok (.string (zCT n)) wr:=hcv;clear hcv;go_wp2;go_ret
     exact zAg.mk rfl HB.o
end Go.Proofs.YtbbchlpccgkikaaGreatDoor
namespace Dw
open Go Go.RowKit
open Go.ChangeMaps (setBlock)
def PMap{κ:Type}[DecidableEq κ](mk:κ->Value)(w:World)(r:Nat)(L:List (κ×Value)):Prop:=
 ∃(es:Array MapEntry)(clk:Nat),w.heap[r]?=some (.map es clk)/\es.toList.map (fun e=>(e.key,e.val))=L.map (fun p=>(mk p.1,p.2))/\(L.map (·.1)).Nodup/\(es.toList.map (·.born)).Nodup/\∀e∈es.toList,e.born<clk
section
variable {κ:Type} [DecidableEq κ] {mk:κ→Value} {w w':World} {r:Nat} {L:List (κ×Value)}
theorem PMap.is(h:PMap mk w r L):zAu mk w r (zAP L):=by
 obtain⟨es,clk,h1,h2,_⟩:=h;exact⟨es,clk,L,h1,h2,fun _=>rfl⟩
theorem PMap.lt(h:PMap mk w r L):r<w.heap.size:=h.is.lt
theorem PMap.keep(h:PMap mk w r L)(hk:w'.heap[r]?=w.heap[r]?):PMap mk w' r L:=by
 obtain⟨es,clk,hr,rest⟩:=h;exact⟨es,clk,hk.trans hr,rest⟩
theorem PMap.below(h:PMap mk w r L)(hb:Below w.heap.size w w'):PMap mk w' r L:=h.keep (hb.block r h.lt)
theorem PMap.new(mk:κ->Value)(w:World):PMap mk (w.alloc (.map #[] 0)) w.heap.size []:=
 ⟨#[],0,aK w _,rfl,List.nodup_nil,List.nodup_nil,fun _ h=>qg⟩
theorem PMap.nodup(h:PMap mk w r L):(L.map (·.1)).Nodup:=by
 obtain⟨_,_,_,_,h,_⟩:=h;exact h
def putE(L:List (κ×Value))(k:κ)(v:Value):List (κ×Value):=if (zAP L k).isSome then L.map (fun p=>if p.1=k then (k,v) else p) else L++[(k,v)]
def delE(L:List (κ×Value))(k:κ):List (κ×Value):=L.filter fun p=>decide (p.1≠k)
theorem lookE_none{L:List (κ×Value)}{k:κ}:zAP L k=none↔∀p∈L,p.1≠k:=by
 unfold zAP;rw[Option.map_eq_none_iff,List.find?_eq_none]
 constructor
 ·exact fun h p hp e=>h p hp (by simp[e])
 ·exact fun h p hp e=>h p hp (by simpa using(eU e).symm)
theorem lookE_mem{L:List (κ×Value)}(hn:(L.map (·.1)).Nodup){k:κ}{v:Value}:zAP L k=some v↔(k,v)∈L:=by
 induction L with
 |nil=>simp[zAP]
 |cons a t ih =>
  rw[dZ]at hn;obtain⟨h1,h2⟩:=List.nodup_cons.1 hn
  by_cases he:k=a.1
  ·subst he
   have e:zAP (a::t) a.1=some a.2:=by simp[zAP]
   rw[e]
   constructor
   ·intro h
    injection h with h
    subst h;exact bN
   ·intro h
    rcases List.mem_cons.1 h with h|h
    ·rw[<-h]
    ·exact absurd (aS (f:=(·.1)) h) h1
  ·have e:zAP (a::t) k=zAP t k:=by simp[zAP,he]
   rw[e,ih h2,eQ]
   constructor
   ·exact .inr
   ·rintro(h|h)
    ·exact absurd (by rw[<-h]) he
    ·exact h
theorem putE_keys{L:List (κ×Value)}(hn:(L.map (·.1)).Nodup)(k:κ)(v:Value):((putE L k v).map (·.1)).Nodup:=by
 unfold putE
 split
 ·have:(L.map fun p=>if p.1=k then (k,v) else p).map (·.1)=L.map (·.1):=by
   rw[List.map_map];refine List.map_congr_left fun p _=>?_
   by_cases hp:p.1=k
   ·simp[hp]
   ·simp[hp]
  rw[this];exact hn
 ·next h =>
  rw[aA,List.nodup_append];refine⟨hn,zd,fun a ha b hb=>?_⟩;simp at hb
  subst hb;obtain⟨p,hp,rfl⟩:=List.mem_map.1 ha;exact lookE_none.1 zr p hp
theorem lookE_put(L:List (κ×Value))(k:κ)(v:Value)(k':κ):zAP (putE L k v) k'=if k'=k then some v else zAP L k':=by
 unfold putE
 split
 ·next h =>
  induction L with
  |nil=>simp[zAP]at h
  |cons a t ih =>
   by_cases ha:a.1=k
   ·by_cases hk:k'=k
    ·subst hk;simp[zAP,ha]
    ·have e:zAP ((a::t).map fun p=>if p.1=k then (k,v) else p) k'=zAP (t.map fun p=>if p.1=k then (k,v) else p) k':=by simp[zAP,ha,hk]
     have e2:zAP (a::t) k'=zAP t k':=by
      have:k'≠a.1:=fun e=>hk (e.trans ha)
      simp[zAP,this]
     rw[e,e2,aW hk]
     have key:∀(t:List (κ×Value)),zAP (t.map fun p=>if p.1=k then (k,v) else p) k'=zAP t k':=fun t=>by
      induction t with
      |nil=>rfl
      |cons b t ih =>
       by_cases hb:b.1=k
       ·have h9:k'≠b.1:=fun e=>hk (e.trans hb)
        simp only[dZ,hb,if_true];simp[zAP,hk,h9]
        simpa[zAP]using ih
       ·by_cases hb2:k'=b.1
        ·simp[zAP,hb,hb2]
        ·simp[zAP,hb,hb2]
         simpa[zAP]using ih
     exact key t
   ·have e1:zAP (a::t) k=zAP t k:=by
     have:k≠a.1:=fun e=>ha e.symm
     simp[zAP,this]
    rw[e1]at h;have ih:=ih h
    by_cases hka:k'=a.1
    ·have:k'≠k:=fun e=>ha (hka▸e)
     simp[zAP,ha,hka]
    ·have e3:zAP ((a::t).map fun p=>if p.1=k then (k,v) else p) k'=zAP (t.map fun p=>if p.1=k then (k,v) else p) k':=by simp[zAP,ha,hka]
     have e4:zAP (a::t) k'=zAP t k':=by simp[zAP,hka]
     rw[e3,e4,ih]
 ·next h=>exact lookE_push zr k'
end
section
variable {κ:Type} [DecidableEq κ]
theorem modify_map{v:Value}{k:κ}:∀{L:List (κ×Value)}{i:Nat},(L.map (·.1)).Nodup->(L[i]?).map (·.1)=some k->L.modify i (fun _=>(k,v))=L.map (fun p=>if p.1=k then (k,v) else p)
 |[],_,_,h=>by simp at h
 |a::t,0,hn,h=>by
  rw[dZ]at hn;obtain⟨h1,h2⟩:=List.nodup_cons.1 hn;have ha:a.1=k:=zr
  have:t.map (fun p=>if p.1=k then (k,v) else p)=t:=by
   conv=>rhs;rw[<-List.map_id t]
   refine List.map_congr_left fun p hp=>?_
   have:p.1≠k:=fun e=>h1 (by rw[ha,<-e];exact aS (f:=(·.1)) hp)
   simp[this]
  simp[ha,this]
 |a::t,i+1,hn,h=>by
  rw[dZ]at hn;obtain⟨h1,h2⟩:=List.nodup_cons.1 hn;have ih:=modify_map (v:=v) (k:=k) (L:=t) (i:=i) h2 zr
  have ha:a.1≠k:=fun e=>by
   exact ta2
  simp[ha,ih]
theorem erase_map{k:κ}:∀{L:List (κ×Value)}{i:Nat},(L.map (·.1)).Nodup->(L[i]?).map (·.1)=some k->L.eraseIdx i=delE L k
 |[],_,_,h=>by simp at h
 |a::t,0,hn,h=>by
  rw[dZ]at hn;obtain⟨h1,h2⟩:=List.nodup_cons.1 hn;have ha:a.1=k:=zr
  have:delE t k=t:=List.filter_eq_self.2 fun p hp=>by
   have:p.1≠k:=fun e=>h1 (by rw[ha,<-e];exact aS (f:=(·.1)) hp)
   simpa using this
  have e:delE (a::t) k=delE t k:=by simp[delE,ha]
  rw[e,this];rfl
 |a::t,i+1,hn,h=>by
  rw[dZ]at hn;obtain⟨h1,h2⟩:=List.nodup_cons.1 hn;have ih:=erase_map (k:=k) (L:=t) (i:=i) h2 zr
  have ha:a.1≠k:=fun e=>by
   exact ta2
  have e:delE (a::t) k=a::delE t k:=by simp[delE,ha]
  rw[e,List.eraseIdx_cons_succ,ih]
theorem delE_none{L:List (κ×Value)}{k:κ}(h:zAP L k=none):delE L k=L:=List.filter_eq_self.2 fun p hp=>by simpa using lookE_none.1 h p hp
end
section
variable {P:Program} {κ:Type} [DecidableEq κ] {mk:κ→Value} {T K E:TypeId} {w:World} {r:Nat} {L:List (κ×Value)}
theorem run_update_pm(hT:P.underlying T=some (.map K E))(hK:KeyT P K mk)(h:PMap mk w r L)(k:κ)(v:Value): ∃w',(Instr.mapUpdate T (.map (some r)) (mk k) v).run P w=.ok () w'/\PMap mk w' r (putE L k v)/\w.grownBy w' (some r)/\w'.heap.size=w.heap.size:=by
 obtain⟨es,clk,hr,hL,hn,hb,hc⟩:=h;have hrl:r<w.heap.size:=(Array.getElem?_eq_some_iff.1 hr).1;obtain⟨d,hd,hs⟩:=hK.same;obtain⟨o,h1,h2,h3⟩:=zDb hs k es.toList L 0 hL;have hg:(getObj r).run P w=.ok (.map es clk) w:=qd;have hset:∀(es':Array MapEntry)(c':Nat),(setObj r (.map es' c')).run P w=.ok () { w with heap:=w.heap.setIfInBounds r (.map es' c') }:=fun es' c'=>by simp[setObj,Sem.run,hr]
 have hfk:(Instr.findKey K (mk k) es.toList).run P w=.ok o w:=by
  simp[Instr.findKey,run_underlying hd,h1]
 have hgrow:∀(es':Array MapEntry)(c':Nat),w.grownBy { w with heap:=w.heap.setIfInBounds r (.map es' c') } (some r):=fun es' c' =>
  ⟨rfl,rfl,rfl,zd,fun i hi hne=>by simp only[Array.getElem?_setIfInBounds];rw[aW (fun e=>hne (by rw[e]))]⟩
 have hget:∀(es':Array MapEntry)(c':Nat),({ w with heap:=w.heap.setIfInBounds r (.map es' c') }:World).heap[r]?=some (.map es' c'):=fun es' c'=>by
  simp[hrl]
 have hlen:es.size=L.length:=yn
 cases o with
 |none =>
  have hnone:zAP L k=none:=qk;have hp:putE L k v=L++[(k,v)]:=by unfold putE;rw[hnone];rfl
  refine⟨_,?_,⟨_,_,hget (es.push { key:=mk k,val:=v,born:=clk }) (clk+1),?_,?_,?_,?_⟩,hgrow _ _,zd⟩
  ·simp[Instr.mapUpdate,run_underlying hT,hg,hK.chk,hfk,hset]
  ·rw[hp];simp[hL]
  ·exact putE_keys hn k v
  ·simp only[Array.toList_push,aA,dZ,List.map_nil]
   rw[List.nodup_append];refine⟨hb,zd,fun a ha b hb'=>?_⟩;simp at hb'
   subst hb';obtain⟨e,he,rfl⟩:=List.mem_map.1 ha;exact Nat.ne_of_lt (hc e he)
  ·intro e he
   simp only[Array.toList_push,List.mem_append,List.mem_singleton]at he
   rcases he with he|rfl
   ·exact Nat.lt_succ_of_lt (hc e he)
   ·exact Nat.lt_succ_self _
 |some p =>
  obtain⟨i,v0⟩:=p;obtain⟨_,h5,h6,h7⟩:=h3 i v0 rfl;simp only[Nat.sub_zero]at h5 h6 h7;have hi:i<es.size:=za;have hsome:(zAP L k).isSome=true:=by rw[<-h2];rfl
  have hp:putE L k v=L.modify i fun _=>(k,v):=by unfold putE;rw[aD hsome,modify_map hn h6]
  have hkey:es[i].key=mk k:=by
   exact tap
  have hstay:∀x,(Instr.keyThatStays (mk k) (mk k)).run P x=.ok (mk k) x:=fun x=>by
   simp[Instr.keyThatStays,hK.bits]
  have hborn:((es.modify i fun e=>{ e with key:=mk k,val:=v }).toList.map (·.born))=es.toList.map (·.born):=by
   apply List.ext_getElem?
   intro n;rw[List.getElem?_map,List.getElem?_map,Array.toList_modify,List.getElem?_modify]
   by_cases hn:i=n
   ·subst hn
    rw[List.getElem?_eq_getElem yf];simp
   ·simp only[hn,if_false]
    cases es.toList[n]?<;>rfl
  refine⟨_,?_,⟨_,_,hget (es.modify i fun e=>{ e with key:=mk k,val:=v }) clk,?_,?_,?_,?_⟩,hgrow _ _,zd⟩
  ·simp[Instr.mapUpdate,run_underlying hT,hg,hK.chk,hfk,hi,hkey,hstay,hset]
  ·rw[hp]
   exact tal
  ·exact putE_keys hn k v
  ·rw[hborn];exact hb
  ·intro e he
   have:e.born∈(es.modify i fun e=>{ e with key:=mk k,val:=v }).toList.map (·.born):=aS (f:=(·.born)) he;rw[hborn]at this;obtain⟨e',he',e2⟩:=List.mem_map.1 this;rw[<-e2];exact hc e' he'
theorem run_delete_pm{ty:TypeId}(hT:P.underlying T=some (.map K E))(hK:KeyT P K mk)(h:PMap mk w r L)(k:κ): ∃w',(Builtin.delete_ #[T,K] ty #[.map (some r),mk k]).run P w=.ok (.tuple #[]) w'/\PMap mk w' r (delE L k)/\w.grownBy w' (some r)/\w'.heap.size=w.heap.size:=by
 obtain⟨es,clk,hr,hL,hn,hb,hc⟩:=h;have hrl:r<w.heap.size:=(Array.getElem?_eq_some_iff.1 hr).1;obtain⟨d,hd,hs⟩:=hK.same;obtain⟨o,h1,h2,h3⟩:=zDb hs k es.toList L 0 hL;have hg:(getObj r).run P w=.ok (.map es clk) w:=qd;have hset:∀(es':Array MapEntry)(c':Nat),(setObj r (.map es' c')).run P w=.ok () { w with heap:=w.heap.setIfInBounds r (.map es' c') }:=fun es' c'=>by simp[setObj,Sem.run,hr]
 have hfk:(Instr.findKey K (mk k) es.toList).run P w=.ok o w:=by
  simp[Instr.findKey,run_underlying hd,h1]
 have hgrow:∀(es':Array MapEntry)(c':Nat),w.grownBy { w with heap:=w.heap.setIfInBounds r (.map es' c') } (some r):=fun es' c' =>
  ⟨rfl,rfl,rfl,zd,fun i hi hne=>by simp only[Array.getElem?_setIfInBounds];rw[aW (fun e=>hne (by rw[e]))]⟩
 have hget:∀(es':Array MapEntry)(c':Nat),({ w with heap:=w.heap.setIfInBounds r (.map es' c') }:World).heap[r]?=some (.map es' c'):=fun es' c'=>by
  simp[hrl]
 have hlen:es.size=L.length:=yn
 cases o with
 |none =>
  have hnone:zAP L k=none:=qk;refine⟨_,?_,⟨es,clk,hget _ _,by rw[delE_none hnone];exact hL,by rw[delE_none hnone];exact hn,hb,hc⟩,hgrow _ _,zd⟩
  simp[Builtin.delete_,run_underlying hT,hg,hK.chk,hfk,hset]
 |some p =>
  obtain⟨i,v0⟩:=p;obtain⟨_,h5,h6,h7⟩:=h3 i v0 rfl;simp only[Nat.sub_zero]at h5 h6 h7;have hi:i<es.size:=za
  have he:(es.eraseIdxIfInBounds i).toList=es.toList.eraseIdx i:=by
   rw[Array.eraseIdxIfInBounds,dif_pos hi];simp
  have hdl:=erase_map hn h6;refine⟨_,?_,⟨es.eraseIdxIfInBounds i,clk,hget _ _,?_,?_,?_,?_⟩,hgrow _ _,zd⟩
  ·simp[Builtin.delete_,run_underlying hT,hg,hK.chk,hfk,hset]
  ·rw[he,<-hdl,Go.ChangeMaps.map_eraseIdx,Go.ChangeMaps.map_eraseIdx,hL]
  ·exact hn.sublist (List.Sublist.map _ List.filter_sublist)
  ·rw[he,Go.ChangeMaps.map_eraseIdx]
   exact hb.sublist (List.eraseIdx_sublist _ _)
  ·intro e hm
   rw[he]at hm;exact hc e (List.mem_of_mem_eraseIdx hm)
def zBu(mk:κ->Value)(w:World)(it r:Nat)(L R:List (κ×Value)):Prop:=
 ∃(es:Array MapEntry)(clk since c0:Nat)(seen:Array Nat),w.heap[r]?=some (.map es clk)/\es.toList.map (fun e=>(e.key,e.val))=L.map (fun p=>(mk p.1,p.2))/\(L.map (·.1)).Nodup/\(es.toList.map (·.born)).Nodup/\(∀e∈es.toList,e.born<clk) /\
  w.heap[it]?=some (.mapIter (some r) since seen c0)/\(∀e∈es.toList,e.born<since)/\since<=c0/\since<=clk/\(leftOf es seen).toList.map (fun e=>(e.key,e.val))=R.map (fun p=>(mk p.1,p.2))
end
theorem left_push{es:Array MapEntry}{seen:Array Nat}(hb:(es.toList.map (·.born)).Nodup){e:MapEntry}(he:e∈(leftOf es seen).toList): ∃A B,(leftOf es seen).toList=A++e::B/\(leftOf es (seen.push e.born)).toList=A++B:=by
 obtain⟨A,B,hAB⟩:=List.append_of_mem he;refine⟨A,B,hAB,?_⟩
 have e1:(leftOf es (seen.push e.born)).toList=(leftOf es seen).toList.filter fun x=>decide (x.born≠e.born):=by
  unfold leftOf;rw[Array.toList_filter,Array.toList_filter,List.filter_filter];refine List.filter_congr fun x _=>?_
  rw[Array.contains_push]
  by_cases hx:x.born=e.born
  ·simp[hx]
  ·simp[hx]
 have hn:((leftOf es seen).toList.map (·.born)).Nodup:=by
  unfold leftOf;rw[Array.toList_filter];exact hb.sublist (List.Sublist.map _ List.filter_sublist)
 rw[e1,hAB,dQ,List.filter_cons_of_neg zd];rw[hAB,aA,dZ,List.nodup_append]at hn;obtain⟨_,h2,h3⟩:=hn;obtain⟨h4,_⟩:=List.nodup_cons.1 h2
 congr 1
 ·exact List.filter_eq_self.2 fun x hx=>by
   have:=h3 x.born (aS (f:=(·.born)) hx) e.born bN
   simpa using this
 ·exact List.filter_eq_self.2 fun x hx=>by
   have:x.born≠e.born:=fun h=>h4 (by rw[<-h];exact aS (f:=(·.born)) hx)
   simpa using this
section
variable {P:Program} {κ:Type} {mk:κ→Value} {T K E:TypeId} {w w':World} {r it:Nat} {L R:List (κ×Value)}
theorem zBu.map[DecidableEq κ](h:zBu mk w it r L R):PMap mk w r L:=by
 obtain⟨es,clk,since,c0,seen,h1,h2,h3,h4,h5,_⟩:=h;exact⟨es,clk,h1,h2,h3,h4,h5⟩
theorem zBu.lt(h:zBu mk w it r L R):it<w.heap.size:=by
 obtain⟨es,clk,since,c0,seen,_,_,_,_,_,h6,_⟩:=h;exact(Array.getElem?_eq_some_iff.1 h6).1
theorem zBu.keep(h:zBu mk w it r L R)(h1:w'.heap[r]?=w.heap[r]?)(h2:w'.heap[it]?=w.heap[it]?):zBu mk w' it r L R:=by
 obtain⟨es,clk,since,c0,seen,k1,a,b,c,d,k6,rest⟩:=h;exact⟨es,clk,since,c0,seen,h1.trans k1,a,b,c,d,h2.trans k6,rest⟩
theorem zBu.below[DecidableEq κ](h:zBu mk w it r L R)(hb:Below w.heap.size w w'):zBu mk w' it r L R:=h.keep (hb.block r h.map.lt) (hb.block it h.lt)
theorem zBu.start[DecidableEq κ](hT:P.underlying T=some (.map K E))(h:PMap mk w r L): ∃o,(Instr.range T (.map (some r))).run P w=.ok (.pointer (some ⟨w.heap.size,0,none⟩)) (w.alloc o)/\zBu mk (w.alloc o) w.heap.size r L L:=by
 obtain⟨es,clk,h1,h2,h3,h4,h5⟩:=h;have hrl:r<w.heap.size:=(Array.getElem?_eq_some_iff.1 h1).1;refine⟨_,run_range_map w T K E r es clk hT h1,es,clk,clk,clk,#[],(dT w _ r hrl).trans h1,h2,h3,h4,h5,aK w _,h5,aE _,aE _,?_⟩
 have:(leftOf es #[]).toList=es.toList:=by
  unfold leftOf;rw[Array.toList_filter];exact List.filter_eq_self.2 fun _ _=>zd
 rw[this];exact h2
theorem zBu.next(h:zBu mk w it r L R)(hinj:∀a b,mk a=mk b->a=b)(hne:it≠r)(ty:TypeId): (R=[]/\(Instr.next (.pointer (some ⟨it,0,none⟩)) false ty).run P w=.ok (.tuple #[.bool false]) w) \/ ∃p R' w',R.Perm (p::R')/\p∈L/\(Instr.next (.pointer (some ⟨it,0,none⟩)) false ty).run P w=.ok (.tuple #[.bool true,mk p.1,p.2]) w'/\(Instr.entry (.pointer (some ⟨it,0,none⟩))).run P w'=.ok (.tuple #[mk p.1,p.2]) w' /\ zBu mk w' it r L R'/\w.grownBy w' (some it)/\w'.heap.size=w.heap.size:=by
 obtain⟨es,clk,since,c0,seen,h1,h2,h3,h4,h5,h6,h7,h8,h9,h10⟩:=h;have hit:it<w.heap.size:=(Array.getElem?_eq_some_iff.1 h6).1;have hrl:r<w.heap.size:=(Array.getElem?_eq_some_iff.1 h1).1
 rcases run_next_at (P:=P) w ty it r since c0 seen es clk h6 h1 h7 h8 with ⟨h0,hrun⟩|⟨e,he,w1,hw1,hrun⟩
 ·left
  refine⟨?_,hrun⟩
  have:(leftOf es seen).toList=[]:=by
   have:(leftOf es seen).toList.length=0:=by simpa using h0
   exact List.length_eq_zero_iff.1 this
  rw[this]at h10;exact(List.map_eq_nil_iff.1 h10.symm)
 ·right
  obtain⟨A,B,hA,hB⟩:=left_push h4 he;rw[hA,aA,dZ]at h10;obtain⟨R1,R2,hR,hR1,hR2⟩:=List.map_eq_append_iff.1 h10.symm;obtain⟨p,R3,hR3,hp,hR4⟩:=List.map_eq_cons_iff.1 hR2
  injection hp with hk hv
  have hmem:e∈es.toList:=by
   unfold leftOf at he;rw[Array.toList_filter]at he;exact(List.mem_filter.1 he).1
  have hsz:w1.heap.size=w.heap.size:=by rcases hw1 with rfl|rfl<;>rfl
  have hsame:∀j:Nat,w1.heap[j]?=w.heap[j]?:=by
   rcases hw1 with e|e
   ·intro j;rw[e]
   ·intro j;rw[e];rfl
  have hset:∀k:Nat,(setBlock w1 it (.mapIter (some r) since (seen.push e.born) clk)).heap[k]?=if it=k then some (.mapIter (some r) since (seen.push e.born) clk) else w.heap[k]?:=fun k=>by
   show(w1.heap.setIfInBounds it _)[k]?=_
   rw[Array.getElem?_setIfInBounds]
   by_cases hk:it=k
   ·subst hk;simp[hsz,hit]
   ·rw[aW hk,aW hk];exact hsame k
  have hit2:=hset it;rw[aD rfl]at hit2;have hr2:=hset r;rw[aW hne]at hr2;refine⟨p,R1++R3,_,?_,?_,hk▸hv▸hrun,?_,⟨es,clk,since,clk,seen.push e.born,hr2.trans h1,h2,h3,h4,h5,hit2,h7,h9,h9,?_⟩,⟨?_,?_,?_,?_,?_⟩,?_⟩
  ·rw[hR,hR3];exact List.perm_middle
  ·have hin:(mk p.1,p.2)∈L.map (fun p=>(mk p.1,p.2)):=by
    rw[<-h2];exact List.mem_map.2 ⟨e,hmem,by rw[hk,hv]⟩
   obtain⟨q,hq,hqe⟩:=List.mem_map.1 hin
   injection hqe with e1 e2
   have:q=p:=Prod.ext (hinj _ _ e1) e2;exact this▸hq
  ·exact hk▸hv▸run_entry_at _ it r since seen es clk e hit2 (hr2.trans h1) hmem h4
  ·rw[hB,aA,aA,hR1,hR4]
  ·rcases hw1 with rfl|rfl<;>rfl
  ·rcases hw1 with rfl|rfl<;>rfl
  ·rcases hw1 with rfl|rfl<;>rfl
  ·show w.heap.size<=(w1.heap.setIfInBounds it _).size
   simp[hsz]
  ·intro k hk hne'
   rw[hset k,aW (fun e=>hne' (by rw[e]))]
  ·show(w1.heap.setIfInBounds it _).size=_
   simp[hsz]
end
end Dw
namespace Go.Proofs.YtbbchlpccgkikaaGreatDoor
open Go.Shelf Go.RowKit Go.Lib Dw
end Go.Proofs.YtbbchlpccgkikaaGreatDoor
namespace Dw
open Go Go.RowKit
end Dw
namespace Go.Proofs.YtbbchlpccgkikaaGreatDoor
open Go.RowKit Dw
theorem elemDs:Tryz.prog.underlying 24=some (.slice (Tryz.prog.elem 24)):=zb
theorem run_cutToD(A:Option Addr)(n c k:Nat)(hk:k<=c)(W:World):(Instr.slice 24 (.slice A n c) none (some (.int .i64 (k:Int))) none).run Tryz.prog W=.ok (.slice A k c) W:=by
 have h0:(0:Int)<=(k:Int)/\(k:Int)<=(c:Int):=za;rw[run_slice_h (ht:=elemDs) (kh:=.i64) (h:=(k:Int)) (h0:=h0.1) (h2:=h0.2)];have hs:(sizeOf (Tryz.prog.elem 24)).run Tryz.prog W=.ok 16 W:=zb;rw[hs];have:(A.map fun x=>x.add 0)=A:=by cases A<;>simp[Addr.add]
 simp[sliced,Result.andThen,this]
end Go.Proofs.YtbbchlpccgkikaaGreatDoor
