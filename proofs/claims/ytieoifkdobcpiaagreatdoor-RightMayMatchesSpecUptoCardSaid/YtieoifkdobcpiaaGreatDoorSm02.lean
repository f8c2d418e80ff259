/- Parts of the proof, joined: The reference's numbers: add, less. The reference's numbers: times, sm. -/
import Derived.Test.YtieoifkdobcpiaaGreatDoorSm01
import Derived.Laws.BitsAllLaws
import Derived.Ground.NamesProg
import Derived.Shelf.Small.Bits
import Derived.Shelf.Bits.Mul64
set_option maxRecDepth 100000
set_option maxHeartbeats 8000000
namespace Go.Proofs.YtieoifkdobcpiaaGreatDoor
open Go.RowKit Dw
theorem words_full {L:List Nat} (hl:WLt BT L) (h:L=[]∨BT ^ (L.length - 1)≤zAf BT L):zAc BT (zAf BT L)=L:=by
 rw [←zCg zAW hl]
 rcases h with rfl | h
 ·rfl
 ·rcases bR L.length with h0 | h0
  ·rw [List.length_eq_zero_iff.1 h0];rfl
  have h1:=zBp zAW (zAf BT L);rw [←zCg zAW hl] at h1;have h2:L.length - 1<(zBw L).length:=(Nat.pow_lt_pow_iff_right zAW).1 (bE h h1);rw [zDi L,cY za]
theorem own_slice' {w:World} {base:Nat} {v:Value} {l:List Nat} (h:OwnI w base v l):∃ A c,v = .slice A l.length c:=by
 obtain ⟨A,c,he,_⟩:=zAT.rd1 h;exact ⟨A,c,he⟩
theorem own_lms {w:World} {base n c:Nat} {A:Option Addr} {l:List Nat} (h:OwnI w base (.slice A n c) l):Lms w A l:=by
 obtain ⟨A',c',he,hr⟩:=zAT.rd1 h
 injection he with h1 _ _
 subst h1;exact hr
def AddLRel (w:World) (l r:List Nat) (m:Nat) (v cy i:Value) (wr:World):Prop :=
 ∃ (k c:Nat) (out:List Nat),k+m=max l.length r.length∧i = .int .i64 k∧cy = .int .i64 (c:Int)∧c≤1∧out.length=k∧WLt BT out∧zAf BT out+BT ^ k*c=zAf BT (l.take k)+zAf BT (r.take k)∧OwnI wr w.heap.size v out∧Below w.heap.size w wr
theorem addL_c (A A2:Option Addr) (c c2 a b:Nat) (w:World) (h:Lms w A (zAc BT a)) (h2:Lms w A2 (zAc BT b)) (hn:(zAc BT a).length≤400000000) (hn2:(zAc BT b).length≤400000000) :
  Calls Tryz.prog 44 #[lmV A c a,lmV A2 c2 b] w (zDj (a+b) w):=by
 obtain ⟨l,hl⟩:∃ l,l=zAc BT a:=⟨_,rfl⟩;obtain ⟨r,hr⟩:∃ r,r=zAc BT b:=⟨_,rfl⟩;unfold lmV;rw [←hl] at h hn ⊢;rw [←hr] at h2 hn2 ⊢;have hlw:WLt BT l:=by rw [hl];exact zAK zAW a
 have hrw:WLt BT r:=by rw [hr];exact zAK zAW b
 have HL:=zq hl;have HR:=zq hr;clear hl hr
 go_enter Tryz.func44,Tryz.ntmps44
 go_wp2
 go_loopg [5,6,7] (max l.length r.length) (AddLRel w l r)
 case atStart=>exact ⟨0,0,[],za,rfl,rfl,za,rfl,WLt.nil,je,zAT.nil _ _ _ _ _,aS _ _⟩
 case round =>
  obtain ⟨k,cy,out,hm,rfl,rfl,hcy,hol,how,hv,hown,hbw⟩:=hrel;have HM:=zq hm;have HO:=zq hol;have HV:=zq hv;have HB:=zq hbw;have HW:=zq how;clear hm hv hbw how;have hok:out.length≤400000000:=yi
  by_cases h1:k<l.length
  ·obtain ⟨q,o,rfl,hb,hcl⟩:=h.at_ za
   have hc0:=(HB.o.cell hb).trans (hcl k h1);clear hcl;have hx:l[k]<10000:=hlw.get k h1
   by_cases h3:k<r.length
   ·obtain ⟨q2,o2,rfl,hb2,hcl2⟩:=h2.at_ za
    have hc1:=(HB.o.cell hb2).trans (hcl2 k h3);clear hcl2;have hy:r[k]<10000:=hrw.get k h3;obtain ⟨T,hT⟩:∃ T,T=cy+l[k]+r[k]:=⟨_,rfl⟩;have hTe:(cy:Int)+(l[k]:Int)+(r[k]:Int)=(T:Int):=by rw [hT];omega
    have hTB:T<20000:=za;have HT:Hid (T=cy+l[k]+r[k]):=by show _=_;omega
    have HA:Hid (zAf BT (l.take (k+1))=zAf BT (l.take k)+BT ^ k*l[k]):=zAD h1;have HC:Hid (zAf BT (r.take (k+1))=zAf BT (r.take k)+BT ^ k*r[k]):=zAD h3;clear hT
    go_wp2_with (at_builtin;refine zBj _ _ _ elI rfl rfl w.heap.size _ out rfl (zAT.alloc hown _) wr.heap.size 1 (T % 10000) rfl (cS _ _) rfl zy zm za yj ?_;intro A7 c7 w7 hown7 hg7 hb7 hat7)
    have HB7:=zq ((HB.o.alloc HB.o.size _).trans hb7);have HN7:=zq hown7;clear hown7 hg7 hb7 hat7 hown HB;go_wp2
    go_roundg (gk - 1)
    case measure=>have:=HM.o;omega
    case rel =>
     refine ⟨k+1,T / 10000,out++[T % 10000],yi,zi,zi,za,yh,HW.o.append (WLt.cons (bJ _ zd) WLt.nil),?_,qm,HB7.o⟩
     rw [zAS,HO.o,zBN,HA.o,HC.o];exact add_col HV.o HT.o
   ·have h3i:¬ ((k:Int)<(r.length:Int)):=by omega
    obtain ⟨T,hT⟩:∃ T,T=cy+l[k]:=⟨_,rfl⟩;have hTe:(cy:Int)+(l[k]:Int)=(T:Int):=by rw [hT];omega
    have hTB:T<20000:=za;have HT:Hid (T=cy+l[k]+0):=by show _=_;omega
    have HA:Hid (zAf BT (l.take (k+1))=zAf BT (l.take k)+BT ^ k*l[k]):=zAD h1;have HC:Hid (zAf BT (r.take (k+1))=zAf BT (r.take k)+BT ^ k*0):=yc;clear hT
    go_wp2_with (at_builtin;refine zBj _ _ _ elI rfl rfl w.heap.size _ out rfl (zAT.alloc hown _) wr.heap.size 1 (T % 10000) rfl (cS _ _) rfl zy zm za yj ?_;intro A7 c7 w7 hown7 hg7 hb7 hat7)
    have HB7:=zq ((HB.o.alloc HB.o.size _).trans hb7);have HN7:=zq hown7;clear hown7 hg7 hb7 hat7 hown HB;go_wp2
    go_roundg (gk - 1)
    case measure=>have:=HM.o;omega
    case rel =>
     refine ⟨k+1,T / 10000,out++[T % 10000],yi,zi,zi,za,yh,HW.o.append (WLt.cons (bJ _ zd) WLt.nil),?_,qm,HB7.o⟩
     rw [zAS,HO.o,zBN,HA.o,HC.o];exact add_col HV.o HT.o
  ·have h1i:¬ ((k:Int)<(l.length:Int)):=by omega
   by_cases h3:k<r.length
   ·obtain ⟨q2,o2,rfl,hb2,hcl2⟩:=h2.at_ za
    have hc1:=(HB.o.cell hb2).trans (hcl2 k h3);clear hcl2;have hy:r[k]<10000:=hrw.get k h3;obtain ⟨T,hT⟩:∃ T,T=cy+r[k]:=⟨_,rfl⟩;have hTe:(cy:Int)+(r[k]:Int)=(T:Int):=by rw [hT];omega
    have hTB:T<20000:=za;have HT:Hid (T=cy+0+r[k]):=by show _=_;omega
    have HA:Hid (zAf BT (l.take (k+1))=zAf BT (l.take k)+BT ^ k*0):=yc;have HC:Hid (zAf BT (r.take (k+1))=zAf BT (r.take k)+BT ^ k*r[k]):=zAD h3;clear hT
    go_wp2_with (at_builtin;refine zBj _ _ _ elI rfl rfl w.heap.size _ out rfl (zAT.alloc hown _) wr.heap.size 1 (T % 10000) rfl (cS _ _) rfl zy zm za yj ?_;intro A7 c7 w7 hown7 hg7 hb7 hat7)
    have HB7:=zq ((HB.o.alloc HB.o.size _).trans hb7);have HN7:=zq hown7;clear hown7 hg7 hb7 hat7 hown HB;go_wp2
    go_roundg (gk - 1)
    case measure=>have:=HM.o;omega
    case rel =>
     refine ⟨k+1,T / 10000,out++[T % 10000],yi,zi,zi,za,yh,HW.o.append (WLt.cons (bJ _ zd) WLt.nil),?_,qm,HB7.o⟩
     rw [zAS,HO.o,zBN,HA.o,HC.o];exact add_col HV.o HT.o
   ·have h3i:¬ ((k:Int)<(r.length:Int)):=by omega
    have HV2:Hid (zAf BT out+BT ^ out.length*cy=a+b):=by
     show _=_
     have e:=HV.o;rw [cY za,cY za,HL.o,HR.o,zAl zAW,zAl zAW] at e;rw [hol];exact e
    have HMX:Hid (out=[]∨BT ^ (out.length - 1)≤a+b):=by
     rcases bR k with h0 | h0
     ·exact .inl (List.length_eq_zero_iff.1 za)
     ·refine .inr ?_
      have hk:k=max l.length r.length:=yi;rw [hol]
      rcases Nat.le_total l.length r.length with h4 | h4
      ·have e:=zEq (B:=BT) (l:=r) za (by rw [cV HR.o];simpa [HR.o] using zCn zAW (n:=b) (by rw [←HR.o];omega))
       rw [HR.o,zAl zAW,←HR.o,show r.length=k by omega] at e
       omega
      ·have e:=zEq (B:=BT) (l:=l) za (by rw [cV HL.o];simpa [HL.o] using zCn zAW (n:=a) (by rw [←HL.o];omega))
       rw [HL.o,zAl zAW,←HL.o,show l.length=k by omega] at e
       omega
    rcases bR cy with h0 | h0
    ·subst h0
     have HE:Hid (zAc BT (a+b)=out):=by
      show _=_
      have e:=HV2.o;rw [bT,cZ] at e;rw [←e] ;refine words_full HW.o ?_
      rw [e];exact HMX.o
     obtain ⟨A9,c9,rfl⟩:=own_slice' hown;go_wp2;go_ret
     exact ⟨A9,c9,by unfold lmV;rw [HE.o,hol];rfl,⟨by rw [HE.o];exact own_lms hown,by rw [HE.o];exact (own_capI hown).1⟩,HB.o⟩
    ·obtain rfl:cy=1:=by omega
     go_wp2_with (at_builtin;refine zBj _ _ _ elI rfl rfl w.heap.size _ out rfl (zAT.alloc hown _) wr.heap.size 1 1 rfl (cS _ _) rfl zy zm za yj ?_;intro A7 c7 w7 hown7 hg7 hb7 hat7)
     have hb8:=(HB.o.alloc HB.o.size _).trans hb7
     have HE:Hid (zAc BT (a+b)=out++[1]):=by
      show _=_
      have e:=HV2.o;have hw2:WLt BT (out++[1]):=HW.o.append (WLt.cons zd WLt.nil);have e2:zAf BT (out++[1])=a+b:=by rw [zAS,zBN];exact e
      rw [←e2,←zCg zAW hw2];exact wtrim_ne zd out
     go_wp2;go_ret
     have hcap:=own_capI hown7;exact ⟨A7,c7,by unfold lmV;rw [HE.o,dA,hol];rfl,⟨by rw [HE.o];exact own_lms hown7,by rw [HE.o];exact hcap.1⟩,hb8⟩
theorem sub_colN {k o R L c t y x d:Nat} (h:o+R=L+BT ^ k*c) (hs:t+c+y=x+BT*d):(o+BT ^ k*t)+(R+BT ^ k*y)=(L+BT ^ k*x)+BT ^ (k+1)*d:=by
 have e:=bH (BT ^ k * ·) hs;simp only [bA] at e;rw [aZ,bC];omega
def LessLRel (w:World) (l r:List Nat) (m:Nat) (v cy i:Value) (wr:World):Prop :=
 ∃ (k c:Nat) (out:List Nat),k+m=l.length∧i = .int .i64 k∧cy = .int .i64 (c:Int)∧c≤1∧out.length=k∧WLt BT out∧zAf BT out+zAf BT (r.take k)=zAf BT (l.take k)+BT ^ k*c∧OwnI wr w.heap.size v out∧Below w.heap.size w wr
theorem lessL_c (A A2:Option Addr) (c c2 a b:Nat) (w:World) (h:Lms w A (zAc BT a)) (h2:Lms w A2 (zAc BT b)) (hn:(zAc BT a).length≤400000000) (hle:b≤a) :
  Calls Tryz.prog 45 #[lmV A c a,lmV A2 c2 b] w (zDj (a - b) w):=by
 obtain ⟨l,hl⟩:∃ l,l=zAc BT a:=⟨_,rfl⟩;obtain ⟨r,hr⟩:∃ r,r=zAc BT b:=⟨_,rfl⟩;have hrl:r.length≤l.length:=by rw [hl,hr];exact zAt zAW hle
 unfold lmV;rw [←hl] at h hn ⊢;rw [←hr] at h2 ⊢;have hlw:WLt BT l:=by rw [hl];exact zAK zAW a
 have hrw:WLt BT r:=by rw [hr];exact zAK zAW b
 have HL:=zq hl;have HR:=zq hr;have HLE:=zq hle;clear hl hr hle
 go_enter Tryz.func45,Tryz.ntmps45
 go_wp2
 go_loopg [5,6,7] l.length (LessLRel w l r)
 case atStart=>exact ⟨0,0,[],za,rfl,rfl,za,rfl,WLt.nil,je,zAT.nil _ _ _ _ _,aS _ _⟩
 case round =>
  obtain ⟨k,cy,out,hm,rfl,rfl,hcy,hol,how,hv,hown,hbw⟩:=hrel;have HM:=zq hm;have HO:=zq hol;have HV:=zq hv;have HB:=zq hbw;have HW:=zq how;clear hm hv hbw how;have hok:out.length≤400000000:=yi
  by_cases h1:k<l.length
  ·obtain ⟨q,o,rfl,hb,hcl⟩:=h.at_ za
   have hc0:=(HB.o.cell hb).trans (hcl k h1);clear hcl;have hx:l[k]<10000:=hlw.get k h1
   by_cases h3:k<r.length
   ·obtain ⟨q2,o2,rfl,hb2,hcl2⟩:=h2.at_ za
    have hc1:=(HB.o.cell hb2).trans (hcl2 k h3);clear hcl2;have hy:r[k]<10000:=hrw.get k h3;obtain ⟨z,hz⟩:∃ z:Int,z=(l[k]:Int) - (cy:Int) - (r[k]:Int):=⟨_,rfl⟩;have hTe:(l[k]:Int) - (cy:Int) - (r[k]:Int)=z:=hz.symm;have hz1 : -10002≤z∧z≤10000:=za
    by_cases hneg:z<0
    ·obtain ⟨T,hT⟩:∃ T:Nat,z+10000=(T:Int):=⟨(z+10000).toNat,za⟩
     have HT:Hid (T+cy+r[k]=l[k]+BT*1):=by show _=_;rw [BT_eq];omega
     have hTB:T<10000:=za;have HA:Hid (zAf BT (l.take (k+1))=zAf BT (l.take k)+BT ^ k*l[k]):=zAD h1;have HC:Hid (zAf BT (r.take (k+1))=zAf BT (r.take k)+BT ^ k*r[k]):=zAD h3;clear hz
     go_wp2_with (at_builtin;refine zBj _ _ _ elI rfl rfl w.heap.size _ out rfl (zAT.alloc hown _) wr.heap.size 1 T rfl (cS _ _) rfl zy zm za yj ?_;intro A7 c7 w7 hown7 hg7 hb7 hat7)
     have HB7:=zq ((HB.o.alloc HB.o.size _).trans hb7);have HN7:=zq hown7;clear hown7 hg7 hb7 hat7 hown HB;go_wp2
     go_roundg (gk - 1)
     case measure=>have:=HM.o;omega
     case rel =>
      refine ⟨k+1,1,out++[T],yi,zi,rfl,za,yh,HW.o.append (WLt.cons qs WLt.nil),?_,qm,HB7.o⟩
      rw [zAS,HO.o,zBN,HA.o,HC.o];exact sub_colN HV.o HT.o
    ·obtain ⟨T,hT⟩:∃ T:Nat,z=(T:Int):=⟨z.toNat,za⟩
     have HT:Hid (T+cy+r[k]=l[k]+BT*0):=by show _=_;rw [BT_eq];omega
     have hTB:T<10000:=za;have HA:Hid (zAf BT (l.take (k+1))=zAf BT (l.take k)+BT ^ k*l[k]):=zAD h1;have HC:Hid (zAf BT (r.take (k+1))=zAf BT (r.take k)+BT ^ k*r[k]):=zAD h3;subst hT;clear hz
     go_wp2_with (at_builtin;refine zBj _ _ _ elI rfl rfl w.heap.size _ out rfl (zAT.alloc hown _) wr.heap.size 1 T rfl (cS _ _) rfl zy zm za yj ?_;intro A7 c7 w7 hown7 hg7 hb7 hat7)
     have HB7:=zq ((HB.o.alloc HB.o.size _).trans hb7);have HN7:=zq hown7;clear hown7 hg7 hb7 hat7 hown HB;go_wp2
     go_roundg (gk - 1)
     case measure=>have:=HM.o;omega
     case rel =>
      refine ⟨k+1,0,out++[T],yi,zi,rfl,za,yh,HW.o.append (WLt.cons qs WLt.nil),?_,qm,HB7.o⟩
      rw [zAS,HO.o,zBN,HA.o,HC.o];exact sub_colN HV.o HT.o
   ·have h3i:¬ ((k:Int)<(r.length:Int)):=by omega
    obtain ⟨z,hz⟩:∃ z:Int,z=(l[k]:Int) - (cy:Int):=⟨_,rfl⟩;have hTe:(l[k]:Int) - (cy:Int)=z:=hz.symm;have hz1 : -10002≤z∧z≤10000:=za
    by_cases hneg:z<0
    ·obtain ⟨T,hT⟩:∃ T:Nat,z+10000=(T:Int):=⟨(z+10000).toNat,za⟩
     have HT:Hid (T+cy+0=l[k]+BT*1):=by show _=_;rw [BT_eq];omega
     have hTB:T<10000:=za;have HA:Hid (zAf BT (l.take (k+1))=zAf BT (l.take k)+BT ^ k*l[k]):=zAD h1;have HC:Hid (zAf BT (r.take (k+1))=zAf BT (r.take k)+BT ^ k*0):=yc;clear hz
     go_wp2_with (at_builtin;refine zBj _ _ _ elI rfl rfl w.heap.size _ out rfl (zAT.alloc hown _) wr.heap.size 1 T rfl (cS _ _) rfl zy zm za yj ?_;intro A7 c7 w7 hown7 hg7 hb7 hat7)
     have HB7:=zq ((HB.o.alloc HB.o.size _).trans hb7);have HN7:=zq hown7;clear hown7 hg7 hb7 hat7 hown HB;go_wp2
     go_roundg (gk - 1)
     case measure=>have:=HM.o;omega
     case rel =>
      refine ⟨k+1,1,out++[T],yi,zi,rfl,za,yh,HW.o.append (WLt.cons qs WLt.nil),?_,qm,HB7.o⟩
      rw [zAS,HO.o,zBN,HA.o,HC.o];exact sub_colN HV.o HT.o
    ·obtain ⟨T,hT⟩:∃ T:Nat,z=(T:Int):=⟨z.toNat,za⟩
     have HT:Hid (T+cy+0=l[k]+BT*0):=by show _=_;rw [BT_eq];omega
     have hTB:T<10000:=za;have HA:Hid (zAf BT (l.take (k+1))=zAf BT (l.take k)+BT ^ k*l[k]):=zAD h1;have HC:Hid (zAf BT (r.take (k+1))=zAf BT (r.take k)+BT ^ k*0):=yc;subst hT;clear hz
     go_wp2_with (at_builtin;refine zBj _ _ _ elI rfl rfl w.heap.size _ out rfl (zAT.alloc hown _) wr.heap.size 1 T rfl (cS _ _) rfl zy zm za yj ?_;intro A7 c7 w7 hown7 hg7 hb7 hat7)
     have HB7:=zq ((HB.o.alloc HB.o.size _).trans hb7);have HN7:=zq hown7;clear hown7 hg7 hb7 hat7 hown HB;go_wp2
     go_roundg (gk - 1)
     case measure=>have:=HM.o;omega
     case rel =>
      refine ⟨k+1,0,out++[T],yi,zi,rfl,za,yh,HW.o.append (WLt.cons qs WLt.nil),?_,qm,HB7.o⟩
      rw [zAS,HO.o,zBN,HA.o,HC.o];exact sub_colN HV.o HT.o
  ·have h1i:¬ ((k:Int)<(l.length:Int)):=by omega
   have HV2:Hid (zAf BT out=a - b):=by
    show _=_
    have e:=HV.o;rw [cY za,cY za,HL.o,HR.o,zAl zAW,zAl zAW] at e;have h4:=zDs HW.o;rw [hol] at h4;have h5:=HLE.o
    rcases bR cy with h0 | h0
    ·subst h0
     rw [bT] at e;omega
    ·obtain rfl:cy=1:=by omega
     rw [cA] at e;omega
   obtain ⟨A9,c9,rfl⟩:=own_slice' hown;have HT:=zq (trimL_n A9 c9 out wr w za (own_capI hown).1 (own_lms hown) HW.o HB.o HV2.o);rw [hol] at HT
   go_wp2_with fail
   with_reducible refine HT.o.mono ?_
   rintro e w7 ⟨A7,c7,rfl,hl7,hb7⟩;have HL7:=zq hl7;have HB7:=zq hb7;clear hl7 hb7 HT;go_wp2;go_ret
   exact ⟨A7,c7,rfl,HL7.o,HB7.o⟩
def MulLRel (w:World) (g:Nat) (l r:List Nat) (m:Nat) (iv:Value) (wr:World):Prop :=
 ∃ (k:Nat) (L:List Nat),k+m=l.length∧iv = .int .i64 k∧ArrI wr g L∧L.length=l.length+r.length∧WLt BT L∧zAf BT L=zAf BT (l.take k)*zAf BT r ∧
  (∀ x (h:x<L.length),k+r.length≤x→L[x]=0)∧Below w.heap.size w wr∧w.heap.size≤g
def MulLRel2 (w:World) (g:Nat) (l r:List Nat) (k x:Nat) (m:Nat) (cv jv:Value) (wr:World):Prop :=
 ∃ (j cy:Nat) (L:List Nat),j+m=r.length∧jv = .int .i64 j∧cv = .int .i64 (cy:Int)∧cy≤9999∧ArrI wr g L∧L.length=l.length+r.length∧WLt BT L ∧
  zAf BT L+BT ^ (k+j)*cy=zAf BT (l.take k)*zAf BT r+BT ^ k*(x*zAf BT (r.take j))∧(∀ x (h:x<L.length),k+r.length≤x→L[x]=0)∧Below w.heap.size w wr∧w.heap.size≤g
theorem MulLRel2.step {w wr:World} {g:Nat} {l r L:List Nat} {k x j cy gk t:Nat} (hkm:j+gk=r.length) (hlt:j<r.length) (hk:k<l.length) (hcy:cy≤9999) (hx:x≤9999) (hA:ArrI wr g L) (hL:L.length=l.length+r.length) (hr:WLt BT r) (hLt:WLt BT L)
  (hV:zAf BT L+BT ^ (k+j)*cy=zAf BT (l.take k)*zAf BT r+BT ^ k*(x*zAf BT (r.take j))) (hZ:∀ x (h:x<L.length),k+r.length≤x→L[x]=0) (hbw:Below w.heap.size w wr) (hwg:w.heap.size≤g)
  (ht:t=cy+(x*r[j]+L[k+j])) {cv iv mv:Value} (hc:cv = .int .i64 ((t / 10000:Nat):Int)) (hi:iv = .int .i64 ((j:Int)+1)) (hm:mv = .int .i64 ((t % 10000:Nat):Int)) :
  MulLRel2 w g l r k x (gk - 1) cv iv (wr.setCell ⟨g,k+j,none⟩ mv):=by
 subst hc hi hm;have hy:r[j]≤9999:=by have:=hr.get j hlt;rw [BT_eq] at this;omega
 have hz:L[k+j]≤9999:=by have:=hLt.get (k+j) za;rw [BT_eq] at this;omega
 have hxy:x*r[j]≤9999*9999:=Nat.mul_le_mul hx hy;refine ⟨j+1,t / 10000,L.set (k+j) (t % 10000),za,zi,rfl,by rw [ht];generalize x*r[j]=p at *;omega,hA.set (k+j) _,by simpa using hL,hLt.set (show t % 10000<BT from bJ t BT_pos) _,?_,fun i hi hki=>?_,hbw.setCell hwg _,hwg⟩
 ·have e1:=zEs BT L (k+j) (t % 10000) za
  rw [zAD hlt]
  have e2:BT ^ (k+j)*(t % 10000)+BT ^ (k+(j+1))*(t / 10000)=BT ^ (k+j)*t:=by
   rw [show k+(j+1)=(k+j)+1 by omega,aZ,bC,←bA,BT_eq,bK]
  have e3:BT ^ (k+j)*t=BT ^ (k+j)*cy+BT ^ (k+j)*(x*r[j])+BT ^ (k+j)*L[k+j]:=by
   rw [ht,bA,bA,Nat.add_assoc]
  have e4:BT ^ k*(x*(zAf BT (r.take j)+BT ^ j*r[j]))=BT ^ k*(x*zAf BT (r.take j))+BT ^ (k+j)*(x*r[j]):=by
   rw [bA,bA,dB,Nat.mul_left_comm x,bC]
  rw [e4];omega
 ·rw [dC za]
  exact hZ i yz za
theorem MulLRel.next {w wr:World} {g:Nat} {l r L:List Nat} {k cy gk:Nat} (hkm:k+1+gk=l.length) (hlt:k<l.length) (hcy:cy≤9999) (hA:ArrI wr g L) (hL:L.length=l.length+r.length) (hLt:WLt BT L)
  (hV:zAf BT L+BT ^ (k+r.length)*cy=zAf BT (l.take k)*zAf BT r+BT ^ k*(l[k]*zAf BT (r.take r.length))) (hZ:∀ x (h:x<L.length),k+r.length≤x→L[x]=0) (hbw:Below w.heap.size w wr) (hwg:w.heap.size≤g)
  {iv mv:Value} (hi:iv = .int .i64 ((k:Int)+1)) (hm:mv = .int .i64 (cy:Int)) :
  MulLRel w g l r gk iv (wr.setCell ⟨g,k+r.length,none⟩ mv):=by
 subst hi hm;refine ⟨k+1,L.set (k+r.length) cy,za,zi,hA.set _ _,by simpa using hL,hLt.set qs _,?_,fun i hi hki=>?_,hbw.setCell hwg _,hwg⟩
 ·have e1:=zEs BT L (k+r.length) cy za
  rw [hZ (k+r.length) za (aB _)] at e1;rw [cY (aB _)] at hV;rw [zAD hlt,bD,bC (BT ^ k)];omega
 ·rw [dC za]
  exact hZ i yz za
theorem timesL_c (A A2:Option Addr) (c c2:Nat) (a b:Nat) (w:World) (h:Lms w A (zAc BT a)) (h2:Lms w A2 (zAc BT b)) (hn:(zAc BT a).length≤400000000) (hm:(zAc BT b).length≤400000000) :
  Calls Tryz.prog 43 #[lmV A c a,lmV A2 c2 b] w (zDj (a*b) w):=by
 have hmk:∀ w:World,(Instr.makeSlice 27 (.int .i64 (((zAc BT a).length:Int)+((zAc BT b).length:Int))) (.int .i64 (((zAc BT a).length:Int)+((zAc BT b).length:Int)))).run Tryz.prog w =
   .ok (.slice (some ⟨w.heap.size,0,none⟩) ((zAc BT a).length+(zAc BT b).length) ((zAc BT a).length+(zAc BT b).length)) (w.alloc (.cells (Array.replicate ((zAc BT a).length+(zAc BT b).length) (.int .i64 0)) 3)) :=
  mk_ints ((zAc BT a).length+(zAc BT b).length) za
 unfold lmV
 go_enter Tryz.func43,Tryz.ntmps43
 go_wp2;clear hmk;have hnew:=ArrI.new w ((zAc BT a).length+(zAc BT b).length);have hbel:Below w.heap.size w (w.alloc (.cells (Array.replicate ((zAc BT a).length+(zAc BT b).length) (.int .i64 0)) 3)):=(aS _ _).alloc (aB _) _;obtain ⟨g,hg⟩:∃ g,g=w.heap.size:=⟨_,rfl⟩;rw [←hg] at hnew;obtain ⟨w1,hw1⟩:∃ w1,w1=w.alloc (.cells (Array.replicate ((zAc BT a).length+(zAc BT b).length) (.int .i64 0)) 3):=⟨_,rfl⟩;rw [←hw1] at hnew hbel;rw [←hg,←hw1];have HG:=zq hg;have HB:=zq hbel;clear hg hbel hw1;have hl:=zAK zAW a;have hr:=zAK zAW b;have HVA:=zq (zAl zAW a);have HVB:=zq (zAl zAW b);generalize zAc BT a=l at *;generalize zAc BT b=r at *
 go_loopg [6] l.length (MulLRel w g l r)
 case atStart=>exact ⟨0,List.replicate (l.length+r.length) 0,za,rfl,hnew,ze,WLt.zeros BT_pos _,by rw [wval_zeros];simp [zAf],fun x hx _=>ze,HB.o,yk⟩
 case round =>
  obtain ⟨k,L,hkm,rfl,hA,hL,hLt,hV,hZ,hbw,hwg⟩:=hrel;have HM:=zq hkm;have HV:=zq hV;have HZ:=zq hZ;have HL:=zq hL;clear hkm hV hZ hL
  by_cases hlt:k<l.length
  ·have hx:l[k]<10000:=hl.get k hlt
   go_wp2;obtain ⟨wo,hwo⟩:∃ wo:World,wo=wr:=⟨_,rfl⟩;subst hwo
   go_loopg [7,8] r.length (MulLRel2 w g l r k l[k])
   case atStart=>exact ⟨0,0,L,za,rfl,rfl,za,hA,HL.o,hLt,by rw [HV.o];simp [zAf],HZ.o,hbw,hwg⟩
   case round =>
    clear hA hbw;obtain ⟨j,cy,L2,hjm,rfl,rfl,hcy,hA2,hL2,hLt2,hV2,hZ2,hbw2,hwg2⟩:=hrel;have HM2:=zq hjm;have HV2:=zq hV2;have HZ2:=zq hZ2;have HL2:=zq hL2;clear hjm hV2 hZ2 hL2
    by_cases hj:j<r.length
    ·obtain ⟨b1,o1,hA0,hb1,hcl⟩:=(h.below hbw2).at_ za
     subst hA0;have hc0:=hcl k hlt;obtain ⟨b2,o2,hA02,hb2,hcl2⟩:=(h2.below hbw2).at_ za;subst hA02;have hc2:=hcl2 j hj;have hy:r[j]<10000:=hr.get j hj;have hkj:k+j<L2.length:=by have:=HL2.o;omega
     have hz:L2[k+j]<10000:=hLt2.get (k+j) hkj;have hc1:=hA2.cell (k+j) hkj;have hf1:=hA2.frozen (k+j);have hsz:=hA2.lt;obtain ⟨p,hp⟩:∃ p,p=l[k]*r[j]:=⟨_,rfl⟩;have hpB:p≤9999*9999:=by rw [hp];exact Nat.mul_le_mul za za
     have hpe:(l[k]:Int)*(r[j]:Int)=(p:Int):=by rw [hp];exact (cT _ _).symm
     obtain ⟨T,hT⟩:∃ T,T=cy+(p+L2[k+j]):=⟨_,rfl⟩;have hTe:(L2[k+j]:Int)+(p:Int)+(cy:Int)=(T:Int):=by rw [hT];omega
     have hTB:T≤99999999:=za;have HT:Hid (T=cy+(l[k]*r[j]+L2[k+j])):=by show _=_;rw [hT,hp]
     clear hcl hcl2 hT hp;go_wp2
     go_quiet (fail)
     go_wp2
     go_roundg (gk - 1)
     case measure=>have:=HM2.o;omega
     case rel=>exact MulLRel2.step (wr:=wr.drewN _) HM2.o hj hlt hcy za (hA2.drewN _) HL2.o hr hLt2 HV2.o HZ2.o (zAd hbw2 _) hwg2 HT.o ze rfl ze
    ·obtain rfl:j=r.length:=by have:=HM2.o;omega
     have hkj:k+r.length<L2.length:=by have:=HL2.o;omega
     have hc1:=hA2.cell (k+r.length) hkj;rw [HZ2.o _ hkj (aB _)] at hc1;have hf1:=hA2.frozen (k+r.length);have hsz:=hA2.lt;go_wp2
     go_roundg (l.length - k - 1)
     case measure=>have:=HM.o;omega
     case rel=>exact MulLRel.next yi hlt hcy hA2 HL2.o hLt2 HV2.o HZ2.o hbw2 hwg2 rfl ze
  ·obtain rfl:k=l.length:=by have:=HM.o;omega
   go_wp2_with fail
   have HT:Hid (zAf BT L=a*b):=by
    show zAf BT L=_
    have:=HV.o
    rwa [cY (aB _),HVA.o,HVB.o] at this
   have hl2:=HL.o;rw [←hl2];with_reducible refine (trimL_n _ _ L _ w za (aB _) hA.rd hLt hbw HT.o).mono ?_
   rintro e w' ⟨A,c,rfl,hn,hb⟩;clear hl2;go_wp2;go_ret
   exact ⟨A,c,rfl,hn,hb⟩
theorem lms_one (w:World) (n:Nat):Lms (w.alloc (.cells #[.int .i64 (n:Int)] 3)) (some ⟨w.heap.size,0,none⟩) [n]:=fun _=>⟨w.heap.size,0,rfl,fun i hi=>by
 have:i=0:=by simp at hi;omega
 subst this;rw [aR _ w.heap.size _ _ _ _ (cS _ _)];rfl⟩
theorem smallL_c (A:Option Addr) (c a n:Nat) (w:World) (h:Lms w A (zAc BT a)) (hn:(zAc BT a).length≤400000000) (hm:n≤9999) :
  Calls Tryz.prog 122 #[lmV A c a,.int .i64 (n:Int)] w (zDj (a*n) w):=by
 have hb:Below w.heap.size w (w.alloc (.cells #[.int .i64 (n:Int)] 3)):=(aS _ _).alloc (aB _) _
 have HT:Hid (Calls Tryz.prog 85 #[.slice (some ⟨w.heap.size,0,none⟩) 1 1] (w.alloc (.cells #[.int .i64 (n:Int)] 3)) (zDj n w)) :=
  trimL_n (some ⟨w.heap.size,0,none⟩) 1 [n] (w.alloc (.cells #[.int .i64 (n:Int)] 3)) w ze ze (lms_one w n) (WLt.cons qs WLt.nil) hb (n:=n) (zBN BT n)
 go_enter Tryz.func122,Tryz.ntmps122
 go_wp2_with fail
 with_reducible refine HT.o.mono ?_
 rintro e w1 ⟨A1,c1,rfl,h1,hb1⟩
 have hl1:(zAc BT n).length≤400000000:=by
  have:=zBi zAW (a:=n) (k:=1) qs;omega
 clear HT hb
 go_wp2_with fail
 with_reducible refine (timesL_c A A1 c c1 a n w1 (h.below hb1) h1.rd hn hl1).mono ?_
 rintro e w2 ⟨A2,c2,rfl,h2,hb2⟩;have HB:=zq (zAa hb1 hb2);clear hb1 hb2;go_wp2;go_ret
 exact ⟨A2,c2,rfl,h2,HB.o⟩
theorem or_u64n (x y:Nat) (hx:x<4294967296):y*4294967296 ||| x=x+4294967296*y:=by
 have:=Nat.two_pow_add_eq_or_of_lt (i:=32) (b:=x) za y;rw [bB y,show (4294967296:Nat)=2 ^ 32 from rfl,←this,Nat.add_comm]
theorem or_u64 (x y:Nat) (hx:x<4294967296) (hy:y<4294967296):bits .or .u64 (x:Int) ((y:Int)*4294967296)=(x:Int)+4294967296*(y:Int):=by
 have e:(y:Int)*4294967296=((y*4294967296:Nat):Int):=by rw [cT];rfl
 rw [e,u64_or_nat x (y*4294967296) za za,Nat.or_comm,or_u64n x y hx];omega
theorem or_u64' (x y:Nat) (hx:x<4294967296) (hy:y<4294967296):bits .or .u64 ((y:Int)*4294967296) (x:Int)=(x:Int)+4294967296*(y:Int):=by
 have e:(y:Int)*4294967296=((y*4294967296:Nat):Int):=by rw [cT];rfl
 rw [e,u64_or_nat (y*4294967296) x za za,or_u64n x y hx];omega
theorem small_l (A:Option Addr) (c:Nat) (L:List Nat) (w:World) (h:Wds w A L) (hl:WLt B32 L) (hn:L.length≤1000000000) :
  Calls Tryz.prog 166 #[.slice A L.length c] w (zBs (.tuple #[.int .u64 (if L.length≤2 then ((zAf B32 L:Nat):Int) else 0),.bool (decide (L.length≤2))]) w):=by
 match L,h,hl,hn with
 | [],_,_,_ =>
  go_enter Tryz.func166,Tryz.ntmps166
  go_wp2;go_ret2
  exact zBs.mk rfl ⟨0,rfl⟩
 | [x],h,hl,_ =>
  obtain ⟨b,o,rfl,hb,hcl⟩:=h.at_ ze;have hx:=hl.head;rw [zCA] at hx;have hc0:=hcl 0 ze;rw [zBK] at hc0;simp only [dD,cZ] at hc0;clear hcl
  go_enter Tryz.func166,Tryz.ntmps166
  go_wp2;go_ret2
  exact zBs.mk je ⟨0,rfl⟩
 | [x,y],h,hl,_ =>
  obtain ⟨b,o,rfl,hb,hcl⟩:=h.at_ ze;have hx:=hl.head;have hy:=hl.tail.head;rw [zCA] at hx hy;have hc0:=hcl 0 ze;have hc1:=hcl 1 ze;rw [zBK] at hc0 hc1;simp only [dD,cC,cZ] at hc0 hc1;clear hcl
  go_enter Tryz.func166,Tryz.ntmps166
  go_wp2
  go_quiet (fail)
  go_wp2;go_ret2
  refine zBs.mk ?_ ⟨_,rfl⟩
  simp only [zAf];simp [or_u64 x y hx hy,zCA]
 | x::y::z::l,h,hl,hn =>
  have hk:(x::y::z::l).length=l.length+3:=rfl;have e0:¬ l.length+3≤2:=za;rw [hk] at hn ⊢;clear hk
  go_enter Tryz.func166,Tryz.ntmps166
  go_wp2;go_ret2
  exact zBs.mk rfl ⟨0,rfl⟩
def smV (n:Nat):Value:=.tuple #[.int .u64 (if (zAc B32 n).length≤2 then (n:Int) else 0),.bool (decide ((zAc B32 n).length≤2))]
theorem small_c (A:Option Addr) (c n:Nat) (w:World) (h:Nt w A c n) (hn:(zAc B32 n).length≤1000000000):Calls Tryz.prog 166 #[ntV A c n] w (zBs (smV n) w):=by
 have:=small_l A c (zAc B32 n) w h.rd (zAK zAu n) hn;rw [zAl zAu] at this;exact this
theorem wval2 (n:Nat) (h:n<18446744073709551616):zAf B32 [n % 4294967296,n / 4294967296]=n∧WLt B32 [n % 4294967296,n / 4294967296]:=by
 refine ⟨?_,WLt.cons ?_ (WLt.cons ?_ WLt.nil)⟩
 ·simp [zAf,zCA];omega
 ·rw [zCA];omega
 ·rw [zCA];omega
theorem wds_new (w:World) (cs:Array Value) (L:List Nat) (h:cs.toList=L.map u32V):Wds (w.alloc (.cells cs 197)) (some ⟨w.heap.size,0,none⟩) L:=by
 intro _;refine ⟨w.heap.size,0,rfl,fun i hi=>?_⟩
 rw [aR _ _ _ _ _ _ (cS w _),←Array.getElem?_toList,h];simp [hi]
theorem trim2 (n:Nat) (w:World) (h:n<18446744073709551616):Calls Tryz.prog 172 #[.slice (some ⟨w.heap.size,0,none⟩) 2 2]
  (w.alloc (.cells #[.int .u32 ((n:Int) % 4294967296),.int .u32 ((n:Int) / 4294967296)] 197)) (zDR n w) :=
 trim_n _ 2 [n % 4294967296,n / 4294967296] _ w ze ze (wds_new w _ _ (by simp [u32V])) (wval2 n h).2 ((aS _ _).alloc (aB _) _) (wval2 n h).1
theorem natOf_c (n:Nat) (w:World) (h:n<18446744073709551616):Calls Tryz.prog 120 #[.int .u64 (n:Int)] w (zDR n w):=by
 go_enter Tryz.func120,Tryz.ntmps120
 go_wp2_with fail
 with_reducible refine (trim2 n w h).mono ?_
 rintro e w' ⟨A,c,rfl,hn,hb⟩;go_wp2;go_ret
 exact ⟨A,c,rfl,hn,hb⟩
theorem one_words:zAc B32 1=[1]:=qi
theorem Nt.one (w:World):Nt (w.alloc (.cells #[.int .u32 1] 197)) (some ⟨w.heap.size,0,none⟩) 1 1 :=
 ⟨by rw [one_words];exact wds_new w _ _ rfl,by rw [one_words];decide⟩
theorem One_c (w:World):Calls Tryz.prog 79 #[] w (zDR 1 w):=by
 go_enter Tryz.func79,Tryz.ntmps79
 go_wp2;go_ret
 exact ⟨_,1,by unfold ntV;rw [one_words];rfl,Nt.one w,(aS _ _).alloc (aB _) _⟩
def CmpRel (w:World) (l r:List Nat) (m:Nat) (i:Value) (wr:World):Prop :=
 (∃ n,wr=w.drewN n)∧m≤l.length∧(∃ z:Int,z=(m:Int) - 1∧i = .int .i64 z)∧l.drop m=r.drop m
theorem Cmp_l (A A2:Option Addr) (c c2:Nat) (l r:List Nat) (w:World) (h:Wds w A l) (h2:Wds w A2 r) (hl:WLt B32 l) (hr:WLt B32 r) (hn:l.length≤1000000000) (he:l.length=r.length) :
  Calls Tryz.prog 116 #[.slice A l.length c,.slice A2 l.length c2] w (zBs (.int .i64 (zCZ (zAf B32 l) (zAf B32 r))) w):=by
 have HE:=zq he;clear he
 go_enter Tryz.func116,Tryz.ntmps116
 go_wp2
 go_loopg [5] l.length (CmpRel w l r)
 case atStart=>exact ⟨⟨0,rfl⟩,aB _,⟨_,rfl,rfl⟩,by rw [aA (aB _),aA (by rw [HE.o];omega)]⟩
 case round =>
  obtain ⟨⟨nd,hw⟩,hk,⟨z,hz,rfl⟩,hd⟩:=hrel;subst hw;have HD:=zq hd;clear hd
  rcases bR gk with h0 | h0
  ·subst h0
   obtain rfl:z = -1:=hz;go_wp2;go_ret
   refine zBs.mk ?_ ⟨_,rfl⟩
   have e:l=r:=by simpa using HD.o
   rw [e,zCx rfl]
   rfl
  ·obtain ⟨j,rfl⟩:∃ j,gk=j+1:=⟨gk - 1,za⟩
   obtain rfl:z=(j:Int):=za;clear hz;have hjr:j<r.length:=by have:=HE.o;omega
   obtain ⟨b,o,rfl,hb,hcl⟩:=h.at_ za;obtain ⟨b2,o2,rfl,hb2,hcl2⟩:=h2.at_ za;have hc0:=hcl j za;have hc1:=hcl2 j hjr;rw [zBK] at hc0 hc1;clear hcl hcl2;have hx:l[j]<B32:=hl.get j za;have hy:r[j]<B32:=hr.get j hjr
   by_cases hq:l[j]=r[j]
   ·have hqb:(((l[j]:Nat):Int) != ((r[j]:Nat):Int))=false:=by simp [hq]
    have HQ:=zq hq;clear hq;go_wp2
    go_quiet (fail)
    go_wp2
    go_roundg j
    case measure=>omega
    case rel =>
     refine ⟨⟨_,rfl⟩,za,⟨_,rfl,rfl⟩,?_⟩
     rw [aF za,aF hjr,HQ.o,HD.o]
   ·have hqb:(((l[j]:Nat):Int) != ((r[j]:Nat):Int))=true:=by simp;omega
    by_cases hlt:l[j]<r[j]
    ·have hltb:decide (l[j]<r[j])=true:=cW hlt
     have HQ:=zq hlt;clear hq hlt;go_wp2
     go_quiet (fail)
     go_wp2
     go_quiet (fail)
     go_wp2;go_ret
     refine zBs.mk ?_ ji
     rw [zBF (wval_lt_of hl HE.o za hjr HD.o HQ.o)]
     rfl
    ·have hltb:decide (l[j]<r[j])=false:=cX hlt
     have HQ:=zq (show r[j]<l[j] by omega)
     clear hq hlt;go_wp2
     go_quiet (fail)
     go_wp2
     go_quiet (fail)
     go_wp2;go_ret
     refine zBs.mk ?_ ji
     rw [zBy (wval_lt_of hr HE.o.symm hjr za HD.o.symm HQ.o)]
     rfl
theorem Cmp_len (A A2:Option Addr) (c c2 n m:Nat) (w:World) (hne:n≠m) :
  Calls Tryz.prog 116 #[.slice A n c,.slice A2 m c2] w (zBs (.int .i64 (zCZ n m)) w):=by
 have hnb:((n:Int) != (m:Int))=true:=zg
 rcases aU n m with hlt | hge
 ·have hltb:decide (n<m)=true:=cW hlt
  have hv:zCZ n m = -1:=zBF hlt;rw [hv];have HV:=zq hv;clear hv
  go_enter Tryz.func116,Tryz.ntmps116
  go_wp2;go_ret
  exact zBs.mk rfl ⟨0,rfl⟩
 ·have hltb:decide (n<m)=false:=cX za
  have hv:zCZ n m=1:=zBy za;rw [hv];have HV:=zq hv;clear hv
  go_enter Tryz.func116,Tryz.ntmps116
  go_wp2;go_ret
  exact zBs.mk rfl ⟨0,rfl⟩
theorem Cmp_c (A A2:Option Addr) (c c2 a b:Nat) (w:World) (h:Nt w A c a) (h2:Nt w A2 c2 b) (hn:(zAc B32 a).length≤1000000000) :
  Calls Tryz.prog 116 #[ntV A c a,ntV A2 c2 b] w (zBs (.int .i64 (zCZ a b)) w):=by
 by_cases he:(zAc B32 a).length=(zAc B32 b).length
 ·have:=Cmp_l A A2 c c2 (zAc B32 a) (zAc B32 b) w h.rd h2.rd (zAK zAu a) (zAK zAu b) hn he
  rw [zAl zAu,zAl zAu] at this;unfold ntV;rw [←he];exact this
 ·have:=Cmp_len A A2 c c2 _ _ w he
  have e:zCZ (zAc B32 a).length (zAc B32 b).length=zCZ a b:=by
   rcases aU (zAc B32 a).length (zAc B32 b).length with h1 | h1
   ·rw [zBF h1,zBF (lt_of_len zAu h1)]
   ·rw [zBy za,zBy (lt_of_len zAu za)]
  rw [e] at this;exact this
def AddRel (w:World) (g:Nat) (l r:List Nat) (m:Nat) (cv iv:Value) (wr:World):Prop :=
 ∃ (k cy:Nat) (L:List Nat),k+m=l.length∧iv = .int .i64 k∧cv = .int .u64 (cy:Int)∧cy≤1∧zCh wr g L∧L.length=l.length+1∧WLt B32 L ∧
  zAf B32 (L.take k)+B32 ^ k*cy=zAf B32 (l.take k)+zAf B32 (r.take k)∧(∀ x (h:x<L.length),k≤x→L[x]=0)∧Below w.heap.size w wr∧w.heap.size≤g
theorem zEr {L:List Nat} {k x:Nat} (h:k<L.length):zAf B32 ((L.set k x).take (k+1))=zAf B32 (L.take k)+B32 ^ k*x:=by
 rw [take_set_succ L k x h,zAS,zBN,bN,bO za]
theorem zeros_set {L:List Nat} {k x:Nat} (h:∀ i (h:i<L.length),k≤i→L[i]=0):∀ i (h:i<(L.set k x).length),k+1≤i→(L.set k x)[i]=0:=fun i hi hk=>by
 rw [dC za];exact h i yz za
theorem modB (s:Nat):s % 4294967296<B32:=bJ _ zd
theorem AddRel.step {w wr:World} {g:Nat} {l r L:List Nat} {k cy gk s y:Nat} (hkm:k+gk=l.length) (hlt:k<l.length) (hA:zCh wr g L) (hL:L.length=l.length+1) (hLt:WLt B32 L)
  (hV:zAf B32 (L.take k)+B32 ^ k*cy=zAf B32 (l.take k)+zAf B32 (r.take k)) (hZ:∀ x (h:x<L.length),k≤x→L[x]=0) (hbw:Below w.heap.size w wr) (hwg:w.heap.size≤g)
  (hy:zAf B32 (r.take (k+1))=zAf B32 (r.take k)+B32 ^ k*y) (hs:s=cy+l[k]+y) (hs2:s≤8589934591) {cv iv mv:Value} (hc:cv = .int .u64 ((s / 4294967296:Nat):Int)) (hi:iv = .int .i64 ((k:Int)+1)) (hm:mv = .int .u32 ((s % 4294967296:Nat):Int)) :
  AddRel w g l r (gk - 1) cv iv (wr.setCell ⟨g,k,none⟩ mv):=by
 subst hc hi hm;refine ⟨k+1,s / 4294967296,L.set k (s % 4294967296),za,zi,rfl,za,hA.set k _,by simpa using hL,hLt.set (modB s) k,?_,zeros_set hZ,hbw.setCell hwg _,hwg⟩
 rw [zEr za,hy,zAD hlt];exact add_col hV hs
theorem Add_l (A A2:Option Addr) (c c2:Nat) (l r:List Nat) (w:World) (h:Wds w A l) (h2:Wds w A2 r) (hl:WLt B32 l) (hr:WLt B32 r) (hn:l.length≤900000000) (he:r.length≤l.length) :
  Calls Tryz.prog 169 #[.slice A l.length c,.slice A2 r.length c2] w (zDR (zAf B32 l+zAf B32 r) w):=by
 have hltb:decide (l.length<r.length)=false:=cX za;have hmk:∀ w:World,(Instr.makeSlice 85 (.int .i64 ((l.length:Int)+1)) (.int .i64 ((l.length:Int)+1))).run Tryz.prog w = .ok (.slice (some ⟨w.heap.size,0,none⟩) (l.length+1) (l.length+1)) (w.alloc (.cells (Array.replicate (l.length+1) (.int .u32 0)) 197)):=mk_nat (l.length+1) za
 go_enter Tryz.func169,Tryz.ntmps169
 go_wp2;clear hmk;have hnew:=zCh.new w (l.length+1);have hbel:Below w.heap.size w (w.alloc (.cells (Array.replicate (l.length+1) (.int .u32 0)) 197)):=(aS _ _).alloc (aB _) _;obtain ⟨g,hg⟩:∃ g,g=w.heap.size:=⟨_,rfl⟩;rw [←hg] at hnew;obtain ⟨w1,hw1⟩:∃ w1,w1=w.alloc (.cells (Array.replicate (l.length+1) (.int .u32 0)) 197):=⟨_,rfl⟩;rw [←hw1] at hnew hbel;rw [←hg,←hw1];have HG:=zq hg;have HB:=zq hbel;clear hg hbel hw1
 go_loopg [6,21] l.length (AddRel w g l r)
 case atStart=>exact ⟨0,0,List.replicate (l.length+1) 0,za,rfl,rfl,za,hnew,ze,WLt.zeros zCp _,je,fun x hx _=>ze,HB.o,yk⟩
 case round =>
  obtain ⟨k,cy,L,hkm,rfl,rfl,hcy,hA,hL,hLt,hV,hZ,hbw,hwg⟩:=hrel;have HM:=zq hkm;have HV:=zq hV;have HZ:=zq hZ;have HL:=zq hL;clear hkm hV hZ hL
  by_cases hlt:k<l.length
  ·have hkL:k<L.length:=by have:=HL.o;omega
   obtain ⟨b,o,hA0,hb,hcl⟩:=(h.below hbw).at_ za;subst hA0;have hc0:=hcl k hlt;rw [zBK] at hc0;have hx:l[k]<4294967296:=hl.get k hlt;have hc1:=hA.cell k hkL;have hf1:=hA.frozen k;clear hcl
   by_cases hlr:k<r.length
   ·obtain ⟨b2,o2,hA2,hb2,hcl2⟩:=(h2.below hbw).at_ za
    subst hA2;have hc2:=hcl2 k hlr;rw [zBK] at hc2;have hy:r[k]<4294967296:=hr.get k hlr;clear hcl2;go_wp2
    go_roundg (gk - 1)
    case measure=>have:=HM.o;omega
    case rel=>exact AddRel.step HM.o hlt hA HL.o hLt HV.o HZ.o hbw hwg (zAD hlr) rfl za ze rfl ze
   ·have HR:Hid (zAf B32 (r.take (k+1))=zAf B32 (r.take k)+B32 ^ k*0):=by
     show zAf B32 (r.take (k+1))=zAf B32 (r.take k)+B32 ^ k*0
     rw [cY za,cY za];simp
    go_wp2
    go_roundg (gk - 1)
    case measure=>have:=HM.o;omega
    case rel=>exact AddRel.step HM.o hlt hA HL.o hLt HV.o HZ.o hbw hwg HR.o (s:=cy+l[k]) rfl za ze rfl ze
  ·obtain rfl:k=l.length:=by have:=HM.o;omega
   have hkL:l.length<L.length:=by have:=HL.o;omega
   have hc1:=hA.cell l.length hkL;have hf1:=hA.frozen l.length
   go_wp2_with fail
   have HT:Hid (zAf B32 (L.set l.length cy)=zAf B32 l+zAf B32 r):=by
    have e:L.set l.length cy=(L.set l.length cy).take (l.length+1):=by rw [cY (by rw [dE,HL.o];omega)]
    show zAf B32 (L.set l.length cy)=_
    rw [e,zEr hkL];have:=HV.o
    rwa [cY (aB _),cY he] at this
   have hA2:=hA.set l.length cy;have hl2:(L.set l.length cy).length=l.length+1:=by rw [dE,HL.o]
   rw [←hl2];with_reducible refine (trim_n _ _ (L.set l.length cy) _ w za (aB _) (by have:=hA2.rd (L.set l.length cy).length;rwa [bX] at this) (hLt.set qg _) (hbw.setCell hwg _) HT.o).mono ?_
   rintro e w' ⟨A,c,rfl,hn,hb⟩;clear hl2 hA2;go_wp2;go_ret
   exact ⟨A,c,rfl,hn,hb⟩
theorem Add_s (A A2:Option Addr) (c c2:Nat) (l r:List Nat) (w:World) (h:Wds w A l) (h2:Wds w A2 r) (hl:WLt B32 l) (hr:WLt B32 r) (hn:l.length≤900000000) (he:r.length<l.length) :
  Calls Tryz.prog 169 #[.slice A2 r.length c2,.slice A l.length c] w (zDR (zAf B32 l+zAf B32 r) w):=by
 have hltb:decide (r.length<l.length)=true:=cW he;have hmk:∀ w:World,(Instr.makeSlice 85 (.int .i64 ((l.length:Int)+1)) (.int .i64 ((l.length:Int)+1))).run Tryz.prog w = .ok (.slice (some ⟨w.heap.size,0,none⟩) (l.length+1) (l.length+1)) (w.alloc (.cells (Array.replicate (l.length+1) (.int .u32 0)) 197)):=mk_nat (l.length+1) za
 go_enter Tryz.func169,Tryz.ntmps169
 go_wp2;clear hmk;have hnew:=zCh.new w (l.length+1);have hbel:Below w.heap.size w (w.alloc (.cells (Array.replicate (l.length+1) (.int .u32 0)) 197)):=(aS _ _).alloc (aB _) _;obtain ⟨g,hg⟩:∃ g,g=w.heap.size:=⟨_,rfl⟩;rw [←hg] at hnew;obtain ⟨w1,hw1⟩:∃ w1,w1=w.alloc (.cells (Array.replicate (l.length+1) (.int .u32 0)) 197):=⟨_,rfl⟩;rw [←hw1] at hnew hbel;rw [←hg,←hw1];have HG:=zq hg;have HB:=zq hbel;clear hg hbel hw1
 go_loopg [6,21] l.length (AddRel w g l r)
 case atStart=>exact ⟨0,0,List.replicate (l.length+1) 0,za,rfl,rfl,za,hnew,ze,WLt.zeros zCp _,je,fun x hx _=>ze,HB.o,yk⟩
 case round =>
  obtain ⟨k,cy,L,hkm,rfl,rfl,hcy,hA,hL,hLt,hV,hZ,hbw,hwg⟩:=hrel;have HM:=zq hkm;have HV:=zq hV;have HZ:=zq hZ;have HL:=zq hL;clear hkm hV hZ hL
  by_cases hlt:k<l.length
  ·have hkL:k<L.length:=by have:=HL.o;omega
   obtain ⟨b,o,hA0,hb,hcl⟩:=(h.below hbw).at_ za;subst hA0;have hc0:=hcl k hlt;rw [zBK] at hc0;have hx:l[k]<4294967296:=hl.get k hlt;have hc1:=hA.cell k hkL;have hf1:=hA.frozen k;clear hcl
   by_cases hlr:k<r.length
   ·obtain ⟨b2,o2,hA2,hb2,hcl2⟩:=(h2.below hbw).at_ za
    subst hA2;have hc2:=hcl2 k hlr;rw [zBK] at hc2;have hy:r[k]<4294967296:=hr.get k hlr;clear hcl2;go_wp2
    go_roundg (gk - 1)
    case measure=>have:=HM.o;omega
    case rel=>exact AddRel.step HM.o hlt hA HL.o hLt HV.o HZ.o hbw hwg (zAD hlr) rfl za ze rfl ze
   ·have HR:Hid (zAf B32 (r.take (k+1))=zAf B32 (r.take k)+B32 ^ k*0):=by
     show zAf B32 (r.take (k+1))=zAf B32 (r.take k)+B32 ^ k*0
     rw [cY za,cY za];simp
    go_wp2
    go_roundg (gk - 1)
    case measure=>have:=HM.o;omega
    case rel=>exact AddRel.step HM.o hlt hA HL.o hLt HV.o HZ.o hbw hwg HR.o (s:=cy+l[k]) rfl za ze rfl ze
  ·obtain rfl:k=l.length:=by have:=HM.o;omega
   have hkL:l.length<L.length:=by have:=HL.o;omega
   have hc1:=hA.cell l.length hkL;have hf1:=hA.frozen l.length
   go_wp2_with fail
   have HT:Hid (zAf B32 (L.set l.length cy)=zAf B32 l+zAf B32 r):=by
    have e:L.set l.length cy=(L.set l.length cy).take (l.length+1):=by rw [cY (by rw [dE,HL.o];omega)]
    show zAf B32 (L.set l.length cy)=_
    rw [e,zEr hkL];have:=HV.o
    rwa [cY (aB _),cY (bP he)] at this
   have hA2:=hA.set l.length cy;have hl2:(L.set l.length cy).length=l.length+1:=by rw [dE,HL.o]
   rw [←hl2];with_reducible refine (trim_n _ _ (L.set l.length cy) _ w za (aB _) (by have:=hA2.rd (L.set l.length cy).length;rwa [bX] at this) (hLt.set qg _) (hbw.setCell hwg _) HT.o).mono ?_
   rintro e w' ⟨A,c,rfl,hn,hb⟩;clear hl2 hA2;go_wp2;go_ret
   exact ⟨A,c,rfl,hn,hb⟩
theorem Add_c (A A2:Option Addr) (c c2 a b:Nat) (w:World) (h:Nt w A c a) (h2:Nt w A2 c2 b) (hn:(zAc B32 a).length≤900000000) (hm:(zAc B32 b).length≤900000000) :
  Calls Tryz.prog 169 #[ntV A c a,ntV A2 c2 b] w (zDR (a+b) w):=by
 have e1:=zAl zAu a;have e2:=zAl zAu b
 rcases aU (zAc B32 a).length (zAc B32 b).length with h1 | h1
 ·have:=Add_s A2 A c2 c (zAc B32 b) (zAc B32 a) w h2.rd h.rd (zAK zAu b) (zAK zAu a) hm h1
  rw [e1,e2,Nat.add_comm] at this;exact this
 ·have:=Add_l A A2 c c2 (zAc B32 a) (zAc B32 b) w h.rd h2.rd (zAK zAu a) (zAK zAu b) hn h1
  rw [e1,e2] at this;exact this
def SubRel (w:World) (g:Nat) (l r:List Nat) (m:Nat) (cv iv:Value) (wr:World):Prop :=
 ∃ (k:Nat) (cy:Int) (L:List Nat),k+m=l.length∧iv = .int .i64 k∧cv = .int .i64 cy∧-1≤cy∧cy≤0∧zCh wr g L∧L.length=l.length∧WLt B32 L ∧
  (zAf B32 (L.take k):Int)+(B32:Int) ^ k*cy=(zAf B32 (l.take k):Int) - (zAf B32 (r.take k):Int)∧Below w.heap.size w wr∧w.heap.size≤g
theorem SubRel.step {w wr:World} {g:Nat} {l r L:List Nat} {k gk y:Nat} {cy s:Int} (hkm:k+gk=l.length) (hlt:k<l.length) (hA:zCh wr g L) (hL:L.length=l.length) (hLt:WLt B32 L)
  (hV:(zAf B32 (L.take k):Int)+(B32:Int) ^ k*cy=(zAf B32 (l.take k):Int) - (zAf B32 (r.take k):Int)) (hbw:Below w.heap.size w wr) (hwg:w.heap.size≤g)
  (hy:zAf B32 (r.take (k+1))=zAf B32 (r.take k)+B32 ^ k*y) (hs:s=cy+l[k] - y) (hs1 : -4294967296≤s) (hs2:s≤4294967295) {cv iv mv:Value} (hc:cv = .int .i64 (s / 4294967296)) (hi:iv = .int .i64 ((k:Int)+1)) (hm:mv = .int .u32 (s % 4294967296)) :
  SubRel w g l r (gk - 1) cv iv (wr.setCell ⟨g,k,none⟩ mv):=by
 have hx:((s % 4294967296).toNat:Int)=s % 4294967296:=Int.toNat_of_nonneg za;rw [←hx] at hm;subst hc hi hm;refine ⟨k+1,s / 4294967296,L.set k (s % 4294967296).toNat,za,zi,rfl,za,za,hA.set k _,by simpa using hL,hLt.set qg k,?_,hbw.setCell hwg _,hwg⟩
 rw [zEr za,hy,zAD hlt];have:=sub_col hV hs;simp only [Int.natCast_add,cT,Int.natCast_pow,hx];exact this
theorem sub_l (A A2:Option Addr) (c c2:Nat) (l r:List Nat) (w:World) (h:Wds w A l) (h2:Wds w A2 r) (hl:WLt B32 l) (hr:WLt B32 r) (hn:l.length≤900000000) (he:r.length≤l.length) (hv:zAf B32 r≤zAf B32 l) :
  Calls Tryz.prog 170 #[.slice A l.length c,.slice A2 r.length c2] w (zDR (zAf B32 l - zAf B32 r) w):=by
 have hmk:∀ w:World,(Instr.makeSlice 85 (.int .i64 (l.length:Int)) (.int .i64 (l.length:Int))).run Tryz.prog w = .ok (.slice (some ⟨w.heap.size,0,none⟩) l.length l.length) (w.alloc (.cells (Array.replicate l.length (.int .u32 0)) 197)):=mk_nat l.length za;have HVL:=zq hv;clear hv
 go_enter Tryz.func170,Tryz.ntmps170
 go_wp2;clear hmk;have hnew:=zCh.new w l.length;have hbel:Below w.heap.size w (w.alloc (.cells (Array.replicate l.length (.int .u32 0)) 197)):=(aS _ _).alloc (aB _) _;obtain ⟨g,hg⟩:∃ g,g=w.heap.size:=⟨_,rfl⟩;rw [←hg] at hnew;obtain ⟨w1,hw1⟩:∃ w1,w1=w.alloc (.cells (Array.replicate l.length (.int .u32 0)) 197):=⟨_,rfl⟩;rw [←hw1] at hnew hbel;rw [←hg,←hw1];have HG:=zq hg;have HB:=zq hbel;clear hg hbel hw1
 go_loopg [6,13] l.length (SubRel w g l r)
 case atStart=>exact ⟨0,0,List.replicate l.length 0,za,rfl,rfl,za,za,hnew,ze,WLt.zeros zCp _,je,HB.o,yk⟩
 case round =>
  obtain ⟨k,cy,L,hkm,rfl,rfl,hcy1,hcy2,hA,hL,hLt,hV,hbw,hwg⟩:=hrel;have HM:=zq hkm;have HV:=zq hV;have HL:=zq hL;clear hkm hV hL
  by_cases hlt:k<l.length
  ·have hkL:k<L.length:=by have:=HL.o;omega
   obtain ⟨b,o,hA0,hb,hcl⟩:=(h.below hbw).at_ za;subst hA0;have hc0:=hcl k hlt;rw [zBK] at hc0;have hx:l[k]<4294967296:=hl.get k hlt;have hc1:=hA.cell k hkL;have hf1:=hA.frozen k;clear hcl
   by_cases hlr:k<r.length
   ·obtain ⟨b2,o2,hA2,hb2,hcl2⟩:=(h2.below hbw).at_ za
    subst hA2;have hc2:=hcl2 k hlr;rw [zBK] at hc2;have hy:r[k]<4294967296:=hr.get k hlr;clear hcl2;go_wp2
    go_roundg (gk - 1)
    case measure=>have:=HM.o;omega
    case rel=>exact SubRel.step HM.o hlt hA HL.o hLt HV.o hbw hwg (zAD hlr) rfl za za rfl rfl rfl
   ·have HR:Hid (zAf B32 (r.take (k+1))=zAf B32 (r.take k)+B32 ^ k*0):=by
     show zAf B32 (r.take (k+1))=zAf B32 (r.take k)+B32 ^ k*0
     rw [cY za,cY za];simp
    go_wp2
    go_roundg (gk - 1)
    case measure=>have:=HM.o;omega
    case rel=>exact SubRel.step HM.o hlt hA HL.o hLt HV.o hbw hwg HR.o (s:=cy+l[k]) ze za za rfl rfl rfl
  ·obtain rfl:k=l.length:=by have:=HM.o;omega
   go_wp2_with fail
   have HT:Hid (zAf B32 L=zAf B32 l - zAf B32 r):=by
    show zAf B32 L=_
    have h1:=HV.o;rw [cY (by rw [HL.o];omega),cY (aB _),cY he] at h1
    have h2:=HVL.o;have h3:=zDs hLt;rw [HL.o] at h3;have h4:(zAf B32 L:Int)<(B32:Int) ^ l.length:=by rw [←Int.natCast_pow];omega
    have h5:cy=0∨cy = -1:=za
    rcases h5 with rfl | rfl
    ·omega
    ·omega
   have hl2:=HL.o;rw [←hl2];with_reducible refine (trim_n _ _ L _ w za (aB _) (by have:=hA.rd L.length;rwa [bX] at this) hLt hbw HT.o).mono ?_
   rintro e w' ⟨A,c,rfl,hn,hb⟩;clear hl2;go_wp2;go_ret
   exact ⟨A,c,rfl,hn,hb⟩
theorem sub_c (A A2:Option Addr) (c c2 a b:Nat) (w:World) (h:Nt w A c a) (h2:Nt w A2 c2 b) (hn:(zAc B32 a).length≤900000000) (hv:b≤a) :
  Calls Tryz.prog 170 #[ntV A c a,ntV A2 c2 b] w (zDR (a - b) w):=by
 have e1:=zAl zAu a;have e2:=zAl zAu b;have:=sub_l A A2 c c2 (zAc B32 a) (zAc B32 b) w h.rd h2.rd (zAK zAu a) (zAK zAu b) hn (zAt zAu hv) (by rw [e1,e2];exact hv)
 rw [e1,e2] at this;exact this
end Go.Proofs.YtieoifkdobcpiaaGreatDoor
namespace Go.Proofs
open Go.Shelf
def Tryz.lays133_ren:Go.Shelf.Ren:=⟨fun | 133=>225 | 128=>160 | n=>n,fun | 51=>197 | 3=>3 | 4=>4 | 46=>188 | 5=>5 | 9=>9 | n=>n,fun | n=>n⟩
theorem Tryz.lays133:Go.Proofs.Lays.n133 Tryz.prog Tryz.lays133_ren:={
 mixed:=zc
 f128:=Tryz.func160.trans (bH some zc)
 f133:=Tryz.func225.trans (bH some zc)
 t3:=Tryz.underlying3
 a3:=Tryz.isAgg3
 z3:=Tryz.sizeOf3
 v3:=Tryz.zeroValue3
 t4:=Tryz.underlying4
 a4:=Tryz.isAgg4
 z4:=Tryz.sizeOf4
 v4:=Tryz.zeroValue4
 t5:=Tryz.underlying5
 a5:=Tryz.isAgg5
 z5:=Tryz.sizeOf5
 v5:=Tryz.zeroValue5
 t9:=Tryz.underlying9
 a9:=Tryz.isAgg9
 z9:=Tryz.sizeOf9
 v9:=Tryz.zeroValue9
 t46:=Tryz.underlying188
 a46:=Tryz.isAgg188
 z46:=Tryz.sizeOf188
 v46:=Tryz.zeroValue188
 t51:=Tryz.underlying197
 a51:=Tryz.isAgg197
 z51:=Tryz.sizeOf197
 v51:=Tryz.zeroValue197 }
def Tryz.lays264_ren:Go.Shelf.Ren:=⟨fun | 264=>171 | n=>n,fun | 53=>95 | 46=>188 | n=>n,fun | n=>n⟩
theorem Tryz.lays264:Go.Proofs.Lays.n264 Tryz.prog Tryz.lays264_ren:={
 mixed:=zc
 f264:=Tryz.func171.trans (bH some zc)
 t46:=Tryz.underlying188
 a46:=Tryz.isAgg188
 z46:=Tryz.sizeOf188
 v46:=Tryz.zeroValue188
 t53:=Tryz.underlying95
 a53:=Tryz.isAgg95
 z53:=Tryz.sizeOf95
 v53:=Tryz.zeroValue95 }
end Go.Proofs
namespace Go.Proofs.YtieoifkdobcpiaaGreatDoor
open Go.RowKit Dw
theorem zDh (A:Option Addr) (c n:Nat) (w:World) (h:Nt w A c n) (hn:(zAc B32 n).length≤2):Calls Tryz.prog 166 #[ntV A c n] w (zBs (.tuple #[.int .u64 (n:Int),.bool true]) w):=by
 have:=small_c A c n w h za;unfold smV at this;rw [aE hn,cW hn] at this;exact this
theorem small_no (A:Option Addr) (c n:Nat) (w:World) (h:Nt w A c n) (hn:2<(zAc B32 n).length) (hm:(zAc B32 n).length≤1000000000):Calls Tryz.prog 166 #[ntV A c n] w (zBs (.tuple #[.int .u64 0,.bool false]) w):=by
 have:=small_c A c n w h hm;unfold smV at this;rw [aC za,cX za] at this;exact this
theorem small_lt {n:Nat} (hn:(zAc B32 n).length≤2):n≤18446744073709551615:=by
 have h1:=zBp zAu n;have h2:B32 ^ (zAc B32 n).length≤B32 ^ 2:=bY zCp hn;have h3:B32 ^ 2=18446744073709551616:=zd;omega
def GivesM (x y:Nat) (w:World) (e:Ending) (w':World):Prop :=
 ∃ hi lo:Nat,e = .returned (.tuple #[.int .u64 (hi:Int),.int .u64 (lo:Int)])∧hi≤18446744073709551615∧lo≤18446744073709551615∧Hid (x*y=lo+18446744073709551616*hi)∧w=w'
theorem mul64_c (x y:Nat) (w:World) (hx:x≤18446744073709551615) (hy:y≤18446744073709551615):Calls Tryz.prog 171 #[.int .u64 (x:Int),.int .u64 (y:Int)] w (GivesM x y w):=by
 have h:=Any.bits_Mul64 Tryz.lays264 x y za za w
 change Calls Tryz.prog 171 _ _ _ at h
 refine h.mono fun e w' ⟨he,hw⟩=>⟨_,_,he,?_,?_,?_,hw.symm⟩
 ·have h1:x*y≤18446744073709551615*18446744073709551615:=Nat.mul_le_mul hx hy
  generalize x*y=p at *;omega
 ·omega
 ·show x*y=_
  generalize x*y=p at *;omega
theorem trim4 (hi lo nd:Nat) (w:World) (h1:hi≤18446744073709551615) (h2:lo≤18446744073709551615) {n:Nat} (hv:n=lo+18446744073709551616*hi):Calls Tryz.prog 172 #[.slice (some ⟨w.heap.size,0,none⟩) 4 4]
  ((w.drewN nd).alloc (.cells #[.int .u32 ((lo:Int) % 4294967296),.int .u32 ((lo:Int) / 4294967296),.int .u32 ((hi:Int) % 4294967296),.int .u32 ((hi:Int) / 4294967296)] 197)) (zDR n w) :=
 trim_n _ 4 [lo % 4294967296,lo / 4294967296,hi % 4294967296,hi / 4294967296] _ w ze ze (wds_new (w.drewN nd) _ _ (by simp [u32V]))
  (WLt.cons qg (WLt.cons qg (WLt.cons qg (WLt.cons qg WLt.nil)))) ((zAd (aS _ _) nd).alloc (aB _) _) (by
   rw [hv];simp [zAf,zCA];omega)
def MulRel (w:World) (g:Nat) (l r:List Nat) (m:Nat) (iv:Value) (wr:World):Prop :=
 ∃ (k:Nat) (L:List Nat),k+m=l.length∧iv = .int .i64 k∧zCh wr g L∧L.length=l.length+r.length∧WLt B32 L∧zAf B32 L=zAf B32 (l.take k)*zAf B32 r ∧
  (∀ x (h:x<L.length),k+r.length≤x→L[x]=0)∧Below w.heap.size w wr∧w.heap.size≤g
def MulRel2 (w:World) (g:Nat) (l r:List Nat) (k x:Nat) (m:Nat) (cv jv:Value) (wr:World):Prop :=
 ∃ (j cy:Nat) (L:List Nat),j+m=r.length∧jv = .int .i64 j∧cv = .int .u64 (cy:Int)∧cy≤4294967295∧zCh wr g L∧L.length=l.length+r.length∧WLt B32 L ∧
  zAf B32 L+B32 ^ (k+j)*cy=zAf B32 (l.take k)*zAf B32 r+B32 ^ k*(x*zAf B32 (r.take j))∧(∀ x (h:x<L.length),k+r.length≤x→L[x]=0)∧Below w.heap.size w wr∧w.heap.size≤g
theorem MulRel2.step {w wr:World} {g:Nat} {l r L:List Nat} {k x j cy gk t:Nat} (hkm:j+gk=r.length) (hlt:j<r.length) (hk:k<l.length) (hcy:cy≤4294967295) (hx:x≤4294967295) (hA:zCh wr g L) (hL:L.length=l.length+r.length) (hr:WLt B32 r) (hLt:WLt B32 L)
  (hV:zAf B32 L+B32 ^ (k+j)*cy=zAf B32 (l.take k)*zAf B32 r+B32 ^ k*(x*zAf B32 (r.take j))) (hZ:∀ x (h:x<L.length),k+r.length≤x→L[x]=0) (hbw:Below w.heap.size w wr) (hwg:w.heap.size≤g)
  (ht:t=cy+(x*r[j]+L[k+j])) {cv iv mv:Value} (hc:cv = .int .u64 ((t / 4294967296:Nat):Int)) (hi:iv = .int .i64 ((j:Int)+1)) (hm:mv = .int .u32 ((t % 4294967296:Nat):Int)) :
  MulRel2 w g l r k x (gk - 1) cv iv (wr.setCell ⟨g,k+j,none⟩ mv):=by
 subst hc hi hm;have hy:r[j]≤4294967295:=by have:=hr.get j hlt;rw [zCA] at this;omega
 have hz:L[k+j]≤4294967295:=by have:=hLt.get (k+j) za;rw [zCA] at this;omega
 have hxy:x*r[j]≤4294967295*4294967295:=Nat.mul_le_mul hx hy;refine ⟨j+1,t / 4294967296,L.set (k+j) (t % 4294967296),za,zi,rfl,by rw [ht];generalize x*r[j]=p at *;omega,hA.set (k+j) _,by simpa using hL,hLt.set (modB t) _,?_,fun i hi hki=>?_,hbw.setCell hwg _,hwg⟩
 ·have e1:=zEs B32 L (k+j) (t % 4294967296) za
  rw [zAD hlt]
  have e2:B32 ^ (k+j)*(t % 4294967296)+B32 ^ (k+(j+1))*(t / 4294967296)=B32 ^ (k+j)*t:=by
   rw [show k+(j+1)=(k+j)+1 by omega,aZ,bC,←bA,zCA,bK]
  have e3:B32 ^ (k+j)*t=B32 ^ (k+j)*cy+B32 ^ (k+j)*(x*r[j])+B32 ^ (k+j)*L[k+j]:=by
   rw [ht,bA,bA,Nat.add_assoc]
  have e4:B32 ^ k*(x*(zAf B32 (r.take j)+B32 ^ j*r[j]))=B32 ^ k*(x*zAf B32 (r.take j))+B32 ^ (k+j)*(x*r[j]):=by
   rw [bA,bA,dB,Nat.mul_left_comm x,bC]
  rw [e4];omega
 ·rw [dC za]
  exact hZ i yz za
theorem MulRel.next {w wr:World} {g:Nat} {l r L:List Nat} {k cy gk:Nat} (hkm:k+1+gk=l.length) (hlt:k<l.length) (hcy:cy≤4294967295) (hA:zCh wr g L) (hL:L.length=l.length+r.length) (hLt:WLt B32 L)
  (hV:zAf B32 L+B32 ^ (k+r.length)*cy=zAf B32 (l.take k)*zAf B32 r+B32 ^ k*(l[k]*zAf B32 (r.take r.length))) (hZ:∀ x (h:x<L.length),k+r.length≤x→L[x]=0) (hbw:Below w.heap.size w wr) (hwg:w.heap.size≤g)
  {iv mv:Value} (hi:iv = .int .i64 ((k:Int)+1)) (hm:mv = .int .u32 (cy:Int)) :
  MulRel w g l r gk iv (wr.setCell ⟨g,k+r.length,none⟩ mv):=by
 subst hi hm;refine ⟨k+1,L.set (k+r.length) cy,za,zi,hA.set _ _,by simpa using hL,hLt.set qg _,?_,fun i hi hki=>?_,hbw.setCell hwg _,hwg⟩
 ·have e1:=zEs B32 L (k+r.length) cy za
  rw [hZ (k+r.length) za (aB _)] at e1;rw [cY (aB _)] at hV;rw [zAD hlt,bD,bC (B32 ^ k)];omega
 ·rw [dC za]
  exact hZ i yz za
theorem Mul_c (A A2:Option Addr) (c c2:Nat) (a b:Nat) (w:World) (h:Nt w A c a) (h2:Nt w A2 c2 b) (hn:(zAc B32 a).length≤400000000) (hm:(zAc B32 b).length≤400000000) :
  Calls Tryz.prog 119 #[ntV A c a,ntV A2 c2 b] w (zDR (a*b) w):=by
 by_cases h1:(zAc B32 a).length≤2∧(zAc B32 b).length≤2
 ·obtain ⟨ha,hb⟩:=h1
  have la:=small_lt ha;have lb:=small_lt hb
  go_enter Tryz.func119,Tryz.ntmps119
  go_wp2_with fail
  with_reducible refine (zDh A c a _ h ha).mono ?_
  rintro e w' ⟨rfl,nd,rfl⟩
  go_wp2_with fail
  with_reducible refine (zDh A2 c2 b _ (h2.drewN nd) hb).mono ?_
  rintro e w' ⟨rfl,nd2,rfl⟩
  go_wp2_with fail
  with_reducible refine (mul64_c a b _ la lb).mono ?_
  rintro e w' ⟨hi,lo,rfl,h3,h4,hv,rfl⟩
  go_wp2_with fail
  with_reducible refine (trim4 hi lo (nd+nd2) w h3 h4 hv.out).mono ?_
  rintro e w' ⟨A,c,rfl,hn,hb⟩;go_wp2;go_ret
  exact ⟨A,c,rfl,hn,hb⟩
 ·have hmk:∀ w:World,(Instr.makeSlice 85 (.int .i64 (((zAc B32 a).length:Int)+((zAc B32 b).length:Int))) (.int .i64 (((zAc B32 a).length:Int)+((zAc B32 b).length:Int)))).run Tryz.prog w =
    .ok (.slice (some ⟨w.heap.size,0,none⟩) ((zAc B32 a).length+(zAc B32 b).length) ((zAc B32 a).length+(zAc B32 b).length)) (w.alloc (.cells (Array.replicate ((zAc B32 a).length+(zAc B32 b).length) (.int .u32 0)) 197)) :=
   mk_nat ((zAc B32 a).length+(zAc B32 b).length) za
  by_cases ha:(zAc B32 a).length≤2
  case' pos =>
   have hb:2<(zAc B32 b).length:=za
   go_enter Tryz.func119,Tryz.ntmps119
   go_wp2_with fail
   with_reducible refine (zDh A c a _ h ha).mono ?_
   rintro e w' ⟨rfl,nd,rfl⟩
   go_wp2_with fail
   with_reducible refine (small_no A2 c2 b _ (h2.drewN nd) hb za).mono ?_
   rintro e w' ⟨rfl,nd2,rfl⟩;rw [World.drewN_drewN];clear hb;generalize nd+nd2=nd
  case' neg =>
   go_enter Tryz.func119,Tryz.ntmps119
   go_wp2_with fail
   with_reducible refine (small_no A c a _ h za za).mono ?_
   rintro e w' ⟨rfl,nd,rfl⟩
  all_goals
   clear ha h1;unfold ntV;go_wp2;clear hmk;have hnew:=zCh.new (w.drewN nd) ((zAc B32 a).length+(zAc B32 b).length);have hbel:Below w.heap.size w ((w.drewN nd).alloc (.cells (Array.replicate ((zAc B32 a).length+(zAc B32 b).length) (.int .u32 0)) 197)):=(zAd (aS _ _) nd).alloc (aB _) _;have hg0:(w.drewN nd).heap.size=w.heap.size:=rfl;rw [hg0] at hnew;clear hg0;obtain ⟨g,hg⟩:∃ g,g=w.heap.size:=⟨_,rfl⟩;rw [←hg] at hnew;obtain ⟨w1,hw1⟩:∃ w1,w1=(w.drewN nd).alloc (.cells (Array.replicate ((zAc B32 a).length+(zAc B32 b).length) (.int .u32 0)) 197):=⟨_,rfl⟩;rw [←hw1] at hnew hbel;rw [←hg,←hw1];have HG:=zq hg;have HB:=zq hbel;clear hg hbel hw1;have hl:=zAK zAu a;have hr:=zAK zAu b;have HVA:=zq (zAl zAu a);have HVB:=zq (zAl zAu b);obtain ⟨h,hcap⟩:=h;obtain ⟨h2,hcap2⟩:=h2;generalize zAc B32 a=l at *;generalize zAc B32 b=r at *
   go_loopg [55] l.length (MulRel w g l r)
   case atStart=>exact ⟨0,List.replicate (l.length+r.length) 0,za,rfl,hnew,ze,WLt.zeros zCp _,by rw [wval_zeros];simp [zAf],fun x hx _=>ze,HB.o,yk⟩
   case round =>
    obtain ⟨k,L,hkm,rfl,hA,hL,hLt,hV,hZ,hbw,hwg⟩:=hrel;have HM:=zq hkm;have HV:=zq hV;have HZ:=zq hZ;have HL:=zq hL;clear hkm hV hZ hL
    by_cases hlt:k<l.length
    ·obtain ⟨b1,o1,hA0,hb1,hcl⟩:=(h.below hbw).at_ za
     subst hA0;have hc0:=hcl k hlt;rw [zBK] at hc0;have hx:l[k]<4294967296:=hl.get k hlt;clear hcl;go_wp2;clear hc0;obtain ⟨wo,hwo⟩:∃ wo:World,wo=wr:=⟨_,rfl⟩;subst hwo
     go_loopg [14,62] r.length (MulRel2 w g l r k l[k])
     case atStart=>exact ⟨0,0,L,za,rfl,rfl,za,hA,HL.o,hLt,by rw [HV.o];simp [zAf],HZ.o,hbw,hwg⟩
     case round =>
      clear hA hbw;obtain ⟨j,cy,L2,hjm,rfl,rfl,hcy,hA2,hL2,hLt2,hV2,hZ2,hbw2,hwg2⟩:=hrel;have HM2:=zq hjm;have HV2:=zq hV2;have HZ2:=zq hZ2;have HL2:=zq hL2;clear hjm hV2 hZ2 hL2
      by_cases hj:j<r.length
      ·obtain ⟨b2,o2,hA02,hb2,hcl2⟩:=(h2.below hbw2).at_ za
       subst hA02;have hc2:=hcl2 j hj;rw [zBK] at hc2;have hy:r[j]<4294967296:=hr.get j hj;have hkj:k+j<L2.length:=by have:=HL2.o;omega
       have hz:L2[k+j]<4294967296:=hLt2.get (k+j) hkj;have hc1:=hA2.cell (k+j) hkj;have hf1:=hA2.frozen (k+j);have hxy0:l[k]*r[j]≤4294967295*4294967295:=Nat.mul_le_mul za za
       have hxy:(l[k]:Int)*(r[j]:Int)≤18446744065119617025:=by
        have:((l[k]*r[j]:Nat):Int)≤((4294967295*4294967295:Nat):Int):=za
        rwa [cT] at this
       have hxy2:0≤(l[k]:Int)*(r[j]:Int):=Int.mul_nonneg za za;clear hcl2 hxy0;go_wp2
       go_roundg (gk - 1)
       case measure=>have:=HM2.o;omega
       case rel=>exact MulRel2.step HM2.o hj hlt hcy za hA2 HL2.o hr hLt2 HV2.o HZ2.o hbw2 hwg2 rfl ze rfl ze
      ·obtain rfl:j=r.length:=by have:=HM2.o;omega
       have hkj:k+r.length<L2.length:=by have:=HL2.o;omega
       have hc1:=hA2.cell (k+r.length) hkj;have hf1:=hA2.frozen (k+r.length);go_wp2
       go_roundg (l.length - k - 1)
       case measure=>have:=HM.o;omega
       case rel=>exact MulRel.next za hlt hcy hA2 HL2.o hLt2 HV2.o HZ2.o hbw2 hwg2 rfl rfl
    ·obtain rfl:k=l.length:=by have:=HM.o;omega
     go_wp2_with fail
     have HT:Hid (zAf B32 L=a*b):=by
      show zAf B32 L=_
      have:=HV.o
      rwa [cY (aB _),HVA.o,HVB.o] at this
     have hl2:=HL.o;rw [←hl2];with_reducible refine (trim_n _ _ L _ w za (aB _) (by have:=hA.rd L.length;rwa [bX] at this) hLt hbw HT.o).mono ?_
     rintro e w' ⟨A,c,rfl,hn,hb⟩;clear hl2;go_wp2;go_ret
     exact ⟨A,c,rfl,hn,hb⟩
end Go.Proofs.YtieoifkdobcpiaaGreatDoor
