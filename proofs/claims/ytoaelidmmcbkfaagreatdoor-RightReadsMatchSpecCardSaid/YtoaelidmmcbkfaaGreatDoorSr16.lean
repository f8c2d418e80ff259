/- Parts of the proof, joined: The reference's numbers: times, small. The reference's numbers: divide. -/
import Derived.Test.YtoaelidmmcbkfaaGreatDoorSr15
set_option maxRecDepth 100000
set_option maxHeartbeats 8000000
namespace Go.Proofs.YtoaelidmmcbkfaaGreatDoor
open Go.RowKit Dw
def MulLRel (w:World) (g:Nat) (l r:List Nat) (m:Nat) (iv:Value) (wr:World):Prop :=
 ∃ (k:Nat) (L:List Nat),k+m=l.length∧iv = .int .i64 k∧ArrI wr g L∧L.length=l.length+r.length∧WLt BT L∧zAi BT L=zAi BT (l.take k)*zAi BT r ∧
  (∀ x (h:x<L.length),k+r.length≤x→L[x]=0)∧Below w.heap.size w wr∧w.heap.size≤g
def MulLRel2 (w:World) (g:Nat) (l r:List Nat) (k x:Nat) (m:Nat) (cv jv:Value) (wr:World):Prop :=
 ∃ (j cy:Nat) (L:List Nat),j+m=r.length∧jv = .int .i64 j∧cv = .int .i64 (cy:Int)∧cy≤9999∧ArrI wr g L∧L.length=l.length+r.length∧WLt BT L ∧
  zAi BT L+BT ^ (k+j)*cy=zAi BT (l.take k)*zAi BT r+BT ^ k*(x*zAi BT (r.take j))∧(∀ x (h:x<L.length),k+r.length≤x→L[x]=0)∧Below w.heap.size w wr∧w.heap.size≤g
theorem MulLRel2.step {w wr:World} {g:Nat} {l r L:List Nat} {k x j cy gk t:Nat} (hkm:j+gk=r.length) (hlt:j<r.length) (hk:k<l.length) (hcy:cy≤9999) (hx:x≤9999) (hA:ArrI wr g L) (hL:L.length=l.length+r.length) (hr:WLt BT r) (hLt:WLt BT L)
  (hV:zAi BT L+BT ^ (k+j)*cy=zAi BT (l.take k)*zAi BT r+BT ^ k*(x*zAi BT (r.take j))) (hZ:∀ x (h:x<L.length),k+r.length≤x→L[x]=0) (hbw:Below w.heap.size w wr) (hwg:w.heap.size≤g)
  (ht:t=cy+(x*r[j]+L[k+j])) {cv iv mv:Value} (hc:cv = .int .i64 ((t / 10000:Nat):Int)) (hi:iv = .int .i64 ((j:Int)+1)) (hm:mv = .int .i64 ((t % 10000:Nat):Int)) :
  MulLRel2 w g l r k x (gk - 1) cv iv (wr.setCell ⟨g,k+j,none⟩ mv):=by
 subst hc hi hm;have hy:r[j]≤9999:=by have:=hr.get j hlt;rw [BT_eq] at this;omega
 have hz:L[k+j]≤9999:=by have:=hLt.get (k+j) za;rw [BT_eq] at this;omega
 have hxy:x*r[j]≤9999*9999:=Nat.mul_le_mul hx hy;refine ⟨j+1,t / 10000,L.set (k+j) (t % 10000),za,zn,rfl,by rw [ht];generalize x*r[j]=p at *;omega,hA.set (k+j) _,by simpa using hL,hLt.set (show t % 10000<BT from bA t BT_pos) _,?_,fun i hi hki=>?_,hbw.setCell hwg _,hwg⟩
 ·have e1:=zEw BT L (k+j) (t % 10000) za
  rw [zAH hlt]
  have e2:BT ^ (k+j)*(t % 10000)+BT ^ (k+(j+1))*(t / 10000)=BT ^ (k+j)*t:=by
   rw [show k+(j+1)=(k+j)+1 by omega,aR,aU,←aS,BT_eq,bB]
  have e3:BT ^ (k+j)*t=BT ^ (k+j)*cy+BT ^ (k+j)*(x*r[j])+BT ^ (k+j)*L[k+j]:=by
   rw [ht,aS,aS,bZ]
  have e4:BT ^ k*(x*(zAi BT (r.take j)+BT ^ j*r[j]))=BT ^ k*(x*zAi BT (r.take j))+BT ^ (k+j)*(x*r[j]):=by
   rw [aS,aS,Nat.pow_add,Nat.mul_left_comm x,aU]
  rw [e4];omega
 ·rw [cR za]
  exact hZ i jc za
theorem MulLRel.next {w wr:World} {g:Nat} {l r L:List Nat} {k cy gk:Nat} (hkm:k+1+gk=l.length) (hlt:k<l.length) (hcy:cy≤9999) (hA:ArrI wr g L) (hL:L.length=l.length+r.length) (hLt:WLt BT L)
  (hV:zAi BT L+BT ^ (k+r.length)*cy=zAi BT (l.take k)*zAi BT r+BT ^ k*(l[k]*zAi BT (r.take r.length))) (hZ:∀ x (h:x<L.length),k+r.length≤x→L[x]=0) (hbw:Below w.heap.size w wr) (hwg:w.heap.size≤g)
  {iv mv:Value} (hi:iv = .int .i64 ((k:Int)+1)) (hm:mv = .int .i64 (cy:Int)) :
  MulLRel w g l r gk iv (wr.setCell ⟨g,k+r.length,none⟩ mv):=by
 subst hi hm;refine ⟨k+1,L.set (k+r.length) cy,za,zn,hA.set _ _,by simpa using hL,hLt.set js _,?_,fun i hi hki=>?_,hbw.setCell hwg _,hwg⟩
 ·have e1:=zEw BT L (k+r.length) cy za
  rw [hZ (k+r.length) za (aB _)] at e1;rw [cS (aB _)] at hV;rw [zAH hlt,aV,aU (BT ^ k)];omega
 ·rw [cR za]
  exact hZ i jc za
theorem timesL_c (A A2:Option Addr) (c c2:Nat) (a b:Nat) (w:World) (h:Lms w A (zAe BT a)) (h2:Lms w A2 (zAe BT b)) (hn:(zAe BT a).length≤400000000) (hm:(zAe BT b).length≤400000000) :
  Calls Tryz.prog 165 #[lmV A c a,lmV A2 c2 b] w (zCZ (a*b) w):=by
 have hmk:∀ w:World,(Instr.makeSlice 94 (.int .i64 (((zAe BT a).length:Int)+((zAe BT b).length:Int))) (.int .i64 (((zAe BT a).length:Int)+((zAe BT b).length:Int)))).run Tryz.prog w =
   .ok (.slice (some ⟨w.heap.size,0,none⟩) ((zAe BT a).length+(zAe BT b).length) ((zAe BT a).length+(zAe BT b).length)) (w.alloc (.cells (Array.replicate ((zAe BT a).length+(zAe BT b).length) (.int .i64 0)) 3)) :=
  mk_ints ((zAe BT a).length+(zAe BT b).length) za
 unfold lmV
 go_enter Tryz.func165,Tryz.ntmps165
 go_wp2;clear hmk;have hnew:=ArrI.new w ((zAe BT a).length+(zAe BT b).length);have hbel:Below w.heap.size w (w.alloc (.cells (Array.replicate ((zAe BT a).length+(zAe BT b).length) (.int .i64 0)) 3)):=(bS _ _).alloc (aB _) _;obtain ⟨g,hg⟩:∃ g,g=w.heap.size:=⟨_,rfl⟩;rw [←hg] at hnew;obtain ⟨w1,hw1⟩:∃ w1,w1=w.alloc (.cells (Array.replicate ((zAe BT a).length+(zAe BT b).length) (.int .i64 0)) 3):=⟨_,rfl⟩;rw [←hw1] at hnew hbel;rw [←hg,←hw1];have HG:=zq hg;have HB:=zq hbel;clear hg hbel hw1;have hl:=zBb zBm a;have hr:=zBb zBm b;have HVA:=zq (zAw zBm a);have HVB:=zq (zAw zBm b);generalize zAe BT a=l at *;generalize zAe BT b=r at *
 go_loopg [6] l.length (MulLRel w g l r)
 case atStart=>exact ⟨0,List.replicate (l.length+r.length) 0,za,rfl,hnew,zd,WLt.zeros BT_pos _,by rw [wval_zeros];simp [zAi],fun x hx _=>zd,HB.o,qy⟩
 case round =>
  obtain ⟨k,L,hkm,rfl,hA,hL,hLt,hV,hZ,hbw,hwg⟩:=hrel;have HM:=zq hkm;have HV:=zq hV;have HZ:=zq hZ;have HL:=zq hL;clear hkm hV hZ hL
  by_cases hlt:k<l.length
  ·have hx:l[k]<10000:=hl.get k hlt
   go_wp2;obtain ⟨wo,hwo⟩:∃ wo:World,wo=wr:=⟨_,rfl⟩;subst hwo
   go_loopg [7,8] r.length (MulLRel2 w g l r k l[k])
   case atStart=>exact ⟨0,0,L,za,rfl,rfl,za,hA,HL.o,hLt,by rw [HV.o];simp [zAi],HZ.o,hbw,hwg⟩
   case round =>
    clear hA hbw;obtain ⟨j,cy,L2,hjm,rfl,rfl,hcy,hA2,hL2,hLt2,hV2,hZ2,hbw2,hwg2⟩:=hrel;have HM2:=zq hjm;have HV2:=zq hV2;have HZ2:=zq hZ2;have HL2:=zq hL2;clear hjm hV2 hZ2 hL2
    by_cases hj:j<r.length
    ·obtain ⟨b1,o1,hA0,hb1,hcl⟩:=(h.below hbw2).at_ za
     subst hA0;have hc0:=hcl k hlt;obtain ⟨b2,o2,hA02,hb2,hcl2⟩:=(h2.below hbw2).at_ za;subst hA02;have hc2:=hcl2 j hj;have hy:r[j]<10000:=hr.get j hj;have hkj:k+j<L2.length:=by have:=HL2.o;omega
     have hz:L2[k+j]<10000:=hLt2.get (k+j) hkj;have hc1:=hA2.cell (k+j) hkj;have hf1:=hA2.frozen (k+j);have hsz:=hA2.lt;obtain ⟨p,hp⟩:∃ p,p=l[k]*r[j]:=⟨_,rfl⟩;have hpB:p≤9999*9999:=by rw [hp];exact Nat.mul_le_mul za za
     have hpe:(l[k]:Int)*(r[j]:Int)=(p:Int):=by rw [hp];exact (cJ _ _).symm
     obtain ⟨T,hT⟩:∃ T,T=cy+(p+L2[k+j]):=⟨_,rfl⟩;have hTe:(L2[k+j]:Int)+(p:Int)+(cy:Int)=(T:Int):=by rw [hT];omega
     have hTB:T≤99999999:=za;have HT:Hid (T=cy+(l[k]*r[j]+L2[k+j])):=by show _=_;rw [hT,hp]
     clear hcl hcl2 hT hp;go_wp2
     go_quiet (fail)
     go_wp2
     go_roundg (gk - 1)
     case measure=>have:=HM2.o;omega
     case rel=>exact MulLRel2.step (wr:=wr.drewN _) HM2.o hj hlt hcy za (hA2.drewN _) HL2.o hr hLt2 HV2.o HZ2.o (zAc hbw2 _) hwg2 HT.o zd rfl zd
    ·obtain rfl:j=r.length:=by have:=HM2.o;omega
     have hkj:k+r.length<L2.length:=by have:=HL2.o;omega
     have hc1:=hA2.cell (k+r.length) hkj;rw [HZ2.o _ hkj (aB _)] at hc1;have hf1:=hA2.frozen (k+r.length);have hsz:=hA2.lt;go_wp2
     go_roundg (l.length - k - 1)
     case measure=>have:=HM.o;omega
     case rel=>exact MulLRel.next yp hlt hcy hA2 HL2.o hLt2 HV2.o HZ2.o hbw2 hwg2 rfl zd
  ·obtain rfl:k=l.length:=by have:=HM.o;omega
   go_wp2_with fail
   have HT:Hid (zAi BT L=a*b):=by
    show zAi BT L=_
    have:=HV.o
    rwa [cS (aB _),HVA.o,HVB.o] at this
   have hl2:=HL.o;rw [←hl2];with_reducible refine (trimL_n _ _ L _ w za (aB _) hA.rd hLt hbw HT.o).mono ?_
   rintro e w' ⟨A,c,rfl,hn,hb⟩;clear hl2;go_wp2;go_ret
   exact ⟨A,c,rfl,hn,hb⟩
theorem lms_one (w:World) (n:Nat):Lms (w.alloc (.cells #[.int .i64 (n:Int)] 3)) (some ⟨w.heap.size,0,none⟩) [n]:=fun _=>⟨w.heap.size,0,rfl,fun i hi=>by
 have:i=0:=by simp at hi;omega
 subst this;rw [bQ _ w.heap.size _ _ _ _ (cI _ _)];rfl⟩
theorem smallL_c (A:Option Addr) (c a n:Nat) (w:World) (h:Lms w A (zAe BT a)) (hn:(zAe BT a).length≤400000000) (hm:n≤9999) :
  Calls Tryz.prog 210 #[lmV A c a,.int .i64 (n:Int)] w (zCZ (a*n) w):=by
 have hb:Below w.heap.size w (w.alloc (.cells #[.int .i64 (n:Int)] 3)):=(bS _ _).alloc (aB _) _
 have HT:Hid (Calls Tryz.prog 190 #[.slice (some ⟨w.heap.size,0,none⟩) 1 1] (w.alloc (.cells #[.int .i64 (n:Int)] 3)) (zCZ n w)) :=
  trimL_n (some ⟨w.heap.size,0,none⟩) 1 [n] (w.alloc (.cells #[.int .i64 (n:Int)] 3)) w zd zd (lms_one w n) (WLt.cons js WLt.nil) hb (n:=n) (zBR BT n)
 go_enter Tryz.func210,Tryz.ntmps210
 go_wp2_with fail
 with_reducible refine HT.o.mono ?_
 rintro e w1 ⟨A1,c1,rfl,h1,hb1⟩
 have hl1:(zAe BT n).length≤400000000:=by
  have:=zBn zBm (a:=n) (k:=1) js;omega
 clear HT hb
 go_wp2_with fail
 with_reducible refine (timesL_c A A1 c c1 a n w1 (h.below hb1) h1.rd hn hl1).mono ?_
 rintro e w2 ⟨A2,c2,rfl,h2,hb2⟩;have HB:=zq (zAb hb1 hb2);clear hb1 hb2;go_wp2;go_ret
 exact ⟨A2,c2,rfl,h2,HB.o⟩
theorem own_one (w:World) (base n:Nat) (hb:base≤w.heap.size):OwnI (w.alloc (.cells #[.int .i64 (n:Int)] 3)) base (.slice (some ⟨w.heap.size,0,none⟩) 1 1) [n] :=
 ⟨rfl,.inr ⟨w.heap.size,1,_,rfl,hb,cI _ _,aB _,zt,rfl,rfl⟩⟩
theorem cmpN_le {a b:Nat} (h:a≤b):decide (zDD a b≤0)=true:=by
 rcases bO a b with h1 | h1
 ·rw [zBU h1];rfl
 ·rw [zDa za];rfl
theorem cmpN_nle {a b:Nat} (h:¬ a≤b):decide (zDD a b≤0)=false:=by rw [zBT za];rfl
def DivLRel (w:World) (g:Nat) (l:List Nat) (b:Nat) (m:Nat) (rv iv:Value) (wr:World):Prop :=
 ∃ (L:List Nat) (R:Nat) (A:Option Addr) (c:Nat) (z:Int),m≤l.length∧z=(m:Int) - 1∧iv = .int .i64 z∧rv=lmV A c R∧Lt wr A c R∧ArrI wr g L∧L.length=l.length∧WLt BT L ∧
  R=zAi BT (l.drop m) % b∧zAi BT (L.drop m)=zAi BT (l.drop m) / b∧Below w.heap.size w wr∧w.heap.size≤g
def BsRel (w:World) (q:Nat) (m:Nat) (lv hv:Value) (wr:World):Prop :=
 ∃ lo hi:Nat,lv = .int .i64 (lo:Int)∧hv = .int .i64 (hi:Int)∧lo≤q∧q≤hi∧hi≤9999∧hi=lo+m∧Below w.heap.size w wr
theorem lms_some {w:World} {A:Option Addr} {l:List Nat} (h:Lms w A l):A≠none∨l=[]:=by
 rcases bH l.length with h0 | h0
 ·exact .inr (List.length_eq_zero_iff.1 h0)
 ·obtain ⟨b,o,rfl,_⟩:=h h0
  exact .inl zd
theorem divL_c (A A2:Option Addr) (c c2 a b:Nat) (w:World) (h:Lms w A (zAe BT a)) (h2:Lms w A2 (zAe BT b)) (hn:(zAe BT a).length≤200000000) (hm:(zAe BT b).length≤200000000) (hb0:0<b) :
  Calls Tryz.prog 189 #[lmV A c a,lmV A2 c2 b] w (fun e w'=>∃ A3 c3 A4 c4,e = .returned (.tuple #[lmV A3 c3 (a / b),lmV A4 c4 (a % b)])∧Lt w' A3 c3 (a / b)∧Lt w' A4 c4 (a % b)∧Below w.heap.size w w'):=by
 have hmk:∀ w:World,(Instr.makeSlice 94 (.int .i64 (((zAe BT a).length:Nat):Int)) (.int .i64 (((zAe BT a).length:Nat):Int))).run Tryz.prog w =
   .ok (.slice (some ⟨w.heap.size,0,none⟩) (zAe BT a).length (zAe BT a).length) (w.alloc (.cells (Array.replicate (zAe BT a).length (.int .i64 0)) 3)) :=
  mk_ints (zAe BT a).length za
 obtain ⟨l,hl⟩:∃ l,l=zAe BT a:=⟨_,rfl⟩;have ea:lmV A c a = .slice A l.length c:=by rw [hl]
 rw [ea];rw [←hl] at h hn hmk;have hlw:WLt BT l:=by rw [hl];exact zBb zBm a
 have HL:Hid (zAi BT l=a):=by show _=_;rw [hl];exact zAw zBm a
 clear hl ea
 go_enter Tryz.func189,Tryz.ntmps189
 go_wp2;clear hmk;have hnew:=ArrI.new w l.length;have hbel:Below w.heap.size w (w.alloc (.cells (Array.replicate l.length (.int .i64 0)) 3)):=(bS _ _).alloc (aB _) _;obtain ⟨g,hg⟩:∃ g,g=w.heap.size:=⟨_,rfl⟩;rw [←hg] at hnew;obtain ⟨w1,hw1⟩:∃ w1,w1=w.alloc (.cells (Array.replicate l.length (.int .i64 0)) 3):=⟨_,rfl⟩;rw [←hw1] at hnew hbel;rw [←hg,←hw1];have HG:=zq hg;have HB:=zq hbel;clear hg hbel hw1
 go_loopg [7,8] l.length (DivLRel w g l b)
 case atStart =>
  refine ⟨List.replicate l.length 0,0,none,0,(l.length:Int) - 1,aB _,rfl,zn,rfl,⟨Rd1.nil,aX _⟩,hnew,zd,WLt.zeros BT_pos _,?_,?_,HB.o,qy⟩
  ·rw [aA (aB _)];simp [zAi]
  ·rw [aA (aB _),aA zd];simp [zAi]
 case round =>
  obtain ⟨L,R,A3,c3,z,hml,hz,rfl,rfl,hR,hA,hLl,hLw,hRv,hLv,hbw,hwg⟩:=hrel;have HRV:=zq hRv;have HLV:=zq hLv;have HLL:=zq hLl;have HRB:Hid (R<b):=by show R<b;rw [hRv];exact bA _ hb0
  have hRl:(zAe BT R).length≤200000000:=by have:=zAL zBm (bG HRB.o);omega
  clear hRv hLv hLl
  rcases bH gk with h0 | h0
  ·subst h0
   obtain rfl:z = -1:=hz;have e1:zAi BT L=a / b:=by have:=HLV.o;rwa [cT,cT,HL.o] at this
   have e2:R=a % b:=by have:=HRV.o;rwa [cT,HL.o] at this
   have HE2:=zq e2;have hll:=HLL.o;have HT:=zq (trimL_n (some ⟨g,0,none⟩) l.length L wr wr za za hA.rd hLw (bS _ _) e1);rw [hll] at HT;clear e1 e2 hll
   go_wp2_with fail
   with_reducible refine HT.o.mono ?_
   rintro e w2 ⟨A5,c5,rfl,h5,hb5⟩;have HB5:=zq (zAb hbw hb5);have HR5:=zq (hR.below hb5);have H5:=zq h5;clear hb5 h5 HT hbw hR;go_wp2;go_ret2
   refine ⟨A5,c5,A3,c3,?_,H5.o,?_,HB5.o⟩
   ·rw [←HE2.o];rfl
   ·rw [←HE2.o];exact HR5.o
  ·obtain ⟨j,rfl⟩:∃ j,gk=j+1:=⟨gk - 1,za⟩
   obtain rfl:z=(j:Int):=za;clear hz;have hj:j<l.length:=za;obtain ⟨q0,o0,hA0,hq0,hcl⟩:=(h.below hbw).at_ za;subst hA0;have hc0:=hcl j hj;have hx:l[j]<10000:=hlw.get j hj;clear hcl;obtain ⟨V,hV⟩:∃ V,V=l[j]+BT*R:=⟨_,rfl⟩;have HVL:Hid (V<b*BT):=by show V<b*BT;rw [hV];exact next_lt HRB.o (by rw [BT_eq];exact hx)
   obtain ⟨q,hq⟩:∃ q,q=V / b:=⟨_,rfl⟩
   have hq9:q≤9999:=by
    have:=quot_lt (B:=BT) (u:=V) (v:=b) HVL.o;rw [←hq,BT_eq] at this;omega
   have HV:=zq hV;have HQ:=zq hq;clear hV hq
   go_wp2_with (at_builtin;refine wpList_pushK (k:=1) (enc:=encLm) (fun _=>rfl) (fun _ _ h=>by simp at h;subst h;rfl) _ _ _ elI rfl rfl wr.heap.size _ [l[j]] rfl (own_one wr wr.heap.size l[j] (aB _)) A3 _ c3 (zAe BT R) rfl rfl (RdK.of1 (Rd1.alloc hR.rd _)) (lms_some hR.rd) (by unfold maxLen;simp;omega) zg zd ?_;intro v7 w7 hown7 hg7 hb7 _)
   have hb8:=((bS wr.heap.size wr).alloc (aB _) (.cells #[.int .i64 ((l[j]:Nat):Int)] 3)).trans hb7;obtain ⟨A7,c7,rfl⟩:=own_slice' hown7;have hcap:=own_capI hown7;have hT2:=trimL_x A7 c7 ([l[j]]++zAe BT R) w7 zg hcap.1 (own_lms hown7) (WLt.append (WLt.cons (by rw [BT_eq];exact hx) WLt.nil) (zBb zBm R)) (n:=V) (by rw [zAY,zBR,zAw zBm,HV.o];simp)
   have HT:=zq hT2.1;have H8:=zq hT2.2;have hgs:=hA.lt
   have HAN:Hid (∀ x o,A7=some ⟨x,o,none⟩→x≠g):=fun x o e=>by
    have h1:=(bT hown7 x (by rw [e];rfl)).1
    omega
   have hlen7:([l[j]]++zAe BT R).length=1+(zAe BT R).length:=zg;clear hown7 hg7 hb7 hc0 hcap hT2 hgs
   go_wp2_with fail
   with_reducible refine HT.o.mono ?_
   rintro e w7 ⟨rfl,rfl⟩;clear HT hlen7;have HBW7:=zq (zAb hbw hb8);have HA7:=zq (hA.below hb8)
   have hVl:(zAe BT V).length≤200000001:=by
    have h9:V<BT ^ ((zAe BT b).length+1):=by
     refine cX HVL.o ?_
     rw [aR];exact aN _ (bG (zBM zBm b))
    have:=zBn zBm h9;omega
   clear hb8 hA hR hbw;go_wp2
   go_loopg [10,11] 9999 (BsRel w7 q)
   case atStart=>exact ⟨0,9999,rfl,rfl,za,hq9,za,za,bS _ _⟩
   case round =>
    obtain ⟨lo,hi,rfl,rfl,hlo,hhi,hh9,hlh,hbs⟩:=hrel;have HBS:=zq hbs;have HLH:=zq hlh;clear hbs hlh
    by_cases hlt:lo<hi
    ·obtain ⟨md,hmd⟩:∃ md,md=(lo+hi+1) / 2:=⟨_,rfl⟩
     have hmdi:((lo:Int)+(hi:Int)+1) / 2=(md:Int):=by rw [hmd];omega
     have hm9:md≤9999:=za;have hm1:lo<md∧md≤hi:=za;have HMD:=zq hmd;clear hmd
     go_wp2_with fail
     with_reducible refine (smallL_c A2 c2 b md wr ((h2.below HBW7.o).below HBS.o) za hm9).mono ?_
     rintro e w9 ⟨A9,c9,rfl,h9,hb9⟩;have HBS9:=zq (zAb HBS.o hb9)
     have hl9:(zAe BT (b*md)).length≤1000000000:=by
      have h10:b*md<BT ^ ((zAe BT b).length+1):=by
       have e1:=zBM zBm b;have e2:b*md≤b*BT:=bC _ js;have e3:b*BT<BT ^ (zAe BT b).length*BT:=cW e1 BT_pos;rw [aR];omega
      have:=zBn zBm h10;omega
     have H9:=zq h9;clear hb9 h9
     go_wp2_with fail
     with_reducible refine (cmpL_c A9 A7 c9 c7 (b*md) V w9 H9.o.rd (H8.o.rd.below HBS9.o) hl9).mono ?_
     rintro e w10 ⟨rfl,nd,rfl⟩;clear hl9 H9
     by_cases hc:b*md≤V
     ·have hcb:=cmpN_le hc
      have hmq:md≤q:=by rw [HQ.o];exact (Nat.le_div_iff_mul_le hb0).2 (by rw [aT];exact hc)
      clear hc;go_wp2
      go_roundg (hi - md)
      case measure=>have:=HLH.o;omega
      case rel=>exact ⟨md,hi,rfl,rfl,hmq,hhi,hh9,za,zAc HBS9.o _⟩
     ·have hcb:=cmpN_nle hc
      have hmq:q<md:=by rw [HQ.o];exact (Nat.div_lt_iff_lt_mul hb0).2 (by rw [aT];omega)
      clear hc;go_wp2
      go_roundg (md - 1 - lo)
      case measure=>have:=HLH.o;omega
      case rel=>exact ⟨lo,md - 1,rfl,zn,hlo,za,za,za,zAc HBS9.o _⟩
    ·obtain rfl:lo=q:=by omega
     have HA:=zq (HA7.o.below HBS.o);have hcg:=HA.o.cell j (by have:=HLL.o;omega)
     have hfg:=HA.o.frozen j;have hsg:=HA.o.lt;have hll:=HLL.o;have HBV:=zq (zAb HBW7.o HBS.o);have HBE:=zq (HBV.o.setCell (p:=⟨g,j,none⟩) hwg (.int .i64 (lo:Int)));have HAE:=zq (HA.o.set j lo);have HVE:Hid (Lms (wr.setCell ⟨g,j,none⟩ (.int .i64 (lo:Int))) A7 (zAe BT V)):=lms_set (H8.o.rd.below HBS.o) HAN.o _;have hlV:b*lo≤V:=by rw [HQ.o];exact Nat.mul_div_le V b
     have HLV2:=zq hlV;clear hhi hh9 HLH hlV;obtain ⟨wS,hwS⟩:∃ wS,wS=wr.setCell ⟨g,j,none⟩ (.int .i64 (lo:Int)):=⟨_,rfl⟩;rw [←hwS] at HBE HAE HVE
     go_wp2_with fail
     rw [←hwS];clear hcg hfg hsg hll hwS hlt;with_reducible refine (smallL_c A2 c2 b lo wS (h2.below HBE.o) za hq9).mono ?_
     rintro e w9 ⟨A9,c9,rfl,h9,hb9⟩;have H9:=zq h9;have HB9:=zq hb9;clear h9 hb9
     go_wp2_with fail
     with_reducible refine (lessL_c A7 A9 c7 c9 V (b*lo) w9 (HVE.o.below HB9.o) H9.o.rd za HLV2.o).mono ?_
     rintro e w10 ⟨A10,c10,rfl,h10,hb10⟩;have HBX:=zq (zAb HB9.o hb10);have H10:=zq h10;clear h10 hb10 H9 HB9;go_wp2
     go_roundg j
     case measure=>omega
     case rel =>
      have e1:=zDB (B:=BT) hj;have e2:=div_next (B:=BT) (r:=R) (v:=b) (x:=l[j]) hb0 (zAi BT (L.drop (j+1)))
      have e3:zAi BT (l.drop (j+1))=zAi BT (L.drop (j+1))*b+R:=by
       rw [HLV.o,HRV.o,aT];exact (Nat.div_add_mod _ _).symm
      rw [←e3,←e1,←HV.o] at e2;have hjL:j<L.length:=by have:=HLL.o;omega
      refine ⟨L.set j lo,V - b*lo,A10,c10,_,za,rfl,zn,rfl,H10.o,HAE.o.below HBX.o,by rw [List.length_set];exact HLL.o,hLw.set js j,?_,?_,zAb HBE.o HBX.o,hwg⟩
      ·rw [e2.2]
       have:=Nat.div_add_mod V b;rw [←HQ.o] at this;omega
      ·rw [zEk L j lo hjL,e2.1]
       show lo+BT*_=_
       rw [←HQ.o];omega
def ComRel (w:World) (a b:Nat) (m:Nat) (v0 v1:Value) (wr:World):Prop :=
 ∃ (x y:Nat) (A:Option Addr) (c:Nat) (A2:Option Addr) (c2:Nat),y=m∧v0=lmV A c x∧v1=lmV A2 c2 y∧Lt wr A c x∧Lt wr A2 c2 y∧Nat.gcd x y=Nat.gcd a b∧(zAe BT x).length≤200000000∧(zAe BT y).length≤200000000∧Below w.heap.size w wr
theorem commonL_c (A A2:Option Addr) (c c2 a b:Nat) (w:World) (h:Lt w A c a) (h2:Lt w A2 c2 b) (hn:(zAe BT a).length≤200000000) (hm:(zAe BT b).length≤200000000) :
  Calls Tryz.prog 158 #[lmV A c a,lmV A2 c2 b] w (zCZ (Nat.gcd a b) w):=by
 go_enter Tryz.func158,Tryz.ntmps158
 go_wp2
 go_loopg [0,1] b (ComRel w a b)
 case atStart=>exact ⟨a,b,A,c,A2,c2,rfl,rfl,rfl,h,h2,rfl,hn,hm,bS _ _⟩
 case round =>
  obtain ⟨x,y,A3,c3,A4,c4,hy,rfl,rfl,h3,h4,hg,hl1,hl2,hbw⟩:=hrel;have HG:=zq hg;have HB:=zq hbw;have HY:=zq hy;clear hg hbw hy
  rcases bH y with h0 | h0
  ·subst h0
   have hz:(zAe BT 0).length=0:=rfl;have HGE:Hid (x=Nat.gcd a b):=by show _=_;rw [←HG.o,Nat.gcd_zero_right]
   unfold lmV;rw [hz];go_wp2;go_ret
   exact ⟨A3,c3,by rw [←HGE.o];rfl,by rw [←HGE.o];exact h3,HB.o⟩
  ·have hp:0<(zAe BT y).length:=by
    refine Nat.pos_of_ne_zero fun e=>?_
    have:=(zDz zBm (n:=y)).1 (cZ e);omega
   have hr:(zAe BT (x % y)).length≤200000000:=by have:=zAL zBm (bG (bA x h0));omega
   go_wp2_with fail
   with_reducible refine (divL_c A3 A4 c3 c4 x y wr h3.rd h4.rd hl1 hl2 h0).mono ?_
   rintro e w2 ⟨A5,c5,A6,c6,rfl,h5,h6,hb2⟩;have HB2:=zq (zAb HB.o hb2);have H4:=zq (h4.below hb2);have H6:=zq h6;clear hb2 h5 h6 h3 h4 hp;go_wp2
   go_roundg (x % y)
   case measure=>have:=bA x h0;have:=HY.o;omega
   case rel=>exact ⟨y,x % y,A4,c4,A6,c6,rfl,rfl,rfl,H4.o,H6.o,by rw [←HG.o];exact gcd_step.symm,hl2,hr,HB2.o⟩
open Go.Shelf Go.RowKit Go.Lib Dw
def LmbRel (w:World) (l:List UInt8) (m:Nat) (sv ov:Value) (wr:World):Prop :=
 ∃ (t:BA) (out:List Nat),t.size=m∧sv = .string t∧t.data.toList.all dgB=true∧WLt BT out∧out.length+t.size≤l.length∧zBQ l=zBQ t.data.toList*BT ^ out.length+zAi BT out∧OwnI wr w.heap.size ov out∧Below w.heap.size w wr
theorem zCT (s:BA) (w:World) (hd:s.data.toList.all dgB=true) (hs:s.size≤400000000):Calls Tryz.prog 159 #[.string s] w (zCZ (zBQ s.data.toList) w):=by
 have hsl:=len_data s
 go_enter Tryz.func159,Tryz.ntmps159
 go_wp2
 go_loopg [0,3] s.size (LmbRel w s.data.toList)
 case atStart=>exact ⟨s,[],rfl,rfl,hd,WLt.nil,by simp [hsl],vh,zAF.nil _ _ _ _ _,bS _ _⟩
 case round =>
  obtain ⟨t,out,hm,rfl,htd,how,hol,hv,hown,hbw⟩:=hrel;have HTD:=zq htd;have HW:=zq how;have HV:=zq hv;have HB:=zq hbw;have htl:=len_data t;have HM:=zq hm;clear htd how hv hbw hm
  rcases bH t.size with h0 | h0
  ·have htn:t.data.toList=[]:=List.length_eq_zero_iff.1 za
   have HE:Hid (zAi BT out=zBQ s.data.toList):=by
    show _=_
    have:=HV.o;rw [htn] at this;rw [this];simp [zBQ]
   obtain ⟨A9,c9,rfl⟩:=own_slice' hown;have HT:=zq (trimL_n A9 c9 out wr w za (own_capI hown).1 (own_lms hown) HW.o HB.o HE.o)
   go_wp2_with fail
   with_reducible refine HT.o.mono ?_
   rintro e w7 ⟨A7,c7,rfl,hl7,hb7⟩;have HL7:=zq hl7;have HB7:=zq hb7;clear hl7 hb7 HT;go_wp2;go_ret
   exact ⟨A7,c7,rfl,HL7.o,HB7.o⟩
  ·obtain ⟨k,hk⟩:∃ k,k=t.size - 4:=⟨_,rfl⟩
   have hki:max (0:Int) ((t.size:Int) - 4)=(k:Int):=za;have hk2:k<t.size∧t.size≤k+4:=za;have HK:=zq hk;clear hk
   have hxl:(t.extract k t.size).data.toList=t.data.toList.drop k:=by
    rw [Lib.extract_data,cS (by rw [bK,htl];omega)]
   have hyl:(t.extract 0 k).data.toList=t.data.toList.take k:=by
    rw [Lib.extract_data,cT,Nat.sub_zero]
   have hxs:(t.extract k t.size).size=t.size - k:=by rw [←len_data,hxl,bK,htl]
   have hys:(t.extract 0 k).size=k:=by rw [←len_data,hyl,bE,htl];omega
   have HXL:=zq hxl;have HYL:=zq hyl;obtain ⟨x,hx⟩:∃ x,x=zBQ (t.data.toList.drop k):=⟨_,rfl⟩
   have hxB:x<10000:=by
    have h1:=decV_lt (l:=t.data.toList.drop k) (fun c hc=>by
     have:=List.all_eq_true.1 HTD.o c (bX hc);have:=(dgB_iff c).1 this;omega)
    rw [←hx,bK,htl] at h1;have h2:(10:Nat) ^ (t.size - k)≤10 ^ 4:=bN zc za;have h3:(10:Nat) ^ 4=10000:=zc;omega
   have HA:=zq (atoi_c (t.extract k t.size) wr za za (by rw [hxl,List.all_eq_true];exact fun c hc=>List.all_eq_true.1 HTD.o c (bX hc)))
   rw [hxl,←hx] at HA
   have HC:Hid (zBQ t.data.toList=zBQ (t.data.toList.take k)*10 ^ (t.size - k)+x):=by
    show _=_
    rw [hx,←htl];exact decV_cut _ k
   clear hxl hyl hx
   go_wp2_with fail
   with_reducible refine HA.o.mono ?_
   rintro e w2 ⟨rfl,hb2⟩;have HO2:=zq (hown.below hb2);have HB2:=zq (zAb HB.o hb2);clear HA hb2 hown HB
   go_wp2_with (at_builtin;refine zAp _ _ _ elI rfl rfl w.heap.size _ out rfl (zAF.alloc HO2.o _) w2.heap.size 1 x rfl (cI _ _) rfl zu zt za (by simp;exact Nat.le_succ_of_le HB2.o.size) ?_;intro A7 c7 w7 hown7 hg7 hb7 hat7)
   have HB7:=zq ((HB2.o.alloc HB2.o.size _).trans hb7);have HN7:=zq hown7;clear hown7 hg7 hb7 hat7 HO2 HB2;go_wp2
   go_roundg k
   case measure=>have:=HM.o;omega
   case rel =>
    refine ⟨t.extract 0 k,out++[x],hys,rfl,?_,HW.o.append (WLt.cons js WLt.nil),by rw [cY,dK,hys];omega,?_,HN7.o,HB7.o⟩
    ·rw [HYL.o,List.all_eq_true];exact fun c hc=>List.all_eq_true.1 HTD.o c (List.mem_of_mem_take hc)
    ·rw [HYL.o,cY,dK,zAY,zBR,HV.o,HC.o]
     have e1:zBQ (t.data.toList.take k)*10 ^ (t.size - k)=zBQ (t.data.toList.take k)*BT:=by
      rcases bH k with h1 | h1
      ·subst h1;simp [zBQ]
      ·have:=HK.o
       rw [show t.size - k=4 by omega];rfl
     rw [e1,aV,aR,aU,aT BT,aT x];omega
end Go.Proofs.YtoaelidmmcbkfaaGreatDoor
namespace Go.Proofs.YtoaelidmmcbkfaaGreatDoor
open Go.RowKit Dw
abbrev zCR:Array Value:=#[.bool false,.slice none 0 0,.slice none 0 0]
abbrev nuC (ng:Bool) (A:Option Addr) (c n:Nat) (A2:Option Addr) (c2 d:Nat):Array Value:=#[.bool ng,.slice A (zAe BT n).length c,.slice A2 (zAe BT d).length c2]
abbrev nuV (ng:Bool) (A:Option Addr) (c n:Nat) (A2:Option Addr) (c2 d:Nat):Value:=.agg (nuC ng A c n A2 c2 d)
def zDh (ng:Bool) (n d:Nat) (w:World) (e:Ending) (w':World):Prop:=∃ A c A2 c2,e = .returned (nuV ng A c n A2 c2 d)∧Lt w' A c n∧Lt w' A2 c2 d∧Below w.heap.size w w'
theorem lms_ne {w:World} {A:Option Addr} {l:List Nat} (h:Lms w A l) (hl:0<l.length) {R:Nat} {cs:Array Value} {T:TypeId} (hb:Bx w R cs T) (hc:∀ (i:Nat) (n:Int),cs[i]?≠some (Value.int .i64 n)):∀ b o,A=some ⟨b,o,none⟩→b≠R:=fun b o e1 e2=>by
 subst e2;obtain ⟨b',o',e3,hcl⟩:=h hl;rw [e1] at e3
 injection e3 with e3
 injection e3 with e4 e5 _
 subst e4 e5;have h1:=hcl 0 hl;rw [bQ w b _ _ _ _ hb] at h1;exact hc _ _ h1
theorem Lms.setR {w:World} {A:Option Addr} {l:List Nat} (h:Lms w A l) {R:Nat} {cs:Array Value} {T:TypeId} (hb:Bx w R cs T) (hc:∀ (i:Nat) (n:Int),cs[i]?≠some (Value.int .i64 n)) (i:Nat) (u:Value):Lms (w.setCell ⟨R,i,none⟩ u) A l:=fun hl =>
 lms_set h (lms_ne h hl hb hc) u hl
theorem zNum_no:∀ (i:Nat) (n:Int),zCR[i]?≠some (Value.int .i64 n):=fun i n h=>by
 match i,h with
 | 0,h=>simp [zCR] at h
 | 1,h=>simp [zCR] at h
 | 2,h=>simp [zCR] at h
 | i+3,h=>simp [zCR] at h
theorem Bx.set0 {w:World} {R:Nat} {a b c:Value} {T:TypeId} (h:Bx w R #[a,b,c] T) (u:Value):Bx (w.setCell ⟨R,0,none⟩ u) R #[u,b,c] T:=dU w R 0 _ _ u h
theorem Bx.set1 {w:World} {R:Nat} {a b c:Value} {T:TypeId} (h:Bx w R #[a,b,c] T) (u:Value):Bx (w.setCell ⟨R,1,none⟩ u) R #[a,u,c] T:=dU w R 1 _ _ u h
theorem no3 {a b c:Value} (ha:∀ n,a≠.int .i64 n) (hb:∀ n,b≠.int .i64 n) (hc:∀ n,c≠.int .i64 n):∀ (i:Nat) (n:Int),(#[a,b,c]:Array Value)[i]?≠some (Value.int .i64 n):=fun i n h=>by
 match i,h with
 | 0,h=>simp at h;exact ha n h
 | 1,h=>simp at h;exact hb n h
 | 2,h=>simp at h;exact hc n h
 | i+3,h=>simp at h
theorem Lt.setR {w:World} {A:Option Addr} {c n R:Nat} {T:TypeId} (h:Lt w A c n) (hb:Bx w R zCR T) (ng:Bool) (A1:Option Addr) (n1 c1:Nat) (v:Value):Lt (((w.setCell ⟨R,0,none⟩ (.bool ng)).setCell ⟨R,1,none⟩ (.slice A1 n1 c1)).setCell ⟨R,2,none⟩ v) A c n:=by
 refine ⟨?_,h.cap⟩
 have k0:=h.rd.setR hb zNum_no 0 (.bool ng);have b1:=Bx.set0 hb (.bool ng);have k1:=k0.setR b1 (no3 zd zd zd) 1 (.slice A1 n1 c1);have b2:=Bx.set1 b1 (.slice A1 n1 c1);exact k1.setR b2 (no3 zd zd zd) 2 v
theorem zCd {w0 w:World} {R:Nat} (h:Below w0.heap.size w0 w) (hR:w0.heap.size≤R) (a b c:Value):Below w0.heap.size w0 (((w.setCell ⟨R,0,none⟩ a).setCell ⟨R,1,none⟩ b).setCell ⟨R,2,none⟩ c) :=
 ((h.setCell (p:=⟨R,0,none⟩) hR a).setCell (p:=⟨R,1,none⟩) hR b).setCell (p:=⟨R,2,none⟩) hR c
theorem words_oneT:zAe BT 1=[1]:=qx
theorem zDb (w:World):Lt (w.alloc (.cells #[.int .i64 1] 3)) (some ⟨w.heap.size,0,none⟩) 1 1 :=
 ⟨by rw [words_oneT];exact lms_one w 1,by rw [words_oneT];exact aB _⟩
theorem cmp1_c (A:Option Addr) (c a:Nat) (w:World) (h:Lms w A (zAe BT a)) (hn:(zAe BT a).length≤1000000000) :
  Calls Tryz.prog 157 #[lmV A c a,.slice (some ⟨w.heap.size,0,none⟩) 1 1] (w.alloc (.cells #[.int .i64 1] 3)) (zBx (.int .i64 (zDD a 1)) (w.alloc (.cells #[.int .i64 1] 3))) :=
 cmpL_c A (some ⟨w.heap.size,0,none⟩) c 1 a 1 _ (Rd1.alloc h _) (zDb w).rd hn
theorem pos_lenT {n:Nat} (h:0<n):0<(zAe BT n).length:=by
 refine Nat.pos_of_ne_zero fun e=>?_
 have:=(zDz zBm (n:=n)).1 (cZ e);omega
theorem lowP_zeroT (d:Nat) (h:0<d):zDj 0 d=(0,1):=by unfold zDj;rw [Nat.gcd_zero_left,Nat.div_self h,Nat.zero_div]
theorem lowest_c (ng:Bool) (A A2:Option Addr) (c c2 n d:Nat) (w:World) (h:Lt w A c n) (h2:Lt w A2 c2 d) (hd0:0<d) (hn:(zAe BT n).length≤200000000) (hm:(zAe BT d).length≤200000000) :
  Calls Tryz.prog 161 #[.bool ng,lmV A c n,lmV A2 c2 d] w (zDh (ng&&decide (n≠0)) (zDj n d).1 (zDj n d).2 w):=by
 have HB0:Hid (Below w.heap.size w (w.alloc (.cells zCR 163))):=(bS w.heap.size w).alloc (aB _) _;have HZ0:Hid (Bx (w.alloc (.cells zCR 163)) w.heap.size zCR 163):=Bx.new _ _ _;have HA0:=zq (h.below HB0.o);have HD0:=zq (h2.below HB0.o)
 rcases bH n with h0 | h0
 ·subst h0
  have e1:(ng&&decide (0≠0))=false:=zd;rw [lowP_zeroT d hd0,e1];unfold lmV;have hz:(zAe BT 0).length=0:=rfl;have hz1:(zAe BT 1).length=1:=by rw [words_oneT];rfl
  rw [hz]
  go_enter Tryz.func161,Tryz.ntmps161
  go_wp2;refine dD (v:=nuV false none 0 0 (some ⟨w.heap.size+1,0,none⟩) 1 1) (by simp [results,Tryz.results161,go_sem,hz,hz1]) rfl ⟨none,0,_,1,rfl,⟨Rd1.nil,aX _⟩,?_,((bS w.heap.size w).alloc (aB _) _).alloc zd _⟩
  have:=zDb (w.alloc (.cells #[.bool false,.slice none 0 0,.slice (some ⟨w.heap.size+1,0,none⟩) 1 1] 163))
  simpa using this
 ·have hl:=pos_lenT h0
  have hlb:(((zAe BT n).length:Int) == 0)=false:=by simp;intro e;rw [e] at hl;simp at hl
  have e1:(ng&&decide (n≠0))=ng:=zg;rw [e1];have hg0:0<Nat.gcd n d:=dE n hd0;have hgl:(zAe BT (Nat.gcd n d)).length≤200000000:=cV (zAL zBm (Nat.gcd_le_right n hd0)) hm;have HLP:Hid (zDj n d=(n / Nat.gcd n d,d / Nat.gcd n d)):=rfl;rw [HLP.o];have HC:=zq (commonL_c A A2 c c2 n d _ HA0.o HD0.o hn hm);obtain ⟨G,hG⟩:∃ G,Nat.gcd n d=G:=⟨_,rfl⟩;rw [hG] at hg0 hgl HC ⊢;clear hG HLP e1;obtain ⟨W,hW⟩:∃ W,W=w.alloc (.cells zCR 163):=⟨_,rfl⟩;rw [←hW] at HC HA0 HD0 HZ0 HB0;unfold lmV at HC ⊢
  go_enter Tryz.func161,Tryz.ntmps161
  go_wp2_with fail
  rw [←hW];clear hW;with_reducible refine HC.o.mono ?_
  rintro e w1 ⟨A5,c5,rfl,h5,hb5⟩;have HB1:=zq (zAb HB0.o hb5);have HZ1:=zq (HZ0.o.below hb5);have HA1:=zq (HA0.o.below hb5);have HD1:=zq (HD0.o.below hb5);have H5:=zq h5;clear hb5 h5 HC HA0 HD0 HZ0 HB0 hlb
  go_wp2_with fail
  with_reducible refine (cmp1_c A5 c5 G w1 H5.o.rd za).mono ?_
  rintro e w2 ⟨rfl,nd,rfl⟩;have hba:Below w1.heap.size w1 ((w1.alloc (.cells #[.int .i64 1] 3)).drewN nd):=zAc ((bS w1.heap.size w1).alloc (aB _) _) nd;have HB2:=zq (zAb HB1.o hba);have HZ2:=zq (HZ1.o.below hba);have HA2:=zq (HA1.o.below hba);have HD2:=zq (HD1.o.below hba);have H52:=zq (H5.o.below hba);clear hba HB1 HZ1 HA1 HD1 H5;obtain ⟨w2,hw2⟩:∃ w2,w2=(w1.alloc (.cells #[.int .i64 1] 3)).drewN nd:=⟨_,rfl⟩;rw [←hw2] at HB2 HZ2 HA2 HD2 H52 ⊢;clear hw2
  by_cases h1:G=1
  ·have hcb:(zDD G 1 == 0)=true:=by rw [h1];rfl
   have HG1:=zq h1;obtain ⟨z0,z1,z2⟩:=HZ2.o.t;have f0:=HZ2.o.frozen;have hsz:=HZ2.o.lt;clear h1;go_wp2;rw [HG1.o,Nat.div_one,Nat.div_one];refine dD (v:=nuV ng A c n A2 c2 d) (by simp [results,Tryz.results161,go_sem,z0,z1,z2]) rfl ⟨A,c,A2,c2,rfl,HA2.o.setR HZ2.o _ _ _ _ _,HD2.o.setR HZ2.o _ _ _ _ _,zCd HB2.o (aB _) _ _ _⟩
  ·have hcb:(zDD G 1 == 0)=false:=by rw [zBT za];rfl
   clear h1
   go_wp2_with fail
   with_reducible refine (divL_c A A5 c c5 n G w2 HA2.o.rd H52.o.rd hn hgl hg0).mono ?_
   rintro e w3 ⟨A6,c6,A7,c7,rfl,h6,_,hb3⟩;have HB3:=zq (zAb HB2.o hb3);have HZ3:=zq (HZ2.o.below hb3);have HD3:=zq (HD2.o.below hb3);have H53:=zq (H52.o.below hb3);have H6:=zq h6;clear hb3 h6 HB2 HZ2 HD2 H52 HA2 hcb
   go_wp2_with fail
   with_reducible refine (divL_c A2 A5 c2 c5 d G w3 HD3.o.rd H53.o.rd hm hgl hg0).mono ?_
   rintro e w4 ⟨A8,c8,A9,c9,rfl,h8,_,hb4⟩;have HB4:=zq (zAb HB3.o hb4);have HZ4:=zq (HZ3.o.below hb4);have H64:=zq (H6.o.below hb4);have H8:=zq h8;clear hb4 h8 HB3 HZ3 HD3 H53 H6;obtain ⟨z0,z1,z2⟩:=HZ4.o.t;have f0:=HZ4.o.frozen;have hsz:=HZ4.o.lt;go_wp2;refine dD (v:=nuV ng A6 c6 (n / G) A8 c8 (d / G)) (by simp [results,Tryz.results161,go_sem,z0,z1,z2]) rfl ⟨A6,c6,A8,c8,rfl,H64.o.setR HZ4.o _ _ _ _ _,H8.o.setR HZ4.o _ _ _ _ _,zCd HB4.o (aB _) _ _ _⟩
theorem smallF_0 (w:World):Calls Tryz.prog 169 #[.int .i64 0] w (zAr (.string ⟨#[48]⟩) w):=by
 go_enter Tryz.func169,Tryz.ntmps169
 go_wp2;go_ret
 exact zAr.mk zo rfl
theorem fmtI_0 (w:World):Calls Tryz.prog 191 #[.int .u64 0,.int .i64 10] w (zAr (.string ⟨#[48]⟩) w):=by
 go_enter Tryz.func191,Tryz.ntmps191
 go_wp2_with fail
 with_reducible refine (smallF_0 w).mono ?_
 rintro e w1 ⟨rfl,rfl⟩;go_wp2;go_ret
 exact zAr.mk rfl rfl
theorem fmt_0 (w:World):Calls Tryz.prog 162 #[.int .u64 0,.int .i64 10] w (zAr (.string ⟨#[48]⟩) w):=by
 go_enter Tryz.func162,Tryz.ntmps162
 go_wp2_with fail
 with_reducible refine (fmtI_0 w).mono ?_
 rintro e w1 ⟨rfl,rfl⟩;go_wp2;go_ret
 exact zAr.mk rfl rfl
theorem Int_0 (w:World):Calls Tryz.prog 121 #[.int .i64 0] w (zDh false 0 1 w):=by
 have HB0:Hid (Below w.heap.size w (w.alloc (.cells zCR 163))):=(bS w.heap.size w).alloc (aB _) _;have HZ0:Hid (Bx (w.alloc (.cells zCR 163)) w.heap.size zCR 163):=Bx.new _ _ _
 go_enter Tryz.func121,Tryz.ntmps121
 go_wp2_with fail
 with_reducible refine (fmt_0 _).mono ?_
 rintro e w1 ⟨rfl,rfl⟩;have HL:=zq (zCT ⟨#[48]⟩ (w.alloc (.cells zCR 163)) zc zc);have hd:zBQ (⟨#[48]⟩:BA).data.toList=0:=zc;rw [hd] at HL;clear hd
 go_wp2_with fail
 with_reducible refine HL.o.mono ?_
 rintro e w1 ⟨A1,c1,rfl,h1,hb1⟩;have hba:Below w1.heap.size w1 (w1.alloc (.cells #[.int .i64 1] 3)):=(bS w1.heap.size w1).alloc (aB _) _;have HB1:=zq (zAb (zAb HB0.o hb1) hba);have HZ1:=zq ((HZ0.o.below hb1).below hba)
 have HW:Hid (Calls Tryz.prog 161 #[.bool false,lmV A1 c1 0,.slice (some ⟨w1.heap.size,0,none⟩) 1 1] (w1.alloc (.cells #[.int .i64 1] 3)) (zDh false 0 1 (w1.alloc (.cells #[.int .i64 1] 3)))) :=
  lowest_c false A1 (some ⟨w1.heap.size,0,none⟩) c1 1 0 1 _ (h1.below hba) (zDb w1) za qx qx
 clear hb1 h1 hba HB0 HZ0 HL
 go_wp2_with fail
 with_reducible refine HW.o.mono ?_
 rintro e w2 ⟨A2,c2,A3,c3,rfl,h2,h3,hb2⟩;have HB2:=zq (zAb HB1.o hb2);have HZ2:=zq (HZ1.o.below hb2);have H2:=zq h2;have H3:=zq h3;clear hb2 h2 h3 HB1 HZ1 HW;obtain ⟨z0,z1,z2⟩:=HZ2.o.t;have f0:=HZ2.o.frozen;have hsz:=HZ2.o.lt;go_wp2;refine dD (v:=nuV false A2 c2 0 A3 c3 1) (by simp [results,Tryz.results121,go_sem,z0,z1,z2]) rfl ⟨A2,c2,A3,c3,rfl,H2.o.setR HZ2.o _ _ _ _ _,H3.o.setR HZ2.o _ _ _ _ _,zCd HB2.o (aB _) _ _ _⟩
theorem smallF_1 (w:World):Calls Tryz.prog 169 #[.int .i64 1] w (zAr (.string ⟨#[49]⟩) w):=by
 go_enter Tryz.func169,Tryz.ntmps169
 go_wp2;go_ret
 exact zAr.mk zo rfl
theorem fmtI_1 (w:World):Calls Tryz.prog 191 #[.int .u64 1,.int .i64 10] w (zAr (.string ⟨#[49]⟩) w):=by
 go_enter Tryz.func191,Tryz.ntmps191
 go_wp2_with fail
 with_reducible refine (smallF_1 w).mono ?_
 rintro e w1 ⟨rfl,rfl⟩;go_wp2;go_ret
 exact zAr.mk rfl rfl
theorem fmt_1 (w:World):Calls Tryz.prog 162 #[.int .u64 1,.int .i64 10] w (zAr (.string ⟨#[49]⟩) w):=by
 go_enter Tryz.func162,Tryz.ntmps162
 go_wp2_with fail
 with_reducible refine (fmtI_1 w).mono ?_
 rintro e w1 ⟨rfl,rfl⟩;go_wp2;go_ret
 exact zAr.mk rfl rfl
theorem Int_1 (w:World):Calls Tryz.prog 121 #[.int .i64 1] w (zDh false 1 1 w):=by
 have HB0:Hid (Below w.heap.size w (w.alloc (.cells zCR 163))):=(bS w.heap.size w).alloc (aB _) _;have HZ0:Hid (Bx (w.alloc (.cells zCR 163)) w.heap.size zCR 163):=Bx.new _ _ _
 go_enter Tryz.func121,Tryz.ntmps121
 go_wp2_with fail
 with_reducible refine (fmt_1 _).mono ?_
 rintro e w1 ⟨rfl,rfl⟩;have HL:=zq (zCT ⟨#[49]⟩ (w.alloc (.cells zCR 163)) zc zc);have hd:zBQ (⟨#[49]⟩:BA).data.toList=1:=zc;rw [hd] at HL;clear hd
 go_wp2_with fail
 with_reducible refine HL.o.mono ?_
 rintro e w1 ⟨A1,c1,rfl,h1,hb1⟩;have hba:Below w1.heap.size w1 (w1.alloc (.cells #[.int .i64 1] 3)):=(bS w1.heap.size w1).alloc (aB _) _;have HB1:=zq (zAb (zAb HB0.o hb1) hba);have HZ1:=zq ((HZ0.o.below hb1).below hba)
 have HW:Hid (Calls Tryz.prog 161 #[.bool false,lmV A1 c1 1,.slice (some ⟨w1.heap.size,0,none⟩) 1 1] (w1.alloc (.cells #[.int .i64 1] 3)) (zDh false 1 1 (w1.alloc (.cells #[.int .i64 1] 3)))) :=
  lowest_c false A1 (some ⟨w1.heap.size,0,none⟩) c1 1 1 1 _ (h1.below hba) (zDb w1) za qx qx
 clear hb1 h1 hba HB0 HZ0 HL
 go_wp2_with fail
 with_reducible refine HW.o.mono ?_
 rintro e w2 ⟨A2,c2,A3,c3,rfl,h2,h3,hb2⟩;have HB2:=zq (zAb HB1.o hb2);have HZ2:=zq (HZ1.o.below hb2);have H2:=zq h2;have H3:=zq h3;clear hb2 h2 h3 HB1 HZ1 HW;obtain ⟨z0,z1,z2⟩:=HZ2.o.t;have f0:=HZ2.o.frozen;have hsz:=HZ2.o.lt;go_wp2;refine dD (v:=nuV false A2 c2 1 A3 c3 1) (by simp [results,Tryz.results121,go_sem,z0,z1,z2]) rfl ⟨A2,c2,A3,c3,rfl,H2.o.setR HZ2.o _ _ _ _ _,H3.o.setR HZ2.o _ _ _ _ _,zCd HB2.o (aB _) _ _ _⟩
theorem isZero_c (ng:Bool) (A A2:Option Addr) (c c2 n d:Nat) (w:World):Calls Tryz.prog 119 #[nuV ng A c n A2 c2 d] w (zAd (.bool (decide (n=0))) w):=by
 have hb:(((zAe BT n).length:Int) == 0)=decide (n=0):=by
  rcases bH n with h0 | h0
  ·subst h0;rfl
  ·have:=pos_lenT h0
   have h1:decide (n=0)=false:=zg;rw [h1];simp;intro e;rw [e] at this;simp at this
 have HB0:Hid (Below w.heap.size w (w.alloc (.cells (nuC ng A c n A2 c2 d) 163))):=(bS w.heap.size w).alloc (aB _) _
 go_enter Tryz.func119,Tryz.ntmps119
 go_wp2;go_ret
 exact zAd.mk rfl HB0.o
def GivesMi (ng:Bool) (A:Option Addr) (c n:Nat) (A2:Option Addr) (c2 d:Nat) (w:World) (e:Ending) (w':World):Prop:=e = .returned (nuV (!ng&&decide (n≠0)) A c n A2 c2 d)∧Below w.heap.size w w'
theorem minus_c (ng:Bool) (A A2:Option Addr) (c c2 n d:Nat) (w:World):Calls Tryz.prog 160 #[nuV ng A c n A2 c2 d] w (GivesMi ng A c n A2 c2 d w):=by
 have HB0:Hid (Below w.heap.size w ((w.alloc (.cells (nuC ng A c n A2 c2 d) 163)).alloc (.cells #[.bool (!ng&&decide (n≠0)),.slice A (zAe BT n).length c,.slice A2 (zAe BT d).length c2] 163))):=((bS w.heap.size w).alloc (aB _) _).alloc zd _
 cases ng with
 | true =>
  go_enter Tryz.func160,Tryz.ntmps160
  go_wp2;refine dD (v:=nuV false A c n A2 c2 d) (by simp [results,Tryz.results160,go_sem]) rfl ⟨rfl,?_⟩
  exact HB0.o
 | false =>
  rcases bH n with h0 | h0
  ·subst h0
   have hz:(zAe BT 0).length=0:=rfl;unfold nuV nuC;rw [hz]
   go_enter Tryz.func160,Tryz.ntmps160
   go_wp2;refine dD (v:=nuV false A c 0 A2 c2 d) (by simp [results,Tryz.results160,go_sem,hz]) rfl ⟨rfl,?_⟩
   exact HB0.o
  ·have hl:=pos_lenT h0
   have hn:decide (n≠0)=true:=zg;rw [hn] at HB0
   go_enter Tryz.func160,Tryz.ntmps160
   go_wp2;refine dD (v:=nuV true A c n A2 c2 d) (by simp [results,Tryz.results160,go_sem]) rfl ⟨j6,?_⟩
   exact HB0.o
theorem len_mulT (a b:Nat):(zAe BT (a*b)).length≤(zAe BT a).length+(zAe BT b).length:=by
 refine zBn zBm ?_
 rw [Nat.pow_add];have h1:=zBM zBm a;have h2:=zBM zBm b;exact aW (bC a (bG h2)) (cW h1 (Nat.pow_pos BT_pos))
theorem len_addT (a b:Nat):(zAe BT (a+b)).length≤max (zAe BT a).length (zAe BT b).length+1:=by
 refine zBn zBm ?_
 have h1:=zBM zBm a;have h2:=zBM zBm b;have h3:BT ^ (zAe BT a).length≤BT ^ max (zAe BT a).length (zAe BT b).length:=bN BT_pos (Nat.le_max_left _ _);have h4:BT ^ (zAe BT b).length≤BT ^ max (zAe BT a).length (zAe BT b).length:=bN BT_pos (Nat.le_max_right _ _);rw [aR];have h5:=bC (BT ^ max (zAe BT a).length (zAe BT b).length) (show 2≤BT by decide)
 omega
def plusN (ng:Bool) (n d:Nat) (ng2:Bool) (m e:Nat):Bool×Nat×Nat :=
 if ng=ng2 then (ng&&decide (n*e+m*d≠0),zDj (n*e+m*d) (d*e))
 else if m*d≤n*e then (ng&&decide (n*e - m*d≠0),zDj (n*e - m*d) (d*e))
 else (ng2&&decide (m*d - n*e≠0),zDj (m*d - n*e) (d*e))
theorem cmpN_ge {a b:Nat} (h:b≤a):decide (0≤zDD a b)=true:=by
 rcases bO b a with h1 | h1
 ·rw [zBT h1];rfl
 ·rw [zDa za];rfl
theorem cmpN_nge {a b:Nat} (h:¬ b≤a):decide (0≤zDD a b)=false:=by rw [zBU za];rfl
theorem plus_c (ng ng2:Bool) (A A2 A3 A4:Option Addr) (c c2 c3 c4 n d m e:Nat) (w:World) (h:Lt w A c n) (h2:Lt w A2 c2 d) (h3:Lt w A3 c3 m) (h4:Lt w A4 c4 e)
  (hn:(zAe BT n).length≤50000000) (hd:(zAe BT d).length≤50000000) (hm:(zAe BT m).length≤50000000) (he:(zAe BT e).length≤50000000) (hd0:0<d) (he0:0<e) :
  Calls Tryz.prog 124 #[nuV ng A c n A2 c2 d,nuV ng2 A3 c3 m A4 c4 e] w (zDh (plusN ng n d ng2 m e).1 (plusN ng n d ng2 m e).2.1 (plusN ng n d ng2 m e).2.2 w):=by
 have HM1:=zq (fun W (x:Lt W A c n) (y:Lt W A4 c4 e)=>timesL_c A A4 c c4 n e W x.rd y.rd za za)
 have HM2:=zq (fun W (x:Lt W A3 c3 m) (y:Lt W A2 c2 d)=>timesL_c A3 A2 c3 c2 m d W x.rd y.rd za za)
 have HM3:=zq (fun W (x:Lt W A2 c2 d) (y:Lt W A4 c4 e)=>timesL_c A2 A4 c2 c4 d e W x.rd y.rd za za)
 have hl1:(zAe BT (n*e)).length≤100000000:=cV (len_mulT n e) za;have hl2:(zAe BT (m*d)).length≤100000000:=cV (len_mulT m d) za;have hl3:(zAe BT (d*e)).length≤100000000:=cV (len_mulT d e) za;have hr0:0<d*e:=Nat.mul_pos hd0 he0;have HP:Hid (plusN ng n d ng2 m e=if ng=ng2 then (ng&&decide (n*e+m*d≠0),zDj (n*e+m*d) (d*e)) else if m*d≤n*e then (ng&&decide (n*e - m*d≠0),zDj (n*e - m*d) (d*e)) else (ng2&&decide (m*d - n*e≠0),zDj (m*d - n*e) (d*e))):=rfl
 obtain ⟨res,hres⟩:∃ res,res=plusN ng n d ng2 m e:=⟨_,rfl⟩;rw [←hres] at HP ⊢;clear hres;obtain ⟨p,hp⟩:∃ p,n*e=p:=⟨_,rfl⟩;obtain ⟨q,hq⟩:∃ q,m*d=q:=⟨_,rfl⟩;obtain ⟨r,hr⟩:∃ r,d*e=r:=⟨_,rfl⟩;rw [hp] at HM1 hl1 HP;rw [hq] at HM2 hl2 HP;rw [hr] at HM3 hl3 hr0 HP;clear hp hq hr hn hd hm he hd0 he0;have HX0:Hid (Bx (((w.alloc (.cells (nuC ng A c n A2 c2 d) 163)).alloc (.cells (nuC ng2 A3 c3 m A4 c4 e) 163)).alloc (.cells zCR 163)) w.heap.size (nuC ng A c n A2 c2 d) 163):=((Bx.new _ _ _).alloc _).alloc _;have HY0:Hid (Bx (((w.alloc (.cells (nuC ng A c n A2 c2 d) 163)).alloc (.cells (nuC ng2 A3 c3 m A4 c4 e) 163)).alloc (.cells zCR 163)) (w.heap.size+1) (nuC ng2 A3 c3 m A4 c4 e) 163):=(Bx.new1 _ _ _ _).alloc _;have HZ0:Hid (Bx (((w.alloc (.cells (nuC ng A c n A2 c2 d) 163)).alloc (.cells (nuC ng2 A3 c3 m A4 c4 e) 163)).alloc (.cells zCR 163)) (w.heap.size+1+1) zCR 163):=Bx.new2 _ _ _ _ _;have HB0:Hid (Below w.heap.size w (((w.alloc (.cells (nuC ng A c n A2 c2 d) 163)).alloc (.cells (nuC ng2 A3 c3 m A4 c4 e) 163)).alloc (.cells zCR 163))):=(((bS w.heap.size w).alloc (aB _) _).alloc zd _).alloc zg _;obtain ⟨W,hW⟩:∃ W,W=(((w.alloc (.cells (nuC ng A c n A2 c2 d) 163)).alloc (.cells (nuC ng2 A3 c3 m A4 c4 e) 163)).alloc (.cells zCR 163)):=⟨_,rfl⟩;rw [←hW] at HX0 HY0 HZ0 HB0;have g1:=zq (h.below HB0.o);have g2:=zq (h2.below HB0.o);have g3:=zq (h3.below HB0.o);have g4:=zq (h4.below HB0.o);clear h h2 h3 h4
 go_enter Tryz.func124,Tryz.ntmps124
 go_upto_region 1 with fail
 rw [←hW];clear hW;obtain ⟨a0,a1,a2⟩:=HX0.o.t;obtain ⟨b0,b1,b2⟩:=HY0.o.t
 go_region_held3 (fun w'=>(w'.cell? ⟨w.heap.size,0,none⟩=some (.bool ng)∧w'.cell? ⟨w.heap.size,1,none⟩=some (.slice A (zAe BT n).length c)∧w'.cell? ⟨w.heap.size,2,none⟩=some (.slice A2 (zAe BT d).length c2))∧(w'.cell? ⟨w.heap.size+1,0,none⟩=some (.bool ng2)∧w'.cell? ⟨w.heap.size+1,1,none⟩=some (.slice A3 (zAe BT m).length c3)∧w'.cell? ⟨w.heap.size+1,2,none⟩=some (.slice A4 (zAe BT e).length c4)))
  ((refine ⟨⟨?_,?_,?_⟩,?_,?_,?_⟩<;>first | with_reducible assumption | go_simp))
  (first
   | ((go_at_call 165;(with_reducible refine (HM1.o W.drew (g1.out.drew) (g4.out.drew)).mono ?_);rintro x w1 ⟨A5,c5,rfl,h5,hb⟩;have HB1:=zq ((zAc HB0.o 1).trans (hb.mono HB0.o.size));have HX1:=zq ((HX0.o.drew).below hb);have HY1:=zq ((HY0.o.drew).below hb);have HZ1:=zq ((HZ0.o.drew).below hb);have g21:=zq ((g2.out.drew).below hb);have g31:=zq ((g3.out.drew).below hb);have g41:=zq ((g4.out.drew).below hb);have H5:=zq h5;clear h5 hb;clear a0 a1 a2 b0 b1 b2;obtain ⟨a0,a1,a2⟩:=HX1.o.t;obtain ⟨b0,b1,b2⟩:=HY1.o.t))
   | ((go_at_call 165;(with_reducible refine (HM2.o w1 g31.out g21.out).mono ?_);rintro x w2 ⟨A6,c6,rfl,h6,hb⟩;have HB2:=zq (zAb HB1.o hb);have HX2:=zq (HX1.o.below hb);have HY2:=zq (HY1.o.below hb);have HZ2:=zq (HZ1.o.below hb);have g22:=zq (g21.out.below hb);have g42:=zq (g41.out.below hb);have H52:=zq (H5.o.below hb);have H6:=zq h6;clear h6 hb;clear a0 a1 a2 b0 b1 b2;obtain ⟨a0,a1,a2⟩:=HX2.o.t;obtain ⟨b0,b1,b2⟩:=HY2.o.t))
   | ((go_at_call 165;(with_reducible refine (HM3.o w2 g22.out g42.out).mono ?_);rintro x w3 ⟨A7,c7,rfl,h7,hb⟩;have HB3:=zq (zAb HB2.o hb);have HX3:=zq (HX2.o.below hb);have HY3:=zq (HY2.o.below hb);have HZ3:=zq (HZ2.o.below hb);have H53:=zq (H52.o.below hb);have H63:=zq (H6.o.below hb);have H7:=zq h7;clear h7 hb;clear a0 a1 a2 b0 b1 b2;obtain ⟨a0,a1,a2⟩:=HX3.o.t;obtain ⟨b0,b1,b2⟩:=HY3.o.t)))
 clear HB0 HB1 HB2 HX0 HX1 HX2 HY0 HY1 HY2 HZ0 HZ1 HZ2 g1 g2 g3 g4 g21 g31 g41 g22 g42 H5 H52 H6 HM1 HM2 HM3
 by_cases hs:ng=ng2
 ·have hsb:(ng == ng2)=true:=by simpa using hs
  have HR:Hid (res=(ng&&decide (p+q≠0),zDj (p+q) r)):=by show _=_;rw [HP.o,aE hs]
  have hre:=HR.o;clear hs HP HR;subst hre;have hla:=len_addT p q;have HA:=zq (fun W (x:Lt W A5 c5 p) (y:Lt W A6 c6 q)=>addL_c A5 A6 c5 c6 p q W x.rd y.rd za za)
  have HW:=zq (fun A8 c8 W (x:Lt W A8 c8 (p+q)) (y:Lt W A7 c7 r)=>lowest_c ng A8 A7 c8 c7 (p+q) r W x y hr0 za za)
  clear hla hl1 hl2 hl3 hr0;generalize p+q=pq at *;go_upto_region 3 with fail
  go_region_held3 (fun w'=>(w'.cell? ⟨w.heap.size,0,none⟩=some (.bool ng)∧w'.cell? ⟨w.heap.size,1,none⟩=some (.slice A (zAe BT n).length c)∧w'.cell? ⟨w.heap.size,2,none⟩=some (.slice A2 (zAe BT d).length c2))∧(w'.cell? ⟨w.heap.size+1,0,none⟩=some (.bool ng2)∧w'.cell? ⟨w.heap.size+1,1,none⟩=some (.slice A3 (zAe BT m).length c3)∧w'.cell? ⟨w.heap.size+1,2,none⟩=some (.slice A4 (zAe BT e).length c4)))
   ((refine ⟨⟨?_,?_,?_⟩,?_,?_,?_⟩<;>first | with_reducible assumption | go_simp))
   (first
    | ((go_at_call 166;(with_reducible refine (HA.o w3.drew (H53.o.drew) (H63.o.drew)).mono ?_);rintro x w5 ⟨A8,c8,rfl,h8,hb⟩;have HB5:=zq ((zAc HB3.o 1).trans (hb.mono HB3.o.size));have HX5:=zq ((HX3.o.drew).below hb);have HY5:=zq ((HY3.o.drew).below hb);have HZ5:=zq ((HZ3.o.drew).below hb);have H75:=zq ((H7.o.drew).below hb);have H8:=zq h8;clear h8 hb;clear a0 a1 a2 b0 b1 b2;obtain ⟨a0,a1,a2⟩:=HX5.o.t;obtain ⟨b0,b1,b2⟩:=HY5.o.t))
    | ((go_at_call 161;(with_reducible refine (HW.o _ _ w5 H8.o H75.o).mono ?_);rintro x w6 ⟨A9,c9,A10,c10,rfl,h9,h10,hb⟩;have HB6:=zq (zAb HB5.o hb);have HX6:=zq (HX5.o.below hb);have HY6:=zq (HY5.o.below hb);have HZ6:=zq (HZ5.o.below hb);have H9:=zq h9;have H10:=zq h10;clear h9 h10 hb;clear a0 a1 a2 b0 b1 b2;obtain ⟨a0,a1,a2⟩:=HX6.o.t;obtain ⟨b0,b1,b2⟩:=HY6.o.t;obtain ⟨r0,r1,r2⟩:=HZ6.o.t;have rf:=HZ6.o.frozen;have rs:=HZ6.o.lt;have rn:¬ (w.heap.size=w.heap.size+1+1):=za;have rm:¬ (w.heap.size+1=w.heap.size+1+1):=za)))
  go_wp2;refine dD (v:=nuV (ng&&decide (pq≠0)) A9 c9 (zDj pq r).1 A10 c10 (zDj pq r).2) (by simp [results,Tryz.results124,go_sem,r0,r1,r2]) rfl ⟨A9,c9,A10,c10,rfl,H9.o.setR HZ6.o _ _ _ _ _,H10.o.setR HZ6.o _ _ _ _ _,zCd HB6.o za _ _ _⟩
 ·have hsb:(ng == ng2)=false:=by simpa using hs
  go_upto_region 4 with fail
  go_wp2_with fail
  with_reducible refine (cmpL_c A5 A6 c5 c6 p q w3 H53.o.rd H63.o.rd za).mono ?_
  rintro x w4 ⟨rfl,nd,rfl⟩;have HX4:=zq (HX3.o.drewN nd);have HY4:=zq (HY3.o.drewN nd);have HZ4:=zq (HZ3.o.drewN nd);have HB4:=zq (zAc HB3.o nd);have H54:=zq (H53.o.drewN nd);have H64:=zq (H63.o.drewN nd);have H74:=zq (H7.o.drewN nd);clear HX3 HY3 HZ3 HB3 H53 H63 H7;clear a0 a1 a2 b0 b1 b2;obtain ⟨w4,hw4⟩:∃ w4,w4=w3.drewN nd:=⟨_,rfl⟩;rw [←hw4] at HX4 HY4 HZ4 HB4 H54 H64 H74 ⊢;clear hw4;obtain ⟨a0,a1,a2⟩:=HX4.o.t;obtain ⟨b0,b1,b2⟩:=HY4.o.t
  by_cases hc:q≤p
  ·have hcb:=cmpN_ge hc
   have HR:Hid (res=(ng&&decide (p - q≠0),zDj (p - q) r)):=by show _=_;rw [HP.o,aC hs,aE hc]
   have hre:=HR.o;have HA:=zq (fun W (x:Lt W A5 c5 p) (y:Lt W A6 c6 q)=>lessL_c A5 A6 c5 c6 p q W x.rd y.rd za hc)
   have hla:=zAL zBm (Nat.sub_le p q);have HW:=zq (fun A8 c8 W (x:Lt W A8 c8 (p - q)) (y:Lt W A7 c7 r)=>lowest_c ng A8 A7 c8 c7 (p - q) r W x y hr0 za za)
   clear hla hl1 hl2 hl3 hr0 hs HP HR hc;subst hre;generalize p - q=pq at *;go_upto_region 5 with fail
   go_region_held3 (fun w'=>(w'.cell? ⟨w.heap.size,0,none⟩=some (.bool ng)∧w'.cell? ⟨w.heap.size,1,none⟩=some (.slice A (zAe BT n).length c)∧w'.cell? ⟨w.heap.size,2,none⟩=some (.slice A2 (zAe BT d).length c2))∧(w'.cell? ⟨w.heap.size+1,0,none⟩=some (.bool ng2)∧w'.cell? ⟨w.heap.size+1,1,none⟩=some (.slice A3 (zAe BT m).length c3)∧w'.cell? ⟨w.heap.size+1,2,none⟩=some (.slice A4 (zAe BT e).length c4)))
    ((refine ⟨⟨?_,?_,?_⟩,?_,?_,?_⟩<;>first | with_reducible assumption | go_simp))
    (first
     | ((go_at_call 167;(with_reducible refine (HA.o w4.drew (H54.o.drew) (H64.o.drew)).mono ?_);rintro x w5 ⟨A8,c8,rfl,h8,hb⟩;have HB5:=zq ((zAc HB4.o 1).trans (hb.mono HB4.o.size));have HX5:=zq ((HX4.o.drew).below hb);have HY5:=zq ((HY4.o.drew).below hb);have HZ5:=zq ((HZ4.o.drew).below hb);have H75:=zq ((H74.o.drew).below hb);have H8:=zq h8;clear h8 hb;clear a0 a1 a2 b0 b1 b2;obtain ⟨a0,a1,a2⟩:=HX5.o.t;obtain ⟨b0,b1,b2⟩:=HY5.o.t))
     | ((go_at_call 161;(with_reducible refine (HW.o _ _ w5 H8.o H75.o).mono ?_);rintro x w6 ⟨A9,c9,A10,c10,rfl,h9,h10,hb⟩;have HB6:=zq (zAb HB5.o hb);have HX6:=zq (HX5.o.below hb);have HY6:=zq (HY5.o.below hb);have HZ6:=zq (HZ5.o.below hb);have H9:=zq h9;have H10:=zq h10;clear h9 h10 hb;clear a0 a1 a2 b0 b1 b2;obtain ⟨a0,a1,a2⟩:=HX6.o.t;obtain ⟨b0,b1,b2⟩:=HY6.o.t;obtain ⟨r0,r1,r2⟩:=HZ6.o.t;have rf:=HZ6.o.frozen;have rs:=HZ6.o.lt;have rn:¬ (w.heap.size=w.heap.size+1+1):=za;have rm:¬ (w.heap.size+1=w.heap.size+1+1):=za)))
   go_wp2;refine dD (v:=nuV (ng&&decide (pq≠0)) A9 c9 (zDj pq r).1 A10 c10 (zDj pq r).2) (by simp [results,Tryz.results124,go_sem,r0,r1,r2]) rfl ⟨A9,c9,A10,c10,rfl,H9.o.setR HZ6.o _ _ _ _ _,H10.o.setR HZ6.o _ _ _ _ _,zCd HB6.o za _ _ _⟩
  ·have hcb:=cmpN_nge hc
   have HR:Hid (res=(ng2&&decide (q - p≠0),zDj (q - p) r)):=by show _=_;rw [HP.o,aC hs,aC hc]
   have hre:=HR.o;have HA:=zq (fun W (x:Lt W A6 c6 q) (y:Lt W A5 c5 p)=>lessL_c A6 A5 c6 c5 q p W x.rd y.rd za za)
   have hla:=zAL zBm (Nat.sub_le q p);have HW:=zq (fun A8 c8 W (x:Lt W A8 c8 (q - p)) (y:Lt W A7 c7 r)=>lowest_c ng2 A8 A7 c8 c7 (q - p) r W x y hr0 za za)
   clear hla hl1 hl2 hl3 hr0 hs HP HR hc;subst hre;generalize q - p=pq at *;go_upto_region 6 with fail
   go_region_held3 (fun w'=>(w'.cell? ⟨w.heap.size,0,none⟩=some (.bool ng)∧w'.cell? ⟨w.heap.size,1,none⟩=some (.slice A (zAe BT n).length c)∧w'.cell? ⟨w.heap.size,2,none⟩=some (.slice A2 (zAe BT d).length c2))∧(w'.cell? ⟨w.heap.size+1,0,none⟩=some (.bool ng2)∧w'.cell? ⟨w.heap.size+1,1,none⟩=some (.slice A3 (zAe BT m).length c3)∧w'.cell? ⟨w.heap.size+1,2,none⟩=some (.slice A4 (zAe BT e).length c4)))
    ((refine ⟨⟨?_,?_,?_⟩,?_,?_,?_⟩<;>first | with_reducible assumption | go_simp))
    (first
     | ((go_at_call 167;(with_reducible refine (HA.o w4.drew (H64.o.drew) (H54.o.drew)).mono ?_);rintro x w5 ⟨A8,c8,rfl,h8,hb⟩;have HB5:=zq ((zAc HB4.o 1).trans (hb.mono HB4.o.size));have HX5:=zq ((HX4.o.drew).below hb);have HY5:=zq ((HY4.o.drew).below hb);have HZ5:=zq ((HZ4.o.drew).below hb);have H75:=zq ((H74.o.drew).below hb);have H8:=zq h8;clear h8 hb;clear a0 a1 a2 b0 b1 b2;obtain ⟨a0,a1,a2⟩:=HX5.o.t;obtain ⟨b0,b1,b2⟩:=HY5.o.t))
     | ((go_at_call 161;(with_reducible refine (HW.o _ _ w5 H8.o H75.o).mono ?_);rintro x w6 ⟨A9,c9,A10,c10,rfl,h9,h10,hb⟩;have HB6:=zq (zAb HB5.o hb);have HX6:=zq (HX5.o.below hb);have HY6:=zq (HY5.o.below hb);have HZ6:=zq (HZ5.o.below hb);have H9:=zq h9;have H10:=zq h10;clear h9 h10 hb;clear a0 a1 a2 b0 b1 b2;obtain ⟨a0,a1,a2⟩:=HX6.o.t;obtain ⟨b0,b1,b2⟩:=HY6.o.t;obtain ⟨r0,r1,r2⟩:=HZ6.o.t;have rf:=HZ6.o.frozen;have rs:=HZ6.o.lt;have rn:¬ (w.heap.size=w.heap.size+1+1):=za;have rm:¬ (w.heap.size+1=w.heap.size+1+1):=za)))
   go_wp2;refine dD (v:=nuV (ng2&&decide (pq≠0)) A9 c9 (zDj pq r).1 A10 c10 (zDj pq r).2) (by simp [results,Tryz.results124,go_sem,r0,r1,r2]) rfl ⟨A9,c9,A10,c10,rfl,H9.o.setR HZ6.o _ _ _ _ _,H10.o.setR HZ6.o _ _ _ _ _,zCd HB6.o za _ _ _⟩
theorem lowP_pos {n d:Nat} (hn:0<n):0<(zDj n d).1:=Nat.div_pos (Nat.le_of_dvd hn (Nat.gcd_dvd_left n d)) (Nat.gcd_pos_of_pos_left d hn)
theorem lowP_fst {n d:Nat}:(zDj n d).1=0↔n=0:=by
 constructor
 ·intro h
  rcases bH n with h0 | h0
  ·exact h0
  ·have:=lowP_pos (d:=d) h0;omega
 ·rintro rfl;unfold zDj;exact Nat.zero_div _
theorem plusN_cmp (n d m e:Nat):zDD (n*e) (m*d)=if (plusN false n d (!false&&decide (m≠0)) m e).2.1=0 then 0 else if (plusN false n d (!false&&decide (m≠0)) m e).1=true then -1 else 1:=by
 unfold plusN
 by_cases hm:m=0
 ·subst hm
  have e1:(!false&&decide (0≠0))=false:=rfl;rw [e1,aE rfl];simp only [Bool.false_and,Nat.zero_mul,cO,lowP_fst]
  by_cases h0:n*e=0
  ·rw [aE h0,zDa h0]
  ·rw [aC h0,zBT za];rfl
 ·have e1:(!false&&decide (m≠0))=true:=by simp [hm]
  rw [e1];simp only [dL,dG]
  by_cases hc:m*d≤n*e
  ·rw [aE hc]
   simp only [Bool.false_and,lowP_fst]
   by_cases h0:n*e - m*d=0
   ·rw [aE h0,zDa za]
   ·rw [aC h0,zBT za];rfl
  ·rw [aC hc]
   have h0:¬ m*d - n*e=0:=za;simp only [Bool.true_and,lowP_fst];rw [aC h0,aE (by simp [h0]),zBU za]
def CoRel (w:World) (ng:Bool) (n d:Nat) (v:Value) (wx:World):Prop:=∃ g A c A2 c2,v = .pointer (some ⟨g,0,none⟩)∧Bx wx g (nuC ng A c n A2 c2 d) 163∧Below w.heap.size w wx
theorem co_new {w wx:World} {ng:Bool} {A A2:Option Addr} {c c2 n d:Nat} (h:Below w.heap.size w wx):CoRel w ng n d (.pointer (some ⟨wx.heap.size,0,none⟩)) (wx.alloc (.cells (nuC ng A c n A2 c2 d) 163)):=⟨_,A,c,A2,c2,rfl,Bx.new _ _ _,h.alloc h.size _⟩
theorem co_set {w wx:World} {ng:Bool} {A A2:Option Addr} {c c2 n d g:Nat} (h:Below w.heap.size w wx) (hz:Bx wx g zCR 163) (hg:w.heap.size≤g):CoRel w ng n d (.pointer (some ⟨g,0,none⟩)) (((wx.setCell ⟨g,0,none⟩ (.bool ng)).setCell ⟨g,1,none⟩ (.slice A (zAe BT n).length c)).setCell ⟨g,2,none⟩ (.slice A2 (zAe BT d).length c2)):=by
 have k0:=Bx.set0 hz (.bool ng);have k1:=Bx.set1 k0 (.slice A (zAe BT n).length c);exact ⟨g,A,c,A2,c2,rfl,dU _ g 2 _ _ _ k1,zCd h hg _ _ _⟩
theorem compare_cT (A A2 A3 A4:Option Addr) (c c2 c3 c4 n d m e:Nat) (w:World) (h:Lt w A c n) (h2:Lt w A2 c2 d) (h3:Lt w A3 c3 m) (h4:Lt w A4 c4 e)
  (hn:(zAe BT n).length≤50000000) (hd:(zAe BT d).length≤50000000) (hm:(zAe BT m).length≤50000000) (he:(zAe BT e).length≤50000000) (hd0:0<d) (he0:0<e) :
  Calls Tryz.prog 120 #[nuV false A c n A2 c2 d,nuV false A3 c3 m A4 c4 e] w (zAd (.int .i64 (zDD (n*e) (m*d))) w):=by
 rw [plusN_cmp];have HMI:=zq (fun W=>minus_c false A3 A4 c3 c4 m e W)
 unfold GivesMi at HMI;obtain ⟨mg,hmg⟩:∃ mg,mg=(!false&&decide (m≠0)):=⟨_,rfl⟩;rw [←hmg] at HMI ⊢;clear hmg;have HX0:Hid (Bx ((w.alloc (.cells (nuC false A c n A2 c2 d) 163)).alloc (.cells (nuC false A3 c3 m A4 c4 e) 163)) w.heap.size (nuC false A c n A2 c2 d) 163):=(Bx.new _ _ _).alloc _;have HY0:Hid (Bx ((w.alloc (.cells (nuC false A c n A2 c2 d) 163)).alloc (.cells (nuC false A3 c3 m A4 c4 e) 163)) (w.heap.size+1) (nuC false A3 c3 m A4 c4 e) 163):=Bx.new1 _ _ _ _;have HB0:Hid (Below w.heap.size w ((w.alloc (.cells (nuC false A c n A2 c2 d) 163)).alloc (.cells (nuC false A3 c3 m A4 c4 e) 163))):=((bS w.heap.size w).alloc (aB _) _).alloc zd _;obtain ⟨W,hW⟩:∃ W,W=((w.alloc (.cells (nuC false A c n A2 c2 d) 163)).alloc (.cells (nuC false A3 c3 m A4 c4 e) 163)):=⟨_,rfl⟩;rw [←hW] at HX0 HY0 HB0;have g1:=zq (h.below HB0.o);have g2:=zq (h2.below HB0.o);have g3:=zq (h3.below HB0.o);have g4:=zq (h4.below HB0.o);clear h h2 h3 h4
 go_enter Tryz.func120,Tryz.ntmps120
 go_upto_region 1 with fail
 rw [←hW];clear hW
 go_cut [5] (fun v wx=>CoRel w (plusN false n d mg m e).1 (plusN false n d mg m e).2.1 (plusN false n d mg m e).2.2 v wx)
 case first =>
  obtain ⟨a0,a1,a2⟩:=HX0.o.t;obtain ⟨b0,b1,b2⟩:=HY0.o.t;have sx:=HX0.o.lt;have sy:=HY0.o.lt
  go_region_held3 (fun w'=>(w'.cell? ⟨w.heap.size,0,none⟩=some (.bool false)∧w'.cell? ⟨w.heap.size,1,none⟩=some (.slice A (zAe BT n).length c)∧w'.cell? ⟨w.heap.size,2,none⟩=some (.slice A2 (zAe BT d).length c2))∧(w'.cell? ⟨w.heap.size+1,0,none⟩=some (.bool false)∧w'.cell? ⟨w.heap.size+1,1,none⟩=some (.slice A3 (zAe BT m).length c3)∧w'.cell? ⟨w.heap.size+1,2,none⟩=some (.slice A4 (zAe BT e).length c4)))
   ((refine ⟨⟨?_,?_,?_⟩,?_,?_,?_⟩<;>first | with_reducible assumption | go_simp))
   (first
    | ((go_at_call 160;(with_reducible refine (HMI.o (W.alloc (.cells zCR 163)).drew).mono ?_);rintro x w1 ⟨rfl,hb⟩;have HX1:=zq (((HX0.o.alloc (.cells zCR 163)).drew).below hb);have HY1:=zq (((HY0.o.alloc (.cells zCR 163)).drew).below hb);have HB1:=zq ((zAc (HB0.o.alloc HB0.o.size (.cells zCR 163)) 1).trans (hb.mono (zAc (HB0.o.alloc HB0.o.size (.cells zCR 163)) 1).size));have k1:=zq (((g1.out.below ((bS _ _).alloc (aB _) (.cells zCR 163))).drew).below hb);have k2:=zq (((g2.out.below ((bS _ _).alloc (aB _) (.cells zCR 163))).drew).below hb);have k3:=zq (((g3.out.below ((bS _ _).alloc (aB _) (.cells zCR 163))).drew).below hb);have k4:=zq (((g4.out.below ((bS _ _).alloc (aB _) (.cells zCR 163))).drew).below hb);have HZ1:=zq ((Bx.new W zCR 163).drew.below hb);have hzg:w.heap.size≤W.heap.size:=HB0.o.size;have sy0:=HY0.o.lt;have q1:¬ (w.heap.size=W.heap.size):=za;have q2:¬ (w.heap.size+1=W.heap.size):=za;have q3:¬ (W.heap.size=w.heap.size):=za;have q4:¬ (W.heap.size=w.heap.size+1):=za;obtain ⟨z0,z1,z2⟩:=HZ1.o.t;have zf:=HZ1.o.frozen;have zs:=HZ1.o.lt;clear hb;clear a0 a1 a2 b0 b1 b2 sx sy;obtain ⟨a0,a1,a2⟩:=HX1.o.t;obtain ⟨b0,b1,b2⟩:=HY1.o.t;have sx:=HX1.o.lt;have sy:=HY1.o.lt))
    | ((go_at_call 160;(with_reducible refine (HMI.o W.drew).mono ?_);rintro x w1 ⟨rfl,hb⟩;have HX1:=zq ((HX0.o.drew).below hb);have HY1:=zq ((HY0.o.drew).below hb);have HB1:=zq ((zAc HB0.o 1).trans (hb.mono (zAc HB0.o 1).size));have k1:=zq ((g1.out.drew).below hb);have k2:=zq ((g2.out.drew).below hb);have k3:=zq ((g3.out.drew).below hb);have k4:=zq ((g4.out.drew).below hb);skip;clear hb;clear a0 a1 a2 b0 b1 b2 sx sy;obtain ⟨a0,a1,a2⟩:=HX1.o.t;obtain ⟨b0,b1,b2⟩:=HY1.o.t;have sx:=HX1.o.lt;have sy:=HY1.o.lt))
    | ((go_at_call 124;(with_reducible refine (plus_c false mg A A2 A3 A4 c c2 c3 c4 n d m e (w1.alloc (.cells zCR 163)) (k1.out.below ((bS _ _).alloc (aB _) (.cells zCR 163))) (k2.out.below ((bS _ _).alloc (aB _) (.cells zCR 163))) (k3.out.below ((bS _ _).alloc (aB _) (.cells zCR 163))) (k4.out.below ((bS _ _).alloc (aB _) (.cells zCR 163))) hn hd hm he hd0 he0).mono ?_);rintro x w2 ⟨A5,c5,A6,c6,rfl,h5,h6,hb⟩;have HX2:=zq ((HX1.o.alloc (.cells zCR 163)).below hb);have HY2:=zq ((HY1.o.alloc (.cells zCR 163)).below hb);have HB2:=zq ((HB1.o.alloc HB1.o.size (.cells zCR 163)).trans (hb.mono (HB1.o.alloc HB1.o.size (.cells zCR 163)).size));have HZ2:=zq ((Bx.new w1 zCR 163).below hb);have hzg:w.heap.size≤w1.heap.size:=HB1.o.size;have sy1:=HY1.o.lt;have q1:¬ (w.heap.size=w1.heap.size):=za;have q2:¬ (w.heap.size+1=w1.heap.size):=za;have q3:¬ (w1.heap.size=w.heap.size):=za;have q4:¬ (w1.heap.size=w.heap.size+1):=za;obtain ⟨z0,z1,z2⟩:=HZ2.o.t;have zf:=HZ2.o.frozen;have zs:=HZ2.o.lt;clear hb;clear a0 a1 a2 b0 b1 b2 sx sy;obtain ⟨a0,a1,a2⟩:=HX2.o.t;obtain ⟨b0,b1,b2⟩:=HY2.o.t;have sx:=HX2.o.lt;have sy:=HY2.o.lt))
    | ((go_at_call 124;(with_reducible refine (plus_c false mg A A2 A3 A4 c c2 c3 c4 n d m e w1 k1.out k2.out k3.out k4.out hn hd hm he hd0 he0).mono ?_);rintro x w2 ⟨A5,c5,A6,c6,rfl,h5,h6,hb⟩;have HX2:=zq (HX1.o.below hb);have HY2:=zq (HY1.o.below hb);have HB2:=zq (HB1.o.trans (hb.mono HB1.o.size));(first | (have HZ2:=zq (HZ1.o.below hb);clear z0 z1 z2 zf zs;obtain ⟨z0,z1,z2⟩:=HZ2.o.t;have zf:=HZ2.o.frozen;have zs:=HZ2.o.lt) | skip);clear hb;clear a0 a1 a2 b0 b1 b2 sx sy;obtain ⟨a0,a1,a2⟩:=HX2.o.t;obtain ⟨b0,b1,b2⟩:=HY2.o.t;have sx:=HX2.o.lt;have sy:=HY2.o.lt)))
  all_goals
   go_wp2_with fail
   go_meet
   first
    | exact co_set HB2.o HZ2.o hzg
    | exact co_new HB2.o
 case rest =>
  obtain ⟨g,A5,c5,A6,c6,rfl,hbx,hbw⟩:=hcut;have HBX:=zq hbx;have HBW:=zq hbw;clear hbx hbw;generalize (plusN false n d mg m e).1=ng at *;generalize (plusN false n d mg m e).2.1=p at *;generalize (plusN false n d mg m e).2.2=q at *;have x0:=HBX.o.c 0 rfl;have x1:=HBX.o.c 1 rfl;have xs:=HBX.o.lt
  by_cases h0:p=0
  ·subst h0
   have hz:(zAe BT 0).length=0:=rfl;have x1:_=some (Value.slice A5 0 c5):=x1;go_wp2;go_ret
   exact zAd.mk zd HBW.o
  ·have hl:=pos_lenT (Nat.pos_of_ne_zero h0)
   have hlb:(((zAe BT p).length:Int) == 0)=false:=by simp;intro e;rw [e] at hl;simp at hl
   cases ng with
   | true =>
    go_wp2;go_ret
    exact zAd.mk zd HBW.o
   | false =>
    go_wp2;go_ret
    exact zAd.mk zd HBW.o
end Go.Proofs.YtoaelidmmcbkfaaGreatDoor
