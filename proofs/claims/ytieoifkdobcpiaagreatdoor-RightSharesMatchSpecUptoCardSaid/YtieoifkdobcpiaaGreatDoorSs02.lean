/- Parts of the proof, joined: The reference's numbers: limbs of four digits in memory; trim. The ref. -/
import Derived.Test.YtieoifkdobcpiaaGreatDoorSs01
import Derived.Laws.BitsAllLaws
set_option maxRecDepth 100000
set_option maxHeartbeats 8000000
namespace Go.Proofs.YtieoifkdobcpiaaGreatDoor
open Go.RowKit Dw
def BT:Nat:=10000
theorem zAU:1<BT:=zd
theorem BT_pos:0<BT:=zd
theorem BT_eq:BT=10000:=rfl
abbrev i64N:Nat→Value:=fun n=>Value.int .i64 (n:Int)
abbrev Lms:=Rd1 i64N
structure Lt (w:World) (A:Option Addr) (c n:Nat):Prop where
 rd:Lms w A (zAc BT n)
 cap:(zAc BT n).length≤c
abbrev lmV (A:Option Addr) (c n:Nat):Value:=.slice A (zAc BT n).length c
theorem Lt.below {w w':World} {A:Option Addr} {c n:Nat} (h:Lt w A c n) (hb:Below w.heap.size w w'):Lt w' A c n:=⟨h.rd.below hb,h.cap⟩
theorem Lt.drew {w:World} {A:Option Addr} {c n:Nat} (h:Lt w A c n):Lt w.drew A c n:=⟨h.rd.drew,h.cap⟩
theorem Lt.drewN {w:World} {A:Option Addr} {c n:Nat} (h:Lt w A c n) (k:Nat):Lt (w.drewN k) A c n:=⟨h.rd.drewN k,h.cap⟩
def zDg (n:Nat) (w:World) (e:Ending) (w':World):Prop:=∃ A c,e = .returned (lmV A c n)∧Lt w' A c n∧Below w.heap.size w w'
abbrev encLm:Nat→List Value:=fun n=>[i64N n]
abbrev OwnI (w:World) (base:Nat) (v:Value) (l:List Nat):Prop:=zAW encLm 1 w base 3 v l
theorem elI:ElemT Tryz.prog 27 3 (.int .i64 0) 1 8:=⟨Tryz.underlying27,zc,rfl,zd⟩
def ArrI (w:World) (g:Nat) (L:List Nat):Prop:=w.heap[g]?=some (.cells (L.map i64N).toArray 3 (0,0))
section
variable {w w':World} {g:Nat} {L:List Nat}
theorem ArrI.lt (h:ArrI w g L):g<w.heap.size:=(Array.getElem?_eq_some_iff.1 h).1
theorem ArrI.cell (h:ArrI w g L) (i:Nat) (hi:i<L.length):w.cell? ⟨g,i,none⟩=some (.int .i64 ((L[i]:Nat):Int)):=by
 rw [cell_of_row w g i _ _ _ h];simp [hi]
theorem ArrI.frozen (h:ArrI w g L) (i:Nat):w.frozen? ⟨g,i,none⟩=false:=frozen_of_row w g i _ _ h
theorem ArrI.set (h:ArrI w g L) (i x:Nat):ArrI (w.setCell ⟨g,i,none⟩ (.int .i64 (x:Int))) g (L.set i x):=by
 have h1:(w.setCell ⟨g,i,none⟩ (.int .i64 (x:Int))).heap[g]?=some (.cells ((L.map i64N).toArray.setIfInBounds i (.int .i64 (x:Int))) 3 (0,0)):=by
  unfold ArrI at h;simp [World.setCell,Array.getElem?_modify,h]
 unfold ArrI;rw [h1,List.setIfInBounds_toArray,List.map_set]
theorem ArrI.rd (h:ArrI w g L):Lms w (some ⟨g,0,none⟩) L:=fun _=>⟨g,0,rfl,fun i hi=>by
 rw [Nat.zero_add,h.cell i hi]⟩
theorem ArrI.below (h:ArrI w g L) (hb:Below w.heap.size w w'):ArrI w' g L:=(hb.block g h.lt).trans h
theorem ArrI.drewN (h:ArrI w g L) (n:Nat):ArrI (w.drewN n) g L:=h
theorem ArrI.new (w:World) (n:Nat):ArrI (w.alloc (.cells (Array.replicate n (.int .i64 0)) 3)) w.heap.size (List.replicate n 0):=by
 unfold ArrI;rw [heap_alloc_new]
 congr 2
 apply Array.toList_inj.1
 simp
end
theorem mk_ints (n:Nat) (h:n≤1000000000) (w:World):(Instr.makeSlice 27 (.int .i64 (n:Int)) (.int .i64 (n:Int))).run Tryz.prog w = .ok (.slice (some ⟨w.heap.size,0,none⟩) n n) (w.alloc (.cells (Array.replicate n (.int .i64 0)) 3)) :=
 run_makeN1 _ _ elI n za za rfl w
def TrimLRel (w:World) (L:List Nat) (m:Nat) (i:Value) (wr:World):Prop :=
 wr=w∧∃ k:Nat,k=m∧k≤L.length∧i = .int .i64 k∧zBv (L.take k)=zBv L
theorem trimL_c (A:Option Addr) (c:Nat) (L:List Nat) (w:World) (hn:L.length≤1000000000) (hc:L.length≤c) (h:Lms w A L) :
  Calls Tryz.prog 85 #[.slice A L.length c] w (zAz (.slice A (zBv L).length c) w):=by
 go_enter Tryz.func85,Tryz.ntmps85
 go_wp2
 go_loopg [3] L.length (TrimLRel w L)
 case atStart=>exact ⟨rfl,L.length,rfl,Nat.le_refl _,rfl,by rw [List.take_length]⟩
 case round =>
  obtain ⟨hw,k,hm,hk,rfl,ht⟩:=hrel;subst hw;have HM:=zq hm;have HT:=zq ht;clear hm ht
  rcases Nat.eq_zero_or_pos k with h0 | h0
  ·subst h0
   go_wp2;go_ret
   refine zAz.mk ?_ rfl
   rw [←HT.o];rfl
  ·obtain ⟨j,rfl⟩:∃ j,k=j+1:=⟨k - 1,za⟩
   obtain ⟨b,o,rfl,hb,hcl⟩:=h.at_ za;have hj:j<L.length:=za;have hc0:=hcl j hj;clear hcl
   by_cases hz:L[j]=0
   ·have HZ:=zq hz
    rw [hz] at hc0;clear hz;go_wp2
    go_roundg (gk - 1)
    case measure=>have:=HM.o;omega
    case rel=>exact ⟨rfl,j,yc,za,zi,by rw [←HT.o,wtrim_take_zero hj HZ.o]⟩
   ·have hzb:(((L[j]:Nat):Int) == 0)=false:=by simpa using hz
    have HZ:=zq hz;clear hz;go_wp2;go_ret
    refine zAz.mk ?_ rfl
    have e:=HT.o;rw [zEl hj HZ.o] at e;have e2:=congrArg List.length e;rw [List.length_take,Nat.min_eq_left hk] at e2;rw [←e2]
    rfl
theorem Lms.trim {w:World} {A:Option Addr} {L:List Nat} (h:Lms w A L):Lms w A (zBv L):=by
 intro hp;obtain ⟨b,o,rfl,hlt,hcl⟩:=h.at_ jm;refine ⟨b,o,rfl,fun i hi=>?_⟩
 have hi':i<L.length:=jm;rw [hcl i hi']
 have:(zBv L)[i]=L[i]:=by
  have h1:=zCX L;rw [List.getElem_of_eq h1 hi,List.getElem_take]
 rw [this]
theorem trimL_n (A:Option Addr) (c:Nat) (L:List Nat) (w w0:World) (hn:L.length≤1000000000) (hc:L.length≤c) (h:Lms w A L) (hl:WLt BT L) (hb:Below w0.heap.size w0 w) {n:Nat} (hv:zAg BT L=n) :
  Calls Tryz.prog 85 #[.slice A L.length c] w (zDg n w0):=by
 have e:zBv L=zAc BT n:=by rw [zBW zAU hl,hv]
 refine (trimL_c A c L w hn hc h).mono ?_
 rintro _ _ ⟨rfl,rfl⟩;refine ⟨A,c,by rw [e],⟨?_,?_⟩,hb⟩
 ·rw [←e];exact h.trim
 ·rw [←e];have:=wtrim_len L;omega
theorem trimL_x (A:Option Addr) (c:Nat) (L:List Nat) (w:World) (hn:L.length≤1000000000) (hc:L.length≤c) (h:Lms w A L) (hl:WLt BT L) {n:Nat} (hv:zAg BT L=n) :
  Calls Tryz.prog 85 #[.slice A L.length c] w (zAz (lmV A c n) w)∧Lt w A c n:=by
 have e:zBv L=zAc BT n:=by rw [zBW zAU hl,hv]
 refine ⟨?_,?_,?_⟩
 ·have:=trimL_c A c L w hn hc h
  rw [e] at this;exact this
 ·rw [←e];exact h.trim
 ·rw [←e];have:=wtrim_len L;omega
theorem lms_set {w:World} {A:Option Addr} {l:List Nat} (h:Lms w A l) {g i:Nat} (hg:∀ b o,A=some ⟨b,o,none⟩→b≠g) (u:Value):Lms (w.setCell ⟨g,i,none⟩ u) A l:=fun hl=>by
 obtain ⟨b,o,rfl,hc⟩:=h hl;refine ⟨b,o,rfl,fun j hj=>?_⟩
 rw [World.cell?_of_block (w:=w) (Below.heap_setCell w ⟨g,i,none⟩ u b (hg b o rfl))];exact hc j hj
theorem own_capI {w:World} {base:Nat} {A:Option Addr} {n c:Nat} {l:List Nat} (h:OwnI w base (.slice A n c) l):l.length≤c∧n=l.length:=by
 rcases h.2 with ⟨e,hn⟩ | ⟨g,cap,cur,e,hb,hgg,hnc,_,hsz,htake⟩
 ·injection e with _ e2 e3
  omega
 ·injection e with _ e2 e3
  subst e3;exact ⟨za,e2⟩
def CmpLRel (w:World) (l r:List Nat) (m:Nat) (i:Value) (wr:World):Prop :=
 (∃ n,wr=w.drewN n)∧m≤l.length∧(∃ z:Int,z=(m:Int) - 1∧i = .int .i64 z)∧l.drop m=r.drop m
theorem cmpL_l (A A2:Option Addr) (c c2:Nat) (l r:List Nat) (w:World) (h:Lms w A l) (h2:Lms w A2 r) (hl:WLt BT l) (hr:WLt BT r) (hn:l.length≤1000000000) (he:l.length=r.length) :
  Calls Tryz.prog 41 #[.slice A l.length c,.slice A2 l.length c2] w (zBq (.int .i64 (zDq (zAg BT l) (zAg BT r))) w):=by
 have HE:=zq he;clear he
 go_enter Tryz.func41,Tryz.ntmps41
 go_wp2
 go_loopg [5] l.length (CmpLRel w l r)
 case atStart=>exact ⟨⟨0,rfl⟩,Nat.le_refl _,⟨_,rfl,zi⟩,by rw [List.drop_of_length_le (Nat.le_refl _),List.drop_of_length_le (by rw [HE.o];omega)]⟩
 case round =>
  obtain ⟨⟨nd,hw⟩,hk,⟨z,hz,rfl⟩,hd⟩:=hrel;subst hw;have HD:=zq hd;clear hd
  rcases Nat.eq_zero_or_pos gk with h0 | h0
  ·subst h0
   obtain rfl:z = -1:=hz;go_wp2;go_ret
   refine zBq.mk ?_ ⟨_,rfl⟩
   have e:l=r:=by simpa using HD.o
   rw [e,zCM rfl]
   rfl
  ·obtain ⟨j,rfl⟩:∃ j,gk=j+1:=⟨gk - 1,za⟩
   obtain rfl:z=(j:Int):=za;clear hz;have hjr:j<r.length:=by have:=HE.o;omega
   obtain ⟨b,o,rfl,hb,hcl⟩:=h.at_ za;obtain ⟨b2,o2,rfl,hb2,hcl2⟩:=h2.at_ za;have hc0:=hcl j za;have hc1:=hcl2 j hjr;clear hcl hcl2
   by_cases hlt:l[j]<r[j]
   ·have hltb:decide (l[j]<r[j])=true:=decide_eq_true hlt
    have HQ:=zq hlt;clear hlt;go_wp2
    go_quiet (fail)
    go_wp2;go_ret
    refine zBq.mk ?_ (by rw [World.drewN_drewN];exact ⟨_,rfl⟩)
    rw [zBF (wval_lt_of hl HE.o za hjr HD.o HQ.o)]
    rfl
   have hltb:decide (l[j]<r[j])=false:=decide_eq_false hlt
   by_cases hgt:r[j]<l[j]
   ·have hgtb:decide (r[j]<l[j])=true:=decide_eq_true hgt
    have HQ:=zq hgt;clear hlt hgt;go_wp2
    go_quiet (fail)
    go_wp2
    go_quiet (fail)
    go_wp2;go_ret
    refine zBq.mk ?_ jd
    rw [zBB (wval_lt_of hr HE.o.symm hjr za HD.o.symm HQ.o)]
    rfl
   have hgtb:decide (r[j]<l[j])=false:=decide_eq_false hgt;have HQ:Hid (l[j]=r[j]):=by show _=_;omega
   clear hlt hgt;go_wp2
   go_quiet (fail)
   go_wp2
   go_quiet (fail)
   go_wp2
   go_roundg j
   case measure=>omega
   case rel =>
    refine ⟨⟨_,rfl⟩,za,⟨_,rfl,zi⟩,?_⟩
    rw [List.drop_eq_getElem_cons za,List.drop_eq_getElem_cons hjr,HQ.o,HD.o]
theorem cmpL_len (A A2:Option Addr) (c c2 n m:Nat) (w:World) (hne:n≠m) :
  Calls Tryz.prog 41 #[.slice A n c,.slice A2 m c2] w (zBq (.int .i64 (zDq n m)) w):=by
 have hnb:((n:Int) != (m:Int))=true:=zg
 rcases Nat.lt_or_ge n m with hlt | hge
 ·have hltb:decide (n<m)=true:=decide_eq_true hlt
  have hv:zDq n m = -1:=zBF hlt;rw [hv];have HV:=zq hv;clear hv
  go_enter Tryz.func41,Tryz.ntmps41
  go_wp2;go_ret
  exact zBq.mk rfl ⟨0,rfl⟩
 ·have hltb:decide (n<m)=false:=decide_eq_false za
  have hv:zDq n m=1:=zBB za;rw [hv];have HV:=zq hv;clear hv
  go_enter Tryz.func41,Tryz.ntmps41
  go_wp2;go_ret
  exact zBq.mk rfl ⟨0,rfl⟩
theorem cmpL_c (A A2:Option Addr) (c c2 a b:Nat) (w:World) (h:Lms w A (zAc BT a)) (h2:Lms w A2 (zAc BT b)) (hn:(zAc BT a).length≤1000000000) :
  Calls Tryz.prog 41 #[lmV A c a,lmV A2 c2 b] w (zBq (.int .i64 (zDq a b)) w):=by
 by_cases he:(zAc BT a).length=(zAc BT b).length
 ·have:=cmpL_l A A2 c c2 (zAc BT a) (zAc BT b) w h h2 (zAJ zAU a) (zAJ zAU b) hn he
  rw [zAl zAU,zAl zAU] at this;unfold lmV;rw [←he];exact this
 ·have:=cmpL_len A A2 c c2 _ _ w he
  have e:zDq (zAc BT a).length (zAc BT b).length=zDq a b:=by
   rcases Nat.lt_or_ge (zAc BT a).length (zAc BT b).length with h1 | h1
   ·rw [zBF h1,zBF (lt_of_len zAU h1)]
   ·rw [zBB za,zBB (lt_of_len zAU za)]
  rw [e] at this;exact this
theorem words_full {L:List Nat} (hl:WLt BT L) (h:L=[]∨BT ^ (L.length - 1)≤zAg BT L):zAc BT (zAg BT L)=L:=by
 rw [←zBW zAU hl]
 rcases h with rfl | h
 ·rfl
 ·rcases Nat.eq_zero_or_pos L.length with h0 | h0
  ·rw [List.length_eq_zero_iff.1 h0];rfl
  have h1:=zBl zAU (zAg BT L);rw [←zBW zAU hl] at h1;have h2:L.length - 1<(zBv L).length:=(Nat.pow_lt_pow_iff_right zAU).1 (Nat.lt_of_le_of_lt h h1);rw [zCX L,List.take_of_length_le za]
theorem own_slice' {w:World} {base:Nat} {v:Value} {l:List Nat} (h:OwnI w base v l):∃ A c,v = .slice A l.length c:=by
 obtain ⟨A,c,he,_⟩:=zAW.rd1 h;exact ⟨A,c,he⟩
theorem own_lms {w:World} {base n c:Nat} {A:Option Addr} {l:List Nat} (h:OwnI w base (.slice A n c) l):Lms w A l:=by
 obtain ⟨A',c',he,hr⟩:=zAW.rd1 h
 injection he with h1 _ _
 subst h1;exact hr
def AddLRel (w:World) (l r:List Nat) (m:Nat) (v cy i:Value) (wr:World):Prop :=
 ∃ (k c:Nat) (out:List Nat),k+m=max l.length r.length∧i = .int .i64 k∧cy = .int .i64 (c:Int)∧c≤1∧out.length=k∧WLt BT out∧zAg BT out+BT ^ k*c=zAg BT (l.take k)+zAg BT (r.take k)∧OwnI wr w.heap.size v out∧Below w.heap.size w wr
theorem addL_c (A A2:Option Addr) (c c2 a b:Nat) (w:World) (h:Lms w A (zAc BT a)) (h2:Lms w A2 (zAc BT b)) (hn:(zAc BT a).length≤400000000) (hn2:(zAc BT b).length≤400000000) :
  Calls Tryz.prog 44 #[lmV A c a,lmV A2 c2 b] w (zDg (a+b) w):=by
 obtain ⟨l,hl⟩:∃ l,l=zAc BT a:=⟨_,rfl⟩;obtain ⟨r,hr⟩:∃ r,r=zAc BT b:=⟨_,rfl⟩;unfold lmV;rw [←hl] at h hn ⊢;rw [←hr] at h2 hn2 ⊢;have hlw:WLt BT l:=by rw [hl];exact zAJ zAU a
 have hrw:WLt BT r:=by rw [hr];exact zAJ zAU b
 have HL:=zq hl;have HR:=zq hr;clear hl hr
 go_enter Tryz.func44,Tryz.ntmps44
 go_wp2
 go_loopg [5,6,7] (max l.length r.length) (AddLRel w l r)
 case atStart=>exact ⟨0,0,[],za,rfl,rfl,za,rfl,WLt.nil,qz,zAW.nil _ _ _ _ _,Below.refl _ _⟩
 case round =>
  obtain ⟨k,cy,out,hm,rfl,rfl,hcy,hol,how,hv,hown,hbw⟩:=hrel;have HM:=zq hm;have HO:=zq hol;have HV:=zq hv;have HB:=zq hbw;have HW:=zq how;clear hm hv hbw how;have hok:out.length≤400000000:=yc
  by_cases h1:k<l.length
  ·obtain ⟨q,o,rfl,hb,hcl⟩:=h.at_ za
   have hc0:=(HB.o.cell hb).trans (hcl k h1);clear hcl;have hx:l[k]<10000:=hlw.get k h1
   by_cases h3:k<r.length
   ·obtain ⟨q2,o2,rfl,hb2,hcl2⟩:=h2.at_ za
    have hc1:=(HB.o.cell hb2).trans (hcl2 k h3);clear hcl2;have hy:r[k]<10000:=hrw.get k h3;obtain ⟨T,hT⟩:∃ T,T=cy+l[k]+r[k]:=⟨_,rfl⟩;have hTe:(cy:Int)+(l[k]:Int)+(r[k]:Int)=(T:Int):=by rw [hT];omega
    have hTB:T<20000:=za;have HT:Hid (T=cy+l[k]+r[k]):=by show _=_;omega
    have HA:Hid (zAg BT (l.take (k+1))=zAg BT (l.take k)+BT ^ k*l[k]):=zAA h1;have HC:Hid (zAg BT (r.take (k+1))=zAg BT (r.take k)+BT ^ k*r[k]):=zAA h3;clear hT
    go_wp2_with (at_builtin;refine zBf _ _ _ elI rfl rfl w.heap.size _ out rfl (zAW.alloc hown _) wr.heap.size 1 (T % 10000) rfl (heap_alloc_new _ _) rfl ya zm za yg ?_;intro A7 c7 w7 hown7 hg7 hb7 hat7)
    have HB7:=zq ((HB.o.alloc HB.o.size _).trans hb7);have HN7:=zq hown7;clear hown7 hg7 hb7 hat7 hown HB;go_wp2
    go_roundg (gk - 1)
    case measure=>have:=HM.o;omega
    case rel =>
     refine ⟨k+1,T / 10000,out++[T % 10000],yc,zi,zi,za,yb,HW.o.append (WLt.cons (Nat.mod_lt _ zd) WLt.nil),?_,qh,HB7.o⟩
     rw [zAR,HO.o,zBK,HA.o,HC.o];exact add_col HV.o HT.o
   ·have h3i:¬ ((k:Int)<(r.length:Int)):=by omega
    obtain ⟨T,hT⟩:∃ T,T=cy+l[k]:=⟨_,rfl⟩;have hTe:(cy:Int)+(l[k]:Int)=(T:Int):=by rw [hT];omega
    have hTB:T<20000:=za;have HT:Hid (T=cy+l[k]+0):=by show _=_;omega
    have HA:Hid (zAg BT (l.take (k+1))=zAg BT (l.take k)+BT ^ k*l[k]):=zAA h1;have HC:Hid (zAg BT (r.take (k+1))=zAg BT (r.take k)+BT ^ k*0):=zy;clear hT
    go_wp2_with (at_builtin;refine zBf _ _ _ elI rfl rfl w.heap.size _ out rfl (zAW.alloc hown _) wr.heap.size 1 (T % 10000) rfl (heap_alloc_new _ _) rfl ya zm za yg ?_;intro A7 c7 w7 hown7 hg7 hb7 hat7)
    have HB7:=zq ((HB.o.alloc HB.o.size _).trans hb7);have HN7:=zq hown7;clear hown7 hg7 hb7 hat7 hown HB;go_wp2
    go_roundg (gk - 1)
    case measure=>have:=HM.o;omega
    case rel =>
     refine ⟨k+1,T / 10000,out++[T % 10000],yc,zi,zi,za,yb,HW.o.append (WLt.cons (Nat.mod_lt _ zd) WLt.nil),?_,qh,HB7.o⟩
     rw [zAR,HO.o,zBK,HA.o,HC.o];exact add_col HV.o HT.o
  ·have h1i:¬ ((k:Int)<(l.length:Int)):=by omega
   by_cases h3:k<r.length
   ·obtain ⟨q2,o2,rfl,hb2,hcl2⟩:=h2.at_ za
    have hc1:=(HB.o.cell hb2).trans (hcl2 k h3);clear hcl2;have hy:r[k]<10000:=hrw.get k h3;obtain ⟨T,hT⟩:∃ T,T=cy+r[k]:=⟨_,rfl⟩;have hTe:(cy:Int)+(r[k]:Int)=(T:Int):=by rw [hT];omega
    have hTB:T<20000:=za;have HT:Hid (T=cy+0+r[k]):=by show _=_;omega
    have HA:Hid (zAg BT (l.take (k+1))=zAg BT (l.take k)+BT ^ k*0):=zy;have HC:Hid (zAg BT (r.take (k+1))=zAg BT (r.take k)+BT ^ k*r[k]):=zAA h3;clear hT
    go_wp2_with (at_builtin;refine zBf _ _ _ elI rfl rfl w.heap.size _ out rfl (zAW.alloc hown _) wr.heap.size 1 (T % 10000) rfl (heap_alloc_new _ _) rfl ya zm za yg ?_;intro A7 c7 w7 hown7 hg7 hb7 hat7)
    have HB7:=zq ((HB.o.alloc HB.o.size _).trans hb7);have HN7:=zq hown7;clear hown7 hg7 hb7 hat7 hown HB;go_wp2
    go_roundg (gk - 1)
    case measure=>have:=HM.o;omega
    case rel =>
     refine ⟨k+1,T / 10000,out++[T % 10000],yc,zi,zi,za,yb,HW.o.append (WLt.cons (Nat.mod_lt _ zd) WLt.nil),?_,qh,HB7.o⟩
     rw [zAR,HO.o,zBK,HA.o,HC.o];exact add_col HV.o HT.o
   ·have h3i:¬ ((k:Int)<(r.length:Int)):=by omega
    have HV2:Hid (zAg BT out+BT ^ out.length*cy=a+b):=by
     show _=_
     have e:=HV.o;rw [List.take_of_length_le za,List.take_of_length_le za,HL.o,HR.o,zAl zAU,zAl zAU] at e;rw [hol];exact e
    have HMX:Hid (out=[]∨BT ^ (out.length - 1)≤a+b):=by
     rcases Nat.eq_zero_or_pos k with h0 | h0
     ·exact .inl (List.length_eq_zero_iff.1 za)
     ·refine .inr ?_
      have hk:k=max l.length r.length:=yc;rw [hol]
      rcases Nat.le_total l.length r.length with h4 | h4
      ·have e:=zEg (B:=BT) (l:=r) za (by rw [List.getElem_of_eq HR.o];simpa [HR.o] using zCj zAU (n:=b) (by rw [←HR.o];omega))
       rw [HR.o,zAl zAU,←HR.o,show r.length=k by omega] at e
       omega
      ·have e:=zEg (B:=BT) (l:=l) za (by rw [List.getElem_of_eq HL.o];simpa [HL.o] using zCj zAU (n:=a) (by rw [←HL.o];omega))
       rw [HL.o,zAl zAU,←HL.o,show l.length=k by omega] at e
       omega
    rcases Nat.eq_zero_or_pos cy with h0 | h0
    ·subst h0
     have HE:Hid (zAc BT (a+b)=out):=by
      show _=_
      have e:=HV2.o;rw [Nat.mul_zero,Nat.add_zero] at e;rw [←e] ;refine words_full HW.o ?_
      rw [e];exact HMX.o
     obtain ⟨A9,c9,rfl⟩:=own_slice' hown;go_wp2;go_ret
     exact ⟨A9,c9,by unfold lmV;rw [HE.o,hol];rfl,⟨by rw [HE.o];exact own_lms hown,by rw [HE.o];exact (own_capI hown).1⟩,HB.o⟩
    ·obtain rfl:cy=1:=by omega
     go_wp2_with (at_builtin;refine zBf _ _ _ elI rfl rfl w.heap.size _ out rfl (zAW.alloc hown _) wr.heap.size 1 1 rfl (heap_alloc_new _ _) rfl ya zm za yg ?_;intro A7 c7 w7 hown7 hg7 hb7 hat7)
     have hb8:=(HB.o.alloc HB.o.size _).trans hb7
     have HE:Hid (zAc BT (a+b)=out++[1]):=by
      show _=_
      have e:=HV2.o;have hw2:WLt BT (out++[1]):=HW.o.append (WLt.cons zd WLt.nil);have e2:zAg BT (out++[1])=a+b:=by rw [zAR,zBK];exact e
      rw [←e2,←zBW zAU hw2];exact wtrim_ne zd out
     go_wp2;go_ret
     have hcap:=own_capI hown7;exact ⟨A7,c7,by unfold lmV;rw [HE.o,List.length_append,hol];rfl,⟨by rw [HE.o];exact own_lms hown7,by rw [HE.o];exact hcap.1⟩,hb8⟩
theorem sub_colN {k o R L c t y x d:Nat} (h:o+R=L+BT ^ k*c) (hs:t+c+y=x+BT*d):(o+BT ^ k*t)+(R+BT ^ k*y)=(L+BT ^ k*x)+BT ^ (k+1)*d:=by
 have e:=congrArg (BT ^ k * ·) hs;simp only [Nat.mul_add] at e;rw [Nat.pow_succ,Nat.mul_assoc];omega
def LessLRel (w:World) (l r:List Nat) (m:Nat) (v cy i:Value) (wr:World):Prop :=
 ∃ (k c:Nat) (out:List Nat),k+m=l.length∧i = .int .i64 k∧cy = .int .i64 (c:Int)∧c≤1∧out.length=k∧WLt BT out∧zAg BT out+zAg BT (r.take k)=zAg BT (l.take k)+BT ^ k*c∧OwnI wr w.heap.size v out∧Below w.heap.size w wr
theorem lessL_c (A A2:Option Addr) (c c2 a b:Nat) (w:World) (h:Lms w A (zAc BT a)) (h2:Lms w A2 (zAc BT b)) (hn:(zAc BT a).length≤400000000) (hle:b≤a) :
  Calls Tryz.prog 45 #[lmV A c a,lmV A2 c2 b] w (zDg (a - b) w):=by
 obtain ⟨l,hl⟩:∃ l,l=zAc BT a:=⟨_,rfl⟩;obtain ⟨r,hr⟩:∃ r,r=zAc BT b:=⟨_,rfl⟩;have hrl:r.length≤l.length:=by rw [hl,hr];exact zAq zAU hle
 unfold lmV;rw [←hl] at h hn ⊢;rw [←hr] at h2 ⊢;have hlw:WLt BT l:=by rw [hl];exact zAJ zAU a
 have hrw:WLt BT r:=by rw [hr];exact zAJ zAU b
 have HL:=zq hl;have HR:=zq hr;have HLE:=zq hle;clear hl hr hle
 go_enter Tryz.func45,Tryz.ntmps45
 go_wp2
 go_loopg [5,6,7] l.length (LessLRel w l r)
 case atStart=>exact ⟨0,0,[],za,rfl,rfl,za,rfl,WLt.nil,qz,zAW.nil _ _ _ _ _,Below.refl _ _⟩
 case round =>
  obtain ⟨k,cy,out,hm,rfl,rfl,hcy,hol,how,hv,hown,hbw⟩:=hrel;have HM:=zq hm;have HO:=zq hol;have HV:=zq hv;have HB:=zq hbw;have HW:=zq how;clear hm hv hbw how;have hok:out.length≤400000000:=yc
  by_cases h1:k<l.length
  ·obtain ⟨q,o,rfl,hb,hcl⟩:=h.at_ za
   have hc0:=(HB.o.cell hb).trans (hcl k h1);clear hcl;have hx:l[k]<10000:=hlw.get k h1
   by_cases h3:k<r.length
   ·obtain ⟨q2,o2,rfl,hb2,hcl2⟩:=h2.at_ za
    have hc1:=(HB.o.cell hb2).trans (hcl2 k h3);clear hcl2;have hy:r[k]<10000:=hrw.get k h3;obtain ⟨z,hz⟩:∃ z:Int,z=(l[k]:Int) - (cy:Int) - (r[k]:Int):=⟨_,rfl⟩;have hTe:(l[k]:Int) - (cy:Int) - (r[k]:Int)=z:=hz.symm;have hz1 : -10002≤z∧z≤10000:=za
    by_cases hneg:z<0
    ·obtain ⟨T,hT⟩:∃ T:Nat,z+10000=(T:Int):=⟨(z+10000).toNat,za⟩
     have HT:Hid (T+cy+r[k]=l[k]+BT*1):=by show _=_;rw [BT_eq];omega
     have hTB:T<10000:=za;have HA:Hid (zAg BT (l.take (k+1))=zAg BT (l.take k)+BT ^ k*l[k]):=zAA h1;have HC:Hid (zAg BT (r.take (k+1))=zAg BT (r.take k)+BT ^ k*r[k]):=zAA h3;clear hz
     go_wp2_with (at_builtin;refine zBf _ _ _ elI rfl rfl w.heap.size _ out rfl (zAW.alloc hown _) wr.heap.size 1 T rfl (heap_alloc_new _ _) rfl ya zm za yg ?_;intro A7 c7 w7 hown7 hg7 hb7 hat7)
     have HB7:=zq ((HB.o.alloc HB.o.size _).trans hb7);have HN7:=zq hown7;clear hown7 hg7 hb7 hat7 hown HB;go_wp2
     go_roundg (gk - 1)
     case measure=>have:=HM.o;omega
     case rel =>
      refine ⟨k+1,1,out++[T],yc,zi,rfl,za,yb,HW.o.append (WLt.cons qn WLt.nil),?_,qh,HB7.o⟩
      rw [zAR,HO.o,zBK,HA.o,HC.o];exact sub_colN HV.o HT.o
    ·obtain ⟨T,hT⟩:∃ T:Nat,z=(T:Int):=⟨z.toNat,za⟩
     have HT:Hid (T+cy+r[k]=l[k]+BT*0):=by show _=_;rw [BT_eq];omega
     have hTB:T<10000:=za;have HA:Hid (zAg BT (l.take (k+1))=zAg BT (l.take k)+BT ^ k*l[k]):=zAA h1;have HC:Hid (zAg BT (r.take (k+1))=zAg BT (r.take k)+BT ^ k*r[k]):=zAA h3;subst hT;clear hz
     go_wp2_with (at_builtin;refine zBf _ _ _ elI rfl rfl w.heap.size _ out rfl (zAW.alloc hown _) wr.heap.size 1 T rfl (heap_alloc_new _ _) rfl ya zm za yg ?_;intro A7 c7 w7 hown7 hg7 hb7 hat7)
     have HB7:=zq ((HB.o.alloc HB.o.size _).trans hb7);have HN7:=zq hown7;clear hown7 hg7 hb7 hat7 hown HB;go_wp2
     go_roundg (gk - 1)
     case measure=>have:=HM.o;omega
     case rel =>
      refine ⟨k+1,0,out++[T],yc,zi,rfl,za,yb,HW.o.append (WLt.cons qn WLt.nil),?_,qh,HB7.o⟩
      rw [zAR,HO.o,zBK,HA.o,HC.o];exact sub_colN HV.o HT.o
   ·have h3i:¬ ((k:Int)<(r.length:Int)):=by omega
    obtain ⟨z,hz⟩:∃ z:Int,z=(l[k]:Int) - (cy:Int):=⟨_,rfl⟩;have hTe:(l[k]:Int) - (cy:Int)=z:=hz.symm;have hz1 : -10002≤z∧z≤10000:=za
    by_cases hneg:z<0
    ·obtain ⟨T,hT⟩:∃ T:Nat,z+10000=(T:Int):=⟨(z+10000).toNat,za⟩
     have HT:Hid (T+cy+0=l[k]+BT*1):=by show _=_;rw [BT_eq];omega
     have hTB:T<10000:=za;have HA:Hid (zAg BT (l.take (k+1))=zAg BT (l.take k)+BT ^ k*l[k]):=zAA h1;have HC:Hid (zAg BT (r.take (k+1))=zAg BT (r.take k)+BT ^ k*0):=zy;clear hz
     go_wp2_with (at_builtin;refine zBf _ _ _ elI rfl rfl w.heap.size _ out rfl (zAW.alloc hown _) wr.heap.size 1 T rfl (heap_alloc_new _ _) rfl ya zm za yg ?_;intro A7 c7 w7 hown7 hg7 hb7 hat7)
     have HB7:=zq ((HB.o.alloc HB.o.size _).trans hb7);have HN7:=zq hown7;clear hown7 hg7 hb7 hat7 hown HB;go_wp2
     go_roundg (gk - 1)
     case measure=>have:=HM.o;omega
     case rel =>
      refine ⟨k+1,1,out++[T],yc,zi,rfl,za,yb,HW.o.append (WLt.cons qn WLt.nil),?_,qh,HB7.o⟩
      rw [zAR,HO.o,zBK,HA.o,HC.o];exact sub_colN HV.o HT.o
    ·obtain ⟨T,hT⟩:∃ T:Nat,z=(T:Int):=⟨z.toNat,za⟩
     have HT:Hid (T+cy+0=l[k]+BT*0):=by show _=_;rw [BT_eq];omega
     have hTB:T<10000:=za;have HA:Hid (zAg BT (l.take (k+1))=zAg BT (l.take k)+BT ^ k*l[k]):=zAA h1;have HC:Hid (zAg BT (r.take (k+1))=zAg BT (r.take k)+BT ^ k*0):=zy;subst hT;clear hz
     go_wp2_with (at_builtin;refine zBf _ _ _ elI rfl rfl w.heap.size _ out rfl (zAW.alloc hown _) wr.heap.size 1 T rfl (heap_alloc_new _ _) rfl ya zm za yg ?_;intro A7 c7 w7 hown7 hg7 hb7 hat7)
     have HB7:=zq ((HB.o.alloc HB.o.size _).trans hb7);have HN7:=zq hown7;clear hown7 hg7 hb7 hat7 hown HB;go_wp2
     go_roundg (gk - 1)
     case measure=>have:=HM.o;omega
     case rel =>
      refine ⟨k+1,0,out++[T],yc,zi,rfl,za,yb,HW.o.append (WLt.cons qn WLt.nil),?_,qh,HB7.o⟩
      rw [zAR,HO.o,zBK,HA.o,HC.o];exact sub_colN HV.o HT.o
  ·have h1i:¬ ((k:Int)<(l.length:Int)):=by omega
   have HV2:Hid (zAg BT out=a - b):=by
    show _=_
    have e:=HV.o;rw [List.take_of_length_le za,List.take_of_length_le za,HL.o,HR.o,zAl zAU,zAl zAU] at e;have h4:=zDk HW.o;rw [hol] at h4;have h5:=HLE.o
    rcases Nat.eq_zero_or_pos cy with h0 | h0
    ·subst h0
     rw [Nat.mul_zero] at e;omega
    ·obtain rfl:cy=1:=by omega
     rw [Nat.mul_one] at e;omega
   obtain ⟨A9,c9,rfl⟩:=own_slice' hown;have HT:=zq (trimL_n A9 c9 out wr w za (own_capI hown).1 (own_lms hown) HW.o HB.o HV2.o);rw [hol] at HT
   go_wp2_with fail
   with_reducible refine HT.o.mono ?_
   rintro e w7 ⟨A7,c7,rfl,hl7,hb7⟩;have HL7:=zq hl7;have HB7:=zq hb7;clear hl7 hb7 HT;go_wp2;go_ret
   exact ⟨A7,c7,rfl,HL7.o,HB7.o⟩
def MulLRel (w:World) (g:Nat) (l r:List Nat) (m:Nat) (iv:Value) (wr:World):Prop :=
 ∃ (k:Nat) (L:List Nat),k+m=l.length∧iv = .int .i64 k∧ArrI wr g L∧L.length=l.length+r.length∧WLt BT L∧zAg BT L=zAg BT (l.take k)*zAg BT r ∧
  (∀ x (h:x<L.length),k+r.length≤x→L[x]=0)∧Below w.heap.size w wr∧w.heap.size≤g
def MulLRel2 (w:World) (g:Nat) (l r:List Nat) (k x:Nat) (m:Nat) (cv jv:Value) (wr:World):Prop :=
 ∃ (j cy:Nat) (L:List Nat),j+m=r.length∧jv = .int .i64 j∧cv = .int .i64 (cy:Int)∧cy≤9999∧ArrI wr g L∧L.length=l.length+r.length∧WLt BT L ∧
  zAg BT L+BT ^ (k+j)*cy=zAg BT (l.take k)*zAg BT r+BT ^ k*(x*zAg BT (r.take j))∧(∀ x (h:x<L.length),k+r.length≤x→L[x]=0)∧Below w.heap.size w wr∧w.heap.size≤g
theorem MulLRel2.step {w wr:World} {g:Nat} {l r L:List Nat} {k x j cy gk t:Nat} (hkm:j+gk=r.length) (hlt:j<r.length) (hk:k<l.length) (hcy:cy≤9999) (hx:x≤9999) (hA:ArrI wr g L) (hL:L.length=l.length+r.length) (hr:WLt BT r) (hLt:WLt BT L)
  (hV:zAg BT L+BT ^ (k+j)*cy=zAg BT (l.take k)*zAg BT r+BT ^ k*(x*zAg BT (r.take j))) (hZ:∀ x (h:x<L.length),k+r.length≤x→L[x]=0) (hbw:Below w.heap.size w wr) (hwg:w.heap.size≤g)
  (ht:t=cy+(x*r[j]+L[k+j])) {cv iv mv:Value} (hc:cv = .int .i64 ((t / 10000:Nat):Int)) (hi:iv = .int .i64 ((j:Int)+1)) (hm:mv = .int .i64 ((t % 10000:Nat):Int)) :
  MulLRel2 w g l r k x (gk - 1) cv iv (wr.setCell ⟨g,k+j,none⟩ mv):=by
 subst hc hi hm;have hy:r[j]≤9999:=by have:=hr.get j hlt;rw [BT_eq] at this;omega
 have hz:L[k+j]≤9999:=by have:=hLt.get (k+j) za;rw [BT_eq] at this;omega
 have hxy:x*r[j]≤9999*9999:=Nat.mul_le_mul hx hy;refine ⟨j+1,t / 10000,L.set (k+j) (t % 10000),za,zi,rfl,by rw [ht];generalize x*r[j]=p at *;omega,hA.set (k+j) _,by simpa using hL,hLt.set (show t % 10000<BT from Nat.mod_lt t BT_pos) _,?_,fun i hi hki=>?_,hbw.setCell hwg _,hwg⟩
 ·have e1:=zEj BT L (k+j) (t % 10000) za
  rw [zAA hlt]
  have e2:BT ^ (k+j)*(t % 10000)+BT ^ (k+(j+1))*(t / 10000)=BT ^ (k+j)*t:=by
   rw [show k+(j+1)=(k+j)+1 by omega,Nat.pow_succ,Nat.mul_assoc,←Nat.mul_add,BT_eq,Nat.mod_add_div]
  have e3:BT ^ (k+j)*t=BT ^ (k+j)*cy+BT ^ (k+j)*(x*r[j])+BT ^ (k+j)*L[k+j]:=by
   rw [ht,Nat.mul_add,Nat.mul_add,Nat.add_assoc]
  have e4:BT ^ k*(x*(zAg BT (r.take j)+BT ^ j*r[j]))=BT ^ k*(x*zAg BT (r.take j))+BT ^ (k+j)*(x*r[j]):=by
   rw [Nat.mul_add,Nat.mul_add,Nat.pow_add,Nat.mul_left_comm x,Nat.mul_assoc]
  rw [e4];omega
 ·rw [List.getElem_set_ne za]
  exact hZ i yw za
theorem MulLRel.next {w wr:World} {g:Nat} {l r L:List Nat} {k cy gk:Nat} (hkm:k+1+gk=l.length) (hlt:k<l.length) (hcy:cy≤9999) (hA:ArrI wr g L) (hL:L.length=l.length+r.length) (hLt:WLt BT L)
  (hV:zAg BT L+BT ^ (k+r.length)*cy=zAg BT (l.take k)*zAg BT r+BT ^ k*(l[k]*zAg BT (r.take r.length))) (hZ:∀ x (h:x<L.length),k+r.length≤x→L[x]=0) (hbw:Below w.heap.size w wr) (hwg:w.heap.size≤g)
  {iv mv:Value} (hi:iv = .int .i64 ((k:Int)+1)) (hm:mv = .int .i64 (cy:Int)) :
  MulLRel w g l r gk iv (wr.setCell ⟨g,k+r.length,none⟩ mv):=by
 subst hi hm;refine ⟨k+1,L.set (k+r.length) cy,za,zi,hA.set _ _,by simpa using hL,hLt.set qn _,?_,fun i hi hki=>?_,hbw.setCell hwg _,hwg⟩
 ·have e1:=zEj BT L (k+r.length) cy za
  rw [hZ (k+r.length) za (Nat.le_refl _)] at e1;rw [List.take_of_length_le (Nat.le_refl _)] at hV;rw [zAA hlt,Nat.add_mul,Nat.mul_assoc (BT ^ k)];omega
 ·rw [List.getElem_set_ne za]
  exact hZ i yw za
theorem timesL_c (A A2:Option Addr) (c c2:Nat) (a b:Nat) (w:World) (h:Lms w A (zAc BT a)) (h2:Lms w A2 (zAc BT b)) (hn:(zAc BT a).length≤400000000) (hm:(zAc BT b).length≤400000000) :
  Calls Tryz.prog 43 #[lmV A c a,lmV A2 c2 b] w (zDg (a*b) w):=by
 have hmk:∀ w:World,(Instr.makeSlice 27 (.int .i64 (((zAc BT a).length:Int)+((zAc BT b).length:Int))) (.int .i64 (((zAc BT a).length:Int)+((zAc BT b).length:Int)))).run Tryz.prog w =
   .ok (.slice (some ⟨w.heap.size,0,none⟩) ((zAc BT a).length+(zAc BT b).length) ((zAc BT a).length+(zAc BT b).length)) (w.alloc (.cells (Array.replicate ((zAc BT a).length+(zAc BT b).length) (.int .i64 0)) 3)) :=
  mk_ints ((zAc BT a).length+(zAc BT b).length) za
 unfold lmV
 go_enter Tryz.func43,Tryz.ntmps43
 go_wp2;clear hmk;have hnew:=ArrI.new w ((zAc BT a).length+(zAc BT b).length);have hbel:Below w.heap.size w (w.alloc (.cells (Array.replicate ((zAc BT a).length+(zAc BT b).length) (.int .i64 0)) 3)):=(Below.refl _ _).alloc (Nat.le_refl _) _;obtain ⟨g,hg⟩:∃ g,g=w.heap.size:=⟨_,rfl⟩;rw [←hg] at hnew;obtain ⟨w1,hw1⟩:∃ w1,w1=w.alloc (.cells (Array.replicate ((zAc BT a).length+(zAc BT b).length) (.int .i64 0)) 3):=⟨_,rfl⟩;rw [←hw1] at hnew hbel;rw [←hg,←hw1];have HG:=zq hg;have HB:=zq hbel;clear hg hbel hw1;have hl:=zAJ zAU a;have hr:=zAJ zAU b;have HVA:=zq (zAl zAU a);have HVB:=zq (zAl zAU b);generalize zAc BT a=l at *;generalize zAc BT b=r at *
 go_loopg [6] l.length (MulLRel w g l r)
 case atStart=>exact ⟨0,List.replicate (l.length+r.length) 0,za,rfl,hnew,ze,WLt.zeros BT_pos _,by rw [wval_zeros];simp [zAg],fun x hx _=>ze,HB.o,yh⟩
 case round =>
  obtain ⟨k,L,hkm,rfl,hA,hL,hLt,hV,hZ,hbw,hwg⟩:=hrel;have HM:=zq hkm;have HV:=zq hV;have HZ:=zq hZ;have HL:=zq hL;clear hkm hV hZ hL
  by_cases hlt:k<l.length
  ·have hx:l[k]<10000:=hl.get k hlt
   go_wp2;obtain ⟨wo,hwo⟩:∃ wo:World,wo=wr:=⟨_,rfl⟩;subst hwo
   go_loopg [7,8] r.length (MulLRel2 w g l r k l[k])
   case atStart=>exact ⟨0,0,L,za,rfl,rfl,za,hA,HL.o,hLt,by rw [HV.o];simp [zAg],HZ.o,hbw,hwg⟩
   case round =>
    clear hA hbw;obtain ⟨j,cy,L2,hjm,rfl,rfl,hcy,hA2,hL2,hLt2,hV2,hZ2,hbw2,hwg2⟩:=hrel;have HM2:=zq hjm;have HV2:=zq hV2;have HZ2:=zq hZ2;have HL2:=zq hL2;clear hjm hV2 hZ2 hL2
    by_cases hj:j<r.length
    ·obtain ⟨b1,o1,hA0,hb1,hcl⟩:=(h.below hbw2).at_ za
     subst hA0;have hc0:=hcl k hlt;obtain ⟨b2,o2,hA02,hb2,hcl2⟩:=(h2.below hbw2).at_ za;subst hA02;have hc2:=hcl2 j hj;have hy:r[j]<10000:=hr.get j hj;have hkj:k+j<L2.length:=by have:=HL2.o;omega
     have hz:L2[k+j]<10000:=hLt2.get (k+j) hkj;have hc1:=hA2.cell (k+j) hkj;have hf1:=hA2.frozen (k+j);have hsz:=hA2.lt;obtain ⟨p,hp⟩:∃ p,p=l[k]*r[j]:=⟨_,rfl⟩;have hpB:p≤9999*9999:=by rw [hp];exact Nat.mul_le_mul za za
     have hpe:(l[k]:Int)*(r[j]:Int)=(p:Int):=by rw [hp];exact (Int.natCast_mul _ _).symm
     obtain ⟨T,hT⟩:∃ T,T=cy+(p+L2[k+j]):=⟨_,rfl⟩;have hTe:(L2[k+j]:Int)+(p:Int)+(cy:Int)=(T:Int):=by rw [hT];omega
     have hTB:T≤99999999:=za;have HT:Hid (T=cy+(l[k]*r[j]+L2[k+j])):=by show _=_;rw [hT,hp]
     clear hcl hcl2 hT hp;go_wp2
     go_quiet (fail)
     go_wp2
     go_roundg (gk - 1)
     case measure=>have:=HM2.o;omega
     case rel=>exact MulLRel2.step (wr:=wr.drewN _) HM2.o hj hlt hcy za (hA2.drewN _) HL2.o hr hLt2 HV2.o HZ2.o (zAd hbw2 _) hwg2 HT.o ze rfl ze
    ·obtain rfl:j=r.length:=by have:=HM2.o;omega
     have hkj:k+r.length<L2.length:=by have:=HL2.o;omega
     have hc1:=hA2.cell (k+r.length) hkj;rw [HZ2.o _ hkj (Nat.le_refl _)] at hc1;have hf1:=hA2.frozen (k+r.length);have hsz:=hA2.lt;go_wp2
     go_roundg (l.length - k - 1)
     case measure=>have:=HM.o;omega
     case rel=>exact MulLRel.next yc hlt hcy hA2 HL2.o hLt2 HV2.o HZ2.o hbw2 hwg2 rfl ze
  ·obtain rfl:k=l.length:=by have:=HM.o;omega
   go_wp2_with fail
   have HT:Hid (zAg BT L=a*b):=by
    show zAg BT L=_
    have:=HV.o
    rwa [List.take_of_length_le (Nat.le_refl _),HVA.o,HVB.o] at this
   have hl2:=HL.o;rw [←hl2];with_reducible refine (trimL_n _ _ L _ w za (Nat.le_refl _) hA.rd hLt hbw HT.o).mono ?_
   rintro e w' ⟨A,c,rfl,hn,hb⟩;clear hl2;go_wp2;go_ret
   exact ⟨A,c,rfl,hn,hb⟩
theorem lms_one (w:World) (n:Nat):Lms (w.alloc (.cells #[.int .i64 (n:Int)] 3)) (some ⟨w.heap.size,0,none⟩) [n]:=fun _=>⟨w.heap.size,0,rfl,fun i hi=>by
 have:i=0:=by simp at hi;omega
 subst this;rw [cell_of_row _ w.heap.size _ _ _ _ (heap_alloc_new _ _)];rfl⟩
theorem smallL_c (A:Option Addr) (c a n:Nat) (w:World) (h:Lms w A (zAc BT a)) (hn:(zAc BT a).length≤400000000) (hm:n≤9999) :
  Calls Tryz.prog 122 #[lmV A c a,.int .i64 (n:Int)] w (zDg (a*n) w):=by
 have hb:Below w.heap.size w (w.alloc (.cells #[.int .i64 (n:Int)] 3)):=(Below.refl _ _).alloc (Nat.le_refl _) _
 have HT:Hid (Calls Tryz.prog 85 #[.slice (some ⟨w.heap.size,0,none⟩) 1 1] (w.alloc (.cells #[.int .i64 (n:Int)] 3)) (zDg n w)) :=
  trimL_n (some ⟨w.heap.size,0,none⟩) 1 [n] (w.alloc (.cells #[.int .i64 (n:Int)] 3)) w ze ze (lms_one w n) (WLt.cons qn WLt.nil) hb (n:=n) (zBK BT n)
 go_enter Tryz.func122,Tryz.ntmps122
 go_wp2_with fail
 with_reducible refine HT.o.mono ?_
 rintro e w1 ⟨A1,c1,rfl,h1,hb1⟩
 have hl1:(zAc BT n).length≤400000000:=by
  have:=zBg zAU (a:=n) (k:=1) qn;omega
 clear HT hb
 go_wp2_with fail
 with_reducible refine (timesL_c A A1 c c1 a n w1 (h.below hb1) h1.rd hn hl1).mono ?_
 rintro e w2 ⟨A2,c2,rfl,h2,hb2⟩;have HB:=zq (zAa hb1 hb2);clear hb1 hb2;go_wp2;go_ret
 exact ⟨A2,c2,rfl,h2,HB.o⟩
theorem or_u64n (x y:Nat) (hx:x<4294967296):y*4294967296 ||| x=x+4294967296*y:=by
 have:=Nat.two_pow_add_eq_or_of_lt (i:=32) (b:=x) za y;rw [Nat.mul_comm y,show (4294967296:Nat)=2 ^ 32 from rfl,←this,Nat.add_comm]
theorem or_u64 (x y:Nat) (hx:x<4294967296) (hy:y<4294967296):bits .or .u64 (x:Int) ((y:Int)*4294967296)=(x:Int)+4294967296*(y:Int):=by
 have e:(y:Int)*4294967296=((y*4294967296:Nat):Int):=by rw [Int.natCast_mul];rfl
 rw [e,u64_or_nat x (y*4294967296) za za,Nat.or_comm,or_u64n x y hx];omega
theorem or_u64' (x y:Nat) (hx:x<4294967296) (hy:y<4294967296):bits .or .u64 ((y:Int)*4294967296) (x:Int)=(x:Int)+4294967296*(y:Int):=by
 have e:(y:Int)*4294967296=((y*4294967296:Nat):Int):=by rw [Int.natCast_mul];rfl
 rw [e,u64_or_nat (y*4294967296) x za za,or_u64n x y hx];omega
theorem small_l (A:Option Addr) (c:Nat) (L:List Nat) (w:World) (h:Wds w A L) (hl:WLt B32 L) (hn:L.length≤1000000000) :
  Calls Tryz.prog 166 #[.slice A L.length c] w (zBq (.tuple #[.int .u64 (if L.length≤2 then ((zAg B32 L:Nat):Int) else 0),.bool (decide (L.length≤2))]) w):=by
 match L,h,hl,hn with
 | [],_,_,_ =>
  go_enter Tryz.func166,Tryz.ntmps166
  go_wp2;go_ret2
  exact zBq.mk rfl ⟨0,rfl⟩
 | [x],h,hl,_ =>
  obtain ⟨b,o,rfl,hb,hcl⟩:=h.at_ ze;have hx:=hl.head;rw [zCx] at hx;have hc0:=hcl 0 ze;rw [zBH] at hc0;simp only [List.getElem_cons_zero,Nat.add_zero] at hc0;clear hcl
  go_enter Tryz.func166,Tryz.ntmps166
  go_wp2;go_ret2
  exact zBq.mk qz ⟨0,rfl⟩
 | [x,y],h,hl,_ =>
  obtain ⟨b,o,rfl,hb,hcl⟩:=h.at_ ze;have hx:=hl.head;have hy:=hl.tail.head;rw [zCx] at hx hy;have hc0:=hcl 0 ze;have hc1:=hcl 1 ze;rw [zBH] at hc0 hc1;simp only [List.getElem_cons_zero,List.getElem_cons_succ,Nat.add_zero] at hc0 hc1;clear hcl
  go_enter Tryz.func166,Tryz.ntmps166
  go_wp2
  go_quiet (fail)
  go_wp2;go_ret2
  refine zBq.mk ?_ ⟨_,rfl⟩
  simp only [zAg];simp [or_u64 x y hx hy,zCx]
 | x::y::z::l,h,hl,hn =>
  have hk:(x::y::z::l).length=l.length+3:=rfl;have e0:¬ l.length+3≤2:=za;rw [hk] at hn ⊢;clear hk
  go_enter Tryz.func166,Tryz.ntmps166
  go_wp2;go_ret2
  exact zBq.mk rfl ⟨0,rfl⟩
def smV (n:Nat):Value:=.tuple #[.int .u64 (if (zAc B32 n).length≤2 then (n:Int) else 0),.bool (decide ((zAc B32 n).length≤2))]
theorem small_c (A:Option Addr) (c n:Nat) (w:World) (h:Nt w A c n) (hn:(zAc B32 n).length≤1000000000):Calls Tryz.prog 166 #[ntV A c n] w (zBq (smV n) w):=by
 have:=small_l A c (zAc B32 n) w h.rd (zAJ zAt n) hn;rw [zAl zAt] at this;exact this
theorem wval2 (n:Nat) (h:n<18446744073709551616):zAg B32 [n % 4294967296,n / 4294967296]=n∧WLt B32 [n % 4294967296,n / 4294967296]:=by
 refine ⟨?_,WLt.cons ?_ (WLt.cons ?_ WLt.nil)⟩
 ·simp [zAg,zCx];omega
 ·rw [zCx];omega
 ·rw [zCx];omega
theorem wds_new (w:World) (cs:Array Value) (L:List Nat) (h:cs.toList=L.map u32V):Wds (w.alloc (.cells cs 197)) (some ⟨w.heap.size,0,none⟩) L:=by
 intro _;refine ⟨w.heap.size,0,rfl,fun i hi=>?_⟩
 rw [cell_of_row _ _ _ _ _ _ (heap_alloc_new w _),←Array.getElem?_toList,h];simp [hi]
theorem trim2 (n:Nat) (w:World) (h:n<18446744073709551616):Calls Tryz.prog 172 #[.slice (some ⟨w.heap.size,0,none⟩) 2 2]
  (w.alloc (.cells #[.int .u32 ((n:Int) % 4294967296),.int .u32 ((n:Int) / 4294967296)] 197)) (zDX n w) :=
 trim_n _ 2 [n % 4294967296,n / 4294967296] _ w ze ze (wds_new w _ _ (by simp [u32V])) (wval2 n h).2 ((Below.refl _ _).alloc (Nat.le_refl _) _) (wval2 n h).1
theorem natOf_c (n:Nat) (w:World) (h:n<18446744073709551616):Calls Tryz.prog 120 #[.int .u64 (n:Int)] w (zDX n w):=by
 go_enter Tryz.func120,Tryz.ntmps120
 go_wp2_with fail
 with_reducible refine (trim2 n w h).mono ?_
 rintro e w' ⟨A,c,rfl,hn,hb⟩;go_wp2;go_ret
 exact ⟨A,c,rfl,hn,hb⟩
theorem one_words:zAc B32 1=[1]:=qf
theorem Nt.one (w:World):Nt (w.alloc (.cells #[.int .u32 1] 197)) (some ⟨w.heap.size,0,none⟩) 1 1 :=
 ⟨by rw [one_words];exact wds_new w _ _ rfl,by rw [one_words];decide⟩
theorem One_c (w:World):Calls Tryz.prog 79 #[] w (zDX 1 w):=by
 go_enter Tryz.func79,Tryz.ntmps79
 go_wp2;go_ret
 exact ⟨_,1,by unfold ntV;rw [one_words];rfl,Nt.one w,(Below.refl _ _).alloc (Nat.le_refl _) _⟩
def CmpRel (w:World) (l r:List Nat) (m:Nat) (i:Value) (wr:World):Prop :=
 (∃ n,wr=w.drewN n)∧m≤l.length∧(∃ z:Int,z=(m:Int) - 1∧i = .int .i64 z)∧l.drop m=r.drop m
theorem Cmp_l (A A2:Option Addr) (c c2:Nat) (l r:List Nat) (w:World) (h:Wds w A l) (h2:Wds w A2 r) (hl:WLt B32 l) (hr:WLt B32 r) (hn:l.length≤1000000000) (he:l.length=r.length) :
  Calls Tryz.prog 116 #[.slice A l.length c,.slice A2 l.length c2] w (zBq (.int .i64 (zDq (zAg B32 l) (zAg B32 r))) w):=by
 have HE:=zq he;clear he
 go_enter Tryz.func116,Tryz.ntmps116
 go_wp2
 go_loopg [5] l.length (CmpRel w l r)
 case atStart=>exact ⟨⟨0,rfl⟩,Nat.le_refl _,⟨_,rfl,rfl⟩,by rw [List.drop_of_length_le (Nat.le_refl _),List.drop_of_length_le (by rw [HE.o];omega)]⟩
 case round =>
  obtain ⟨⟨nd,hw⟩,hk,⟨z,hz,rfl⟩,hd⟩:=hrel;subst hw;have HD:=zq hd;clear hd
  rcases Nat.eq_zero_or_pos gk with h0 | h0
  ·subst h0
   obtain rfl:z = -1:=hz;go_wp2;go_ret
   refine zBq.mk ?_ ⟨_,rfl⟩
   have e:l=r:=by simpa using HD.o
   rw [e,zCM rfl]
   rfl
  ·obtain ⟨j,rfl⟩:∃ j,gk=j+1:=⟨gk - 1,za⟩
   obtain rfl:z=(j:Int):=za;clear hz;have hjr:j<r.length:=by have:=HE.o;omega
   obtain ⟨b,o,rfl,hb,hcl⟩:=h.at_ za;obtain ⟨b2,o2,rfl,hb2,hcl2⟩:=h2.at_ za;have hc0:=hcl j za;have hc1:=hcl2 j hjr;rw [zBH] at hc0 hc1;clear hcl hcl2;have hx:l[j]<B32:=hl.get j za;have hy:r[j]<B32:=hr.get j hjr
   by_cases hq:l[j]=r[j]
   ·have hqb:(((l[j]:Nat):Int) != ((r[j]:Nat):Int))=false:=by simp [hq]
    have HQ:=zq hq;clear hq;go_wp2
    go_quiet (fail)
    go_wp2
    go_roundg j
    case measure=>omega
    case rel =>
     refine ⟨⟨_,rfl⟩,za,⟨_,rfl,rfl⟩,?_⟩
     rw [List.drop_eq_getElem_cons za,List.drop_eq_getElem_cons hjr,HQ.o,HD.o]
   ·have hqb:(((l[j]:Nat):Int) != ((r[j]:Nat):Int))=true:=by simp;omega
    by_cases hlt:l[j]<r[j]
    ·have hltb:decide (l[j]<r[j])=true:=decide_eq_true hlt
     have HQ:=zq hlt;clear hq hlt;go_wp2
     go_quiet (fail)
     go_wp2
     go_quiet (fail)
     go_wp2;go_ret
     refine zBq.mk ?_ jd
     rw [zBF (wval_lt_of hl HE.o za hjr HD.o HQ.o)]
     rfl
    ·have hltb:decide (l[j]<r[j])=false:=decide_eq_false hlt
     have HQ:=zq (show r[j]<l[j] by omega)
     clear hq hlt;go_wp2
     go_quiet (fail)
     go_wp2
     go_quiet (fail)
     go_wp2;go_ret
     refine zBq.mk ?_ jd
     rw [zBB (wval_lt_of hr HE.o.symm hjr za HD.o.symm HQ.o)]
     rfl
theorem Cmp_len (A A2:Option Addr) (c c2 n m:Nat) (w:World) (hne:n≠m) :
  Calls Tryz.prog 116 #[.slice A n c,.slice A2 m c2] w (zBq (.int .i64 (zDq n m)) w):=by
 have hnb:((n:Int) != (m:Int))=true:=zg
 rcases Nat.lt_or_ge n m with hlt | hge
 ·have hltb:decide (n<m)=true:=decide_eq_true hlt
  have hv:zDq n m = -1:=zBF hlt;rw [hv];have HV:=zq hv;clear hv
  go_enter Tryz.func116,Tryz.ntmps116
  go_wp2;go_ret
  exact zBq.mk rfl ⟨0,rfl⟩
 ·have hltb:decide (n<m)=false:=decide_eq_false za
  have hv:zDq n m=1:=zBB za;rw [hv];have HV:=zq hv;clear hv
  go_enter Tryz.func116,Tryz.ntmps116
  go_wp2;go_ret
  exact zBq.mk rfl ⟨0,rfl⟩
theorem Cmp_c (A A2:Option Addr) (c c2 a b:Nat) (w:World) (h:Nt w A c a) (h2:Nt w A2 c2 b) (hn:(zAc B32 a).length≤1000000000) :
  Calls Tryz.prog 116 #[ntV A c a,ntV A2 c2 b] w (zBq (.int .i64 (zDq a b)) w):=by
 by_cases he:(zAc B32 a).length=(zAc B32 b).length
 ·have:=Cmp_l A A2 c c2 (zAc B32 a) (zAc B32 b) w h.rd h2.rd (zAJ zAt a) (zAJ zAt b) hn he
  rw [zAl zAt,zAl zAt] at this;unfold ntV;rw [←he];exact this
 ·have:=Cmp_len A A2 c c2 _ _ w he
  have e:zDq (zAc B32 a).length (zAc B32 b).length=zDq a b:=by
   rcases Nat.lt_or_ge (zAc B32 a).length (zAc B32 b).length with h1 | h1
   ·rw [zBF h1,zBF (lt_of_len zAt h1)]
   ·rw [zBB za,zBB (lt_of_len zAt za)]
  rw [e] at this;exact this
end Go.Proofs.YtieoifkdobcpiaaGreatDoor
