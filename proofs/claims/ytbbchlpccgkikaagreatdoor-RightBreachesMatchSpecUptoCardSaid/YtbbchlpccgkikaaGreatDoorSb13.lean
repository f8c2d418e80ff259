/- The reference's small functions over deeds; formed (printed by gen_rcb.py). -/
import Derived.Test.YtbbchlpccgkikaaGreatDoorSb12
set_option maxRecDepth 100000
set_option maxHeartbeats 8000000
namespace Go.Proofs.YtbbchlpccgkikaaGreatDoor
open Go.RowKit Dw
theorem zCP(n:Int)(w:World):Calls Tryz.prog 135 #[.int .i64 n] w (zAG (.bool (zCm n)) w):=by
 by_cases h1:0<=n
 ·by_cases h2:n<=200000
  ·have hv:zCm n=true:=by simp[zCm,h1,h2]
   rw[hv];have HV:=zq hv;clear hv
   go_enter Tryz.func135,Tryz.ntmps135;go_wp2;go_ret
   exact zAG.mk rfl rfl
  ·have hv:zCm n=false:=by simp[zCm,h2]
   rw[hv];have HV:=zq hv;have h2':200000<n:=za;clear hv h2
   go_enter Tryz.func135,Tryz.ntmps135;exact te4
 ·have hv:zCm n=false:=by simp[zCm,h1]
  rw[hv];have HV:=zq hv;have h1':n<0:=za;clear hv h1
  go_enter Tryz.func135,Tryz.ntmps135;go_wp2;go_ret
  exact zAG.mk rfl rfl
theorem givesR_c(k:Int)(w:World):Calls Tryz.prog 55 #[.int .i64 k] w (zAG (.bool (zAg k)) w):=by
 by_cases h1:k=2
 ·subst h1
  go_enter Tryz.func55,Tryz.ntmps55;go_wp2;go_ret
  exact zAG.mk rfl rfl
 ·by_cases h2:k=3
  ·subst h2
   go_enter Tryz.func55,Tryz.ntmps55;go_wp2;go_ret
   exact zAG.mk rfl rfl
  ·have b1:(k == 2)=false:=by simpa using h1
   have b2:(k == 3)=false:=by simpa using h2
   have HV:Hid ((zAg k)=false):=by show _=_;simp[zAg,h1,h2]
   clear h1 h2
   go_enter Tryz.func55,Tryz.ntmps55;exact tfv
theorem dividesR_c(k:Int)(w:World):Calls Tryz.prog 235 #[.int .i64 k] w (zAG (.bool (divB k)) w):=by
 by_cases h1:k=1
 ·subst h1
  go_enter Tryz.func235,Tryz.ntmps235;go_wp2;go_ret
  exact zAG.mk rfl rfl
 ·by_cases h2:k=5
  ·subst h2
   go_enter Tryz.func235,Tryz.ntmps235;go_wp2;go_ret
   exact zAG.mk rfl rfl
  ·have b1:(k == 1)=false:=by simpa using h1
   have b2:(k == 5)=false:=by simpa using h2
   have HV:Hid ((divB k)=false):=by show _=_;simp[divB,h1,h2]
   clear h1 h2
   go_enter Tryz.func235,Tryz.ntmps235;exact tfv
def GivesPlR(t:Bool)(w:World)(e:Ending)(w':World):Prop:=∃z:Int,e=.returned (.int .i64 z)/\decide (z<0)=!t/\w'=w
def PlRel(w:World)(us:List BA)(s:BA)(m:Nat)(i:Value)(wr:World):Prop:=
 wr=w/\∃k:Nat,k+m=us.length/\i=.int .i64 k/\∀j (h:j<us.length),j<k->us[j]≠s
theorem positionR_c(A:OA)(c:Nat)(us:List BA)(s:BA)(w:World)(hu:us.length<=1000000)(h:Strs w A us): Calls Tryz.prog 237 #[.slice A us.length c,.string s] w (GivesPlR (zCU us s) w):=by
 go_enter Tryz.func237,Tryz.ntmps237;go_wp2
 go_loopg[5] us.length (PlRel w us s)
 case atStart=>exact⟨rfl,0,za,rfl,fun j _ hj=>absurd hj za⟩
 case round =>
  obtain⟨rfl,k,hkm,rfl,hpre⟩:=hrel;have HM:=zq hkm;have HP:=zq hpre;have hk1:k<=us.length:=za;clear hkm hpre
  by_cases Y:k<us.length
  ·obtain⟨b,o,hA,I,hc⟩:=h.at_ za
   subst hA;have hc0:=hc k Y;clear hc
   by_cases he:us[k]=s
   ·have HF:Hid (zCU us s=true):=zBe.2 (he▸aH Y)
    have q1:=zAn he;clear he;go_wp2;go_ret
    exact⟨_,rfl,by rw[HF.o];simp,rfl⟩
   ·have HE:=zq he
    have q1:=zAp he;clear he;go_wp2
    go_roundg (gk-1)
    case measure=>have:=HM.o;omega
    case rel =>
     refine⟨rfl,k+1,yg,zi,fun j hj h9=>?_⟩
     rcases aI j k with h8|h8
     ·exact HP.o j hj h8
     ·obtain rfl:j=k:=by omega
      exact HE.o
  ·have HF:Hid (zCU us s=false):=memS_false.2 fun hm=>by
    obtain⟨j,hj,e⟩:=bD hm;exact HP.o j hj za e
   go_wp2;go_ret
   exact⟨_,rfl,by rw[HF.o];simp,rfl⟩
theorem need_eq(d:De):(!zAx d)=!(((((((((decide (d.th≠emp)&&!zAg d.kd)&&!decide (d.kd=1)) || ((decide (d.fr≠emp)&&!zAg d.kd)&&!decide (d.kd=5))) || ((((decide (d.to_≠emp) || decide (d.ar≠[])) || decide (d.us≠[])) || decide (d.en≠0))&&!zAg d.kd)) || ((decide (d.nu≠emp) || decide (d.de≠emp))&&!decide (d.kd=2))) || ((d.ex || d.sb)&&!decide (d.kd=3))) || (decide (d.sh≠[])&&!divB d.kd))) || (decide (d.ot≠emp)&&!decide (d.kd=4))):=by
 unfold zAx divB;generalize decide (d.th≠emp)=a1;generalize decide (d.fr≠emp)=a2;generalize decide (d.to_≠emp)=a3;generalize decide (d.ar≠[])=a4;generalize decide (d.us≠[])=a5;generalize decide (d.en≠0)=a6;generalize decide (d.nu≠emp)=a7;generalize decide (d.de≠emp)=a8;generalize decide (d.sh≠[])=a9;generalize decide (d.ot≠emp)=a10;generalize zAg d.kd=g;generalize decide (d.kd=1)=k1;generalize decide (d.kd=2)=k2;generalize decide (d.kd=3)=k3;generalize decide (d.kd=4)=k4;generalize decide (d.kd=5)=k5
 congr 1
 cases g<;>cases k1<;>cases k5<;>simp[Bool.and_comm,Bool.or_assoc,Bool.or_comm,Bool.or_left_comm]
theorem em_str(s:BA):(s=emp/\s.toList.isEmpty=true)\/(s≠emp/\s.toList.isEmpty=false):=by
 by_cases h:s=emp
 ·exact .inl ⟨h,zAr h⟩
 ·exact .inr ⟨h,zAq h⟩
theorem em_len{α:Type}(l:List α):(l=[]/\l.length=0)\/(l≠[]/\(0:Int)<(l.length:Int)):=by
 by_cases h:l=[]
 ·exact .inl ⟨h,by subst h;rfl⟩
 ·exact .inr ⟨h,len_pos1 h⟩
theorem em_num(k n:Int):(k=n/\(k == n)=true/\(k != n)=false)\/(k≠n/\(k == n)=false/\(k != n)=true):=by
 by_cases h:k=n
 ·exact .inl ⟨h,zu,zu⟩
 ·exact .inr ⟨h,zu,zu⟩
theorem em_rat(nu de:BA):((nu=emp/\de=emp)/\pbB nu de=false)\/((¬nu=emp\/¬de=emp)/\pbB nu de=true):=by
 by_cases h:nu=emp/\de=emp
 ·exact .inl ⟨h,pb_zero h.1 h.2⟩
 ·exact .inr ⟨Classical.not_and_iff_not_or_not.1 h,pb_one h⟩
theorem formedR_c(d:De)(w:World)(hl:d.ar.length<=140737488355328/\d.us.length<=140737488355328/\d.sh.length<=140737488355328): Calls Tryz.prog 170 #[deV d] w (zAf (.bool (!zAx d)) w):=by
 rw[need_eq];obtain⟨l1,l2,l3⟩:=hl;have G:Hid (Bx (w.alloc (.cells (deC d) 126)) w.heap.size (deC d) 126):=Bx.new _ _ _;have HB0:Hid (Below w.heap.size w (w.alloc (.cells (deC d) 126))):=(aR w.heap.size w).alloc (aK _) _;have HG:=zq (fun W=>givesR_c d.kd W);have HD:=zq (fun W=>dividesR_c d.kd W);obtain⟨W,hW⟩:∃W,W=w.alloc (.cells (deC d) 126):=⟨_,rfl⟩;rw[<-hW]at G HB0;have x2:=G.o.c 2 rfl;have xs:=G.o.lt
 go_enter Tryz.func170,Tryz.ntmps170;(go_upto_region 2 with fail);rw[<-hW];clear hW x2 xs
 go_cut[4] (fun v wx=>v=.bool ((decide (d.th≠emp)&&!zAg d.kd)&&!decide (d.kd=1))/\Below w.heap.size w wx/\Bx wx w.heap.size (deC d) 126)
 case first =>
  have x3:=G.o.c 3 rfl;have xs:=G.o.lt
  cases hg:zAg d.kd<;>(rcases em_str d.th with ⟨t1,t1b⟩|⟨t1,t1b⟩)<;>(rcases em_num d.kd 1 with ⟨k1,k1b,k1c⟩|⟨k1,k1b,k1c⟩)
  all_goals
   rw[hg]at HG;have Hhg:=zq hg;have Ht1:=zq t1;have Hk1:=zq k1;clear hg t1 k1;go_wp2_with fail
   try((with_reducible refine(HG.o _).mono ?_);rintro e w1⟨rfl,rfl⟩;go_wp2_with fail)
   go_meet;exact⟨zBy (by simp[Hhg.o,Ht1.o,Hk1.o]),HB0.o,G.o⟩
 case rest =>
  obtain⟨rfl,D,hx2⟩:=hcut;have HB1:=zq D;have X:=zq hx2;clear D hx2 HB0 G;generalize hgen:((decide (d.th≠emp)&&!zAg d.kd)&&!decide (d.kd=1))=bad1;have HE1:=zq hgen;clear hgen;go_upto_region 3 with fail
  go_cut[4] (fun v wx=>v=.bool (bad1 || ((decide (d.fr≠emp)&&!zAg d.kd)&&!decide (d.kd=5)))/\Below w.heap.size w wx/\Bx wx w.heap.size (deC d) 126)
  case first =>
   have x4:=X.o.c 4 rfl;have xs:=X.o.lt
   cases bad1<;>cases hg:zAg d.kd<;>(rcases em_str d.fr with ⟨t1,t1b⟩|⟨t1,t1b⟩)<;>(rcases em_num d.kd 5 with ⟨k1,k1b,k1c⟩|⟨k1,k1b,k1c⟩)
   all_goals
    rw[hg]at HG;have Hhg:=zq hg;have Ht1:=zq t1;have Hk1:=zq k1;clear hg t1 k1;go_wp2_with fail
    try((with_reducible refine(HG.o _).mono ?_);rintro e w1⟨rfl,rfl⟩;go_wp2_with fail)
    go_meet;exact⟨zBy (by simp[Hhg.o,Ht1.o,Hk1.o]),HB1.o,X.o⟩
  case rest =>
   obtain⟨rfl,D,hx2⟩:=hcut;have HB2:=zq D;have HX2:=zq hx2;clear D hx2 HB1 X;generalize hgen:(bad1 || ((decide (d.fr≠emp)&&!zAg d.kd)&&!decide (d.kd=5)))=bad2;have HE2:=zq hgen;clear hgen;go_upto_region 4 with fail
   go_cut[4] (fun v wx=>v=.bool (bad2 || ((((decide (d.to_≠emp) || decide (d.ar≠[])) || decide (d.us≠[])) || decide (d.en≠0))&&!zAg d.kd))/\Below w.heap.size w wx/\Bx wx w.heap.size (deC d) 126)
   case first =>
    have x5:=HX2.o.c 5 rfl;have x10:=HX2.o.c 10 rfl;have x11:=HX2.o.c 11 rfl;have x13:=HX2.o.c 13 rfl;have xs:=HX2.o.lt
    cases bad2<;>cases hg:zAg d.kd<;>(rcases em_str d.to_ with ⟨t1,t1b⟩|⟨t1,t1b⟩)<;>(rcases em_len d.ar with ⟨t2,t2b⟩|⟨t2,t2b⟩)<;>(rcases em_len d.us with ⟨t3,t3b⟩|⟨t3,t3b⟩)<;>(rcases em_num d.en 0 with ⟨t4,t4b,t4c⟩|⟨t4,t4b,t4c⟩)
    all_goals
     rw[hg]at HG;have Hhg:=zq hg;have Ht1:=zq t1;have Ht2:=zq t2;have Ht3:=zq t3;have Ht4:=zq t4;clear hg t1 t2 t3 t4;go_wp2_with fail
     try((with_reducible refine(HG.o _).mono ?_);rintro e w1⟨rfl,rfl⟩;go_wp2_with fail)
     go_meet;exact⟨zBy (by simp[Hhg.o,Ht1.o,Ht2.o,Ht3.o,Ht4.o]),HB2.o,HX2.o⟩
   case rest =>
    obtain⟨rfl,D,hx2⟩:=hcut;have HB3:=zq D;have HX3:=zq hx2;clear D hx2 HB2 HX2;generalize hgen:(bad2 || ((((decide (d.to_≠emp) || decide (d.ar≠[])) || decide (d.us≠[])) || decide (d.en≠0))&&!zAg d.kd))=bad3;have HE3:=zq hgen;clear hgen;go_upto_region 5 with fail
    go_cut[4] (fun v wx=>v=.bool (bad3 || ((decide (d.nu≠emp) || decide (d.de≠emp))&&!decide (d.kd=2)))/\Below w.heap.size w wx/\Bx wx w.heap.size (deC d) 126)
    case first =>
     have x6:=HX3.o.c 6 rfl;have x7:=HX3.o.c 7 rfl;have xs:=HX3.o.lt;have hnr:=neqRat d.nu d.de
     cases bad3<;>(rcases em_rat d.nu d.de with ⟨t1,t1b⟩|⟨t1,t1b⟩)<;>(rcases em_num d.kd 2 with ⟨k1,k1b,k1c⟩|⟨k1,k1b,k1c⟩)
     all_goals
      rw[t1b]at hnr;have Ht1:=zq t1;have Hk1:=zq k1;clear t1 k1;(go_wp2_with fail);go_meet;exact⟨zBy (by simp[Ht1.o,Hk1.o]),HB3.o,HX3.o⟩
    case rest =>
     obtain⟨rfl,D,hx2⟩:=hcut;have HB4:=zq D;have HX4:=zq hx2;clear D hx2 HB3 HX3;generalize hgen:(bad3 || ((decide (d.nu≠emp) || decide (d.de≠emp))&&!decide (d.kd=2)))=bad4;have HE4:=zq hgen;clear hgen;go_upto_region 6 with fail
     go_cut[4] (fun v wx=>v=.bool (bad4 || ((d.ex || d.sb)&&!decide (d.kd=3)))/\Below w.heap.size w wx/\Bx wx w.heap.size (deC d) 126)
     case first =>
      have x8:_=some (Value.bool d.ex):=HX4.o.c 8 rfl;have x9:_=some (Value.bool d.sb):=HX4.o.c 9 rfl;have xs:=HX4.o.lt
      cases bad4<;>cases t1:d.ex<;>cases t2:d.sb<;>(rcases em_num d.kd 3 with ⟨k1,k1b,k1c⟩|⟨k1,k1b,k1c⟩)
      all_goals
       rw[t1]at x8;rw[t2]at x9;have Ht1:=zq t1;have Ht2:=zq t2;have Hk1:=zq k1;clear t1 t2 k1;(go_wp2_with fail);go_meet;exact⟨zBy (by simp[Ht1.o,Ht2.o,Hk1.o]),HB4.o,HX4.o⟩
     case rest =>
      obtain⟨rfl,D,hx2⟩:=hcut;have HB5:=zq D;have HX5:=zq hx2;clear D hx2 HB4 HX4;generalize hgen:(bad4 || ((d.ex || d.sb)&&!decide (d.kd=3)))=bad5;have HE5:=zq hgen;clear hgen;go_upto_region 7 with fail
      go_cut[4] (fun v wx=>v=.bool (bad5 || (decide (d.sh≠[])&&!divB d.kd))/\Below w.heap.size w wx/\Bx wx w.heap.size (deC d) 126)
      case first =>
       have x14:=HX5.o.c 14 rfl;have xs:=HX5.o.lt
       cases bad5<;>cases hg:divB d.kd<;>(rcases em_len d.sh with ⟨t1,t1b⟩|⟨t1,t1b⟩)
       all_goals
        rw[hg]at HD;have Hhg:=zq hg;have Ht1:=zq t1;clear hg t1;go_wp2_with fail
        try((with_reducible refine(HD.o _).mono ?_);rintro e w1⟨rfl,rfl⟩;go_wp2_with fail)
        go_meet;exact⟨zBy (by simp[Hhg.o,Ht1.o]),HB5.o,HX5.o⟩
      case rest =>
       obtain⟨rfl,D,hx2⟩:=hcut;have HB6:=zq D;have HX6:=zq hx2;clear D hx2 HB5 HX5;generalize hgen:(bad5 || (decide (d.sh≠[])&&!divB d.kd))=bad6;have HE6:=zq hgen;clear hgen;go_upto_region 8 with fail
       go_cut[4] (fun v wx=>v=.bool (bad6 || (decide (d.ot≠emp)&&!decide (d.kd=4)))/\Below w.heap.size w wx/\Bx wx w.heap.size (deC d) 126)
       case first =>
        have x15:=HX6.o.c 15 rfl;have xs:=HX6.o.lt
        cases bad6<;>(rcases em_str d.ot with ⟨t1,t1b⟩|⟨t1,t1b⟩)<;>(rcases em_num d.kd 4 with ⟨k1,k1b,k1c⟩|⟨k1,k1b,k1c⟩)
        all_goals
         have Ht1:=zq t1;have Hk1:=zq k1;clear t1 k1;(go_wp2_with fail);go_meet;exact⟨zBy (by simp[Ht1.o,Hk1.o]),HB6.o,HX6.o⟩
       case rest =>
        obtain⟨rfl,D,hx2⟩:=hcut;have HB7:=zq D;have HX7:=zq hx2;clear D hx2 HB6 HX6;generalize hgen:(bad6 || (decide (d.ot≠emp)&&!decide (d.kd=4)))=bad7;have HE7:=zq hgen;clear hgen;go_wp2;go_ret
        exact zAf.mk (zBy (by rw[<-HE7.o,<-HE6.o,<-HE5.o,<-HE4.o,<-HE3.o,<-HE2.o,<-HE1.o])) HB7.o
end Go.Proofs.YtbbchlpccgkikaaGreatDoor
