/- The reference's CheckRatio answers zDg. The reference's checkShares. -/
import Derived.Test.YtbbchlpccgkikaaGreatDoorSb11
set_option maxRecDepth 100000
set_option maxHeartbeats 8000000
namespace Go.Proofs.YtbbchlpccgkikaaGreatDoor
open Go.RowKit Dw
theorem negB_list{s:BA}(h:zDf s=true):∃c t,s.data.toList=c::t/\c.toNat=45/\(zAU s).data.toList=t:=by
 have h':=h;unfold zDf at h';simp only[eE,bX]at h'
 cases hs:s.data.toList with
 |nil =>
  have:=Lib.size_eq s;rw[hs]at this;simp only[aY]at this;omega
 |cons c t =>
  refine⟨c,t,rfl,by rw[hs]at h';exact h'.2,?_⟩
  unfold zAU absL;rw[aF h,hs]
  rfl
theorem numB_neg{s:BA}(h:zDf s=true):zCG s=false:=by
 obtain⟨c,t,h1,h2,_⟩:=negB_list h;unfold zCG;rw[h1];have:dgB c=false:=by unfold dgB;rw[h2];rfl
 simp[this]
theorem ba_ext{a b:BA}(h:a.data.toList=b.data.toList):a=b:=by
 have h2:=bE List.toArray h;simp only[Array.toArray_toList]at h2;exact bE ByteArray.mk h2
theorem abs_zero{s:BA}(h:zDf s=true):zAU s=zCH↔s=m0:=by
 obtain⟨c,t,h1,h2,h3⟩:=negB_list h;have hc:c=45:=UInt8.toNat_inj.1 h2;subst hc
 constructor
 ·intro e
  refine ba_ext ?_;rw[e]at h3;rw[h1,<-h3]
  rfl
 ·intro e
  refine ba_ext ?_;rw[e]at h1
  have h4:t=[48]:=by
   have:m0.data.toList=[45,48]:=rfl;rw[this]at h1
   injection h1 with _ h1
   exact h1.symm
  rw[h3,h4]
  rfl
theorem abs_size{s:BA}(h:zDf s=true):(zAU s).size+1=s.size:=by
 obtain⟨c,t,h1,_,h3⟩:=negB_list h;rw[Lib.size_eq,Lib.size_eq,h1,h3]
 rfl
theorem chkRatioR_c(nu de:BA)(w:World)(hz:nu.size<=9223372036854775807)(hz2:de.size<=9223372036854775807): Calls Tryz.prog 236 #[.agg (rtC nu de)] w (zAf (.int .i64 (zDg nu de)) w):=by
 cases J:zDf nu with
 |false =>
  obtain⟨hc,he⟩:=negB_no J;have e:zDg nu de=ratR nu de:=by unfold zDg ratR;rw[he,J];simp
  rw[e];refine chkRatR_s nu de nu w hz hz2 hz (.inl ?_)
  by_cases h1:1<nu.size
  ·rcases hc with h|⟨h,I⟩
   ·omega
   ·exact .inr (.inl ⟨h,h1,I h,rfl⟩)
  ·exact .inl ⟨h1,rfl⟩
 |true =>
  obtain⟨h0,I,he⟩:=negB_yes J;have hs:=abs_size J;have h3:zCG nu=false:=numB_neg J
  by_cases h1:1<nu.size
  ·by_cases hm:nu=m0
   ·have e:zDg nu de=ratR nu de:=by
     unfold zDg ratR;rw[aF (.inr (.inl ⟨J,(abs_zero J).2 hm⟩)),aF (.inl h3)]
    rw[e];exact chkRatR_s nu de nu w hz hz2 hz (.inl (.inr (.inr ⟨h0,h1,I h0,hm,rfl⟩)))
   ·have h4:zAU nu≠zCH:=fun h=>hm ((abs_zero J).1 h)
    have e:zDg nu de=ratR (zAU nu) de:=by
     unfold zDg ratR;simp[h4]
    rw[e];exact chkRatR_s nu de (zAU nu) w hz hz2 za (.inr ⟨h0,h1,I h0,hm,he⟩)
  ·have h4:zCG (zAU nu)=false:=numB_small za
   have e:zDg nu de=ratR nu de:=by
    unfold zDg ratR;rw[aF (.inl h4),aF (.inl h3)]
   rw[e];exact chkRatR_s nu de nu w hz hz2 hz (.inl (.inl ⟨h1,rfl⟩))
theorem Lt.setN{w:World}{A:OA}{c n R:Nat}{T:TypeId}{a b d:Value}(h:Lt w A c n)(I:Bx w R #[a,b,d] T)(h0:∀n,a≠.int .i64 n)(h1:∀n,b≠.int .i64 n)(h2:∀n,d≠.int .i64 n)(ng:Bool)(A1:OA)(n1 c1:Nat)(Z:OA)(n2 c2:Nat):Lt (((w.setCell ⟨R,0,none⟩ (.bool ng)).setCell ⟨R,1,none⟩ (.slice A1 n1 c1)).setCell ⟨R,2,none⟩ (.slice Z n2 c2)) A c n:=by
 refine⟨?_,h.cap⟩
 have k0:=h.rd.setR I (no3 h0 h1 h2) 0 (.bool ng);have b1:=Bx.set0 I (.bool ng);have k1:=k0.setR b1 (no3 ze h1 h2) 1 (.slice A1 n1 c1);have b2:=Bx.set1 b1 (.slice A1 n1 c1);exact k1.setR b2 (no3 ze ze h2) 2 _
theorem Lt.alloc{w:World}{A:OA}{c n:Nat}(h:Lt w A c n)(o:Obj):Lt (w.alloc o) A c n:=h.below ((aR _ _).alloc (aK _) o)
structure StT (w:World) (d:De) (g:Nat) (A:OA) (c:Nat) (Z:OA) (c2:Nat) (pr:Nat×Nat) (W:World):Prop where
 bel:Below w.heap.size w W
 box:Bx W w.heap.size (deC d) 126
 sum:Bx W g (nuC false A c pr.1 Z c2 pr.2) 202
 n1:Lt W A c pr.1
 n2:Lt W Z c2 pr.2
 gt:w.heap.size<g
section
variable {w W W':World} {d:De} {g:Nat} {A Z:OA} {c c2:Nat} {pr:Nat×Nat}
theorem StT.below(h:StT w d g A c Z c2 pr W)(I:Below W.heap.size W W'):StT w d g A c Z c2 pr W':=
 ⟨zAa h.bel I,h.box.below I,h.sum.below I,h.n1.below I,h.n2.below I,h.gt⟩
theorem StT.drewN(h:StT w d g A c Z c2 pr W)(n:Nat):StT w d g A c Z c2 pr (W.drewN n):=
 ⟨zAb h.bel n,h.box,h.sum,h.n1.drewN n,h.n2.drewN n,h.gt⟩
theorem StT.alloc(h:StT w d g A c Z c2 pr W)(o:Obj):StT w d g A c Z c2 pr (W.alloc o):=
 h.below ((aR _ _).alloc (aK _) o)
theorem StT.store(h:StT w d g A c Z c2 pr W){A' A2':OA}{c' c2':Nat}{pr':Nat×Nat}(h1:Lt W A' c' pr'.1)(h2:Lt W A2' c2' pr'.2): StT w d g A' c' A2' c2' pr' (((W.setCell ⟨g,0,none⟩ (.bool false)).setCell ⟨g,1,none⟩ (.slice A' (zAc BT pr'.1).length c')).setCell ⟨g,2,none⟩ (.slice A2' (zAc BT pr'.2).length c2')):=by
 have hg:=h.gt;refine⟨((h.bel.setCell zg _).setCell zg _).setCell zg _,((h.box.far zg _).far zg _).far zg _,?_,h1.setN h.sum ze ze ze _ _ _ _ _ _ _,h2.setN h.sum ze ze ze _ _ _ _ _ _ _,hg⟩
 exact((h.sum.set 0 _).set 1 _).set 2 _
end
theorem words_dec5{s:BA}(h:s.data.toList.all dgB=true)(hs:s.size<=2000):(zAc BT (zAy s)).length<=500:=by
 have h1:zAy s<10^s.data.toList.length:=decV_lt fun c hc=>by
  have:=(zDJ c).1 (List.all_eq_true.1 h c hc);omega
 have h2:s.data.toList.length<=2000:=by rw[<-Lib.size_eq];exact hs
 obtain⟨q,hq⟩:∃q,q=500:=⟨_,rfl⟩;rw[<-hq];refine zBa zAR (aB h1 ?_);rw[BT_eq,show(10000:Nat)=10^4 from rfl,<-Nat.pow_mul];exact dI zd za
def LenT(p:Nat×Nat)(k:Nat):Prop:=(zAc BT p.1).length<=1001*k+1/\(zAc BT p.2).length<=1001*k+1/\0<p.2
theorem lenT_succ{p:Nat×Nat}{k n d:Nat}(h:LenT p k)(J:(zAc BT n).length<=500)(hd:(zAc BT d).length<=500)(hd0:0<d):LenT (addP p (n,d)) (k+1):=by
 obtain⟨h1,h2,h3⟩:=h;have e1:=zDD p.1 d;have e2:=zDD n p.2;have e3:=len_addT (p.1*d) (n*p.2);have e4:=zDD p.2 d;have hp:0<p.2*d:=dZ h3 hd0;have f1:=zAw zAR (Nat.div_le_self (p.1*d+n*p.2) (Nat.gcd (p.1*d+n*p.2) (p.2*d)));have f2:=zAw zAR (Nat.div_le_self (p.2*d) (Nat.gcd (p.1*d+n*p.2) (p.2*d)));refine⟨?_,?_,Nat.div_pos (Nat.le_of_dvd hp (Nat.gcd_dvd_right _ _)) (eI _ hp)⟩
 ·show(zAc BT ((p.1*d+n*p.2)/Nat.gcd (p.1*d+n*p.2) (p.2*d))).length<=_
  omega
 ·show(zAc BT (p.2*d/Nat.gcd (p.1*d+n*p.2) (p.2*d))).length<=_
  omega
theorem plusN_ff(n d m e:Nat):zDY false n d false m e=(false,addP (n,d) (m,e)):=by
 unfold zDY addP zBX;simp
def RelT(w:World)(d:De)(g:Nat)(m:Nat)(i:Value)(wr:World):Prop:=
 ∃A c Z c2 k,StT w d g A c Z c2 (zCF d.sh k) wr/\LenT (zCF d.sh k) k/\k+m=d.sh.length/\i=.int .i64 (k:Nat)/\∀j,j<k->zAS d.sh j=none
def endT(d:De):Int:=if (zCF d.sh d.sh.length).2<(zCF d.sh d.sh.length).1\/(d.kd=5/\(zCF d.sh d.sh.length).1≠(zCF d.sh d.sh.length).2) then 1 else 0
theorem shF_hit{d:De}{k:Nat}{f:Int}(hne:d.sh≠[])(h20:¬20<d.sh.length)(hk:k<d.sh.length)(hp:∀j,j<k->zAS d.sh j=none)(hf:zAS d.sh k=some f):shF d.kd d.sh=f:=by
 unfold shF;rw[aO hne,aO h20,zAN hk hp hf]
theorem shF_none{d:De}(hne:d.sh≠[])(h20:¬20<d.sh.length)(hp:∀j,j<d.sh.length->zAS d.sh j=none):shF d.kd d.sh=endT d:=by
 unfold shF endT;rw[aO hne,aO h20,zBi hp]
theorem posB_no{nu:BA}(h:posB nu=false):zDf nu=true\/(zDf nu=false/\zAy (zAU nu)=0):=by
 unfold posB at h
 cases J:zDf nu<;>simp_all
theorem posB_yes{nu:BA}(h:posB nu=true):zDf nu=false/\zAy (zAU nu)≠0:=by
 unfold posB at h
 cases J:zDf nu<;>simp_all
theorem checkSharesR_c(d:De)(w:World)(hd:DeOk w d):Calls Tryz.prog 172 #[deV d] w (zAf (.int .i64 (shF d.kd d.sh)) w):=by
 generalize C:shF d.kd d.sh=res;have HR:=zq C;clear C;have HD:=zq hd;clear hd;have HX:Hid (Bx (w.alloc (.cells (deC d) 126)) w.heap.size (deC d) 126):=Bx.new _ _ _;have HB:Hid (Below w.heap.size w (w.alloc (.cells (deC d) 126))):=(aR w.heap.size w).alloc (aK _) _;obtain⟨W,hW⟩:∃W,W=w.alloc (.cells (deC d) 126):=⟨_,rfl⟩;rw[<-hW]at HX HB;have hsz:w.heap.size<W.heap.size:=HX.o.lt
 go_enter Tryz.func172,Tryz.ntmps172
 by_cases h0:d.sh.length=0
 ·have HS:Hid (res=9):=by
   show _=_
   rw[<-HR.o];unfold shF;have:d.sh=[]:=List.length_eq_zero_iff.1 h0;simp[this]
  exact tfb
 ·by_cases h20:20<d.sh.length
  ·have HS:Hid (res=2):=by
    show _=_
    rw[<-HR.o];unfold shF;have:d.sh≠[]:=fun e=>h0 (by rw[e];rfl)
    simp[this,h20]
   exact tfb
  ·have hne:d.sh≠[]:=fun e=>h0 (by rw[e];rfl)
   have HH:Hid (∀k f,k<d.sh.length->(∀j,j<k->zAS d.sh j=none)->zAS d.sh k=some f->res=f):=by
    intro k f hk hp hf;rw[<-HR.o];exact shF_hit hne h20 hk hp hf
   have HN:Hid ((∀j,j<d.sh.length->zAS d.sh j=none)->endT d=res):=by
    intro hp;rw[<-HR.o];exact(shF_none hne h20 hp).symm
   have x14:=HX.o.c 14 rfl;(go_wp2_with fail);rw[<-hW];(with_reducible refine(Int_0 W).mono ?_);rintro e w1⟨A1,c1,Z,c2,rfl,hn1,hn2,hb1⟩;have X:=zq (HX.o.below hb1);have HB1:=zq (zAa HB.o hb1);have hs1:=hb1.size
   have M:Hid (StT w d w1.heap.size A1 c1 Z c2 (zCF d.sh 0) (w1.alloc (.cells (nuC false A1 c1 0 Z c2 1) 202))):=
    ⟨HB1.o.alloc za _,X.o.alloc _,Bx.new _ _ _,hn1.alloc _,hn2.alloc _,za⟩
   have y14:=X.o.c 14 rfl;have hlt1:=X.o.lt;clear hb1 x14;go_wp2;obtain⟨b,o,hA,hb0,hc0⟩:=HD.o.shs.at_ za;have HC0:=zq hc0;clear hc0;rw[hA]
   go_loopg[4] d.sh.length (RelT w d w1.heap.size)
   case atStart=>exact⟨A1,c1,Z,c2,0,M.o,⟨ja,ja,ja⟩,za,rfl,fun j hj=>absurd hj za⟩
   case round =>
    clear M HB1 X hn1 hn2 y14 hs1 hW HX HB hsz;obtain⟨A3,c3,A4,c4,k,hst,hle,hkm,rfl,hpre⟩:=hrel;have M:=zq hst;have HLE:=zq hle;have HKM:=zq hkm;have HP:=zq hpre;have hkl:k<=d.sh.length:=za;clear hst hle hkm hpre;have yd:wr.cell? ⟨w.heap.size,14,none⟩=some (.slice (some ⟨b,o,none⟩) d.sh.length d.shc):=by rw[<-hA];exact M.o.box.c 14 rfl
    have ye:=M.o.box.lt
    by_cases Y:k<d.sh.length
    ·have hc:∀i (h:i<d.sh.length),wr.cell? ⟨b,o+i*3,none⟩=some (.string (d.sh[i]).pt)/\wr.cell? ⟨b,o+i*3+1,none⟩=some (.string (d.sh[i]).nu)/\wr.cell? ⟨b,o+i*3+2,none⟩=some (.string (d.sh[i]).de):=
      fun i h=>⟨(M.o.bel.cell hb0).trans (HC0.o i h).1,(M.o.bel.cell hb0).trans (HC0.o i h).2.1,(M.o.bel.cell hb0).trans (HC0.o i h).2.2⟩
     have HCL:=zq hc;obtain⟨s0,s1,s2⟩:=hc k Y;clear hc;have hsz1:=(HD.o.shz _ (aH Y)).1;have hz1:=(HD.o.shz _ (aH Y)).2.1;have hz2:=(HD.o.shz _ (aH Y)).2.2;(go_wp2_with fail);(with_reducible refine(zBr d.sh[k].pt _ hsz1).mono ?_);rintro e w2⟨rfl,rfl⟩
     cases hnm:zBw d.sh[k].pt with
     |false =>
      have HS:Hid (res=5):=HH.o k 5 Y HP.o (by unfold zAS;rw[zEl Y,aF hnm]);clear hnm;exact tfj
     |true =>
      have HNM:=zq hnm;clear hnm;have HPV:Hid (∀(h:0<k),wr.cell? ⟨b,o+(k-1)*3,none⟩=some (.string (d.sh[k-1]'(by omega)).pt)):=fun h=>(HCL.o (k-1) za).1
      by_cases hk0:0<k
      case' pos =>
       have zp:=HPV.o hk0;have hd:decide ((0:Int)<(k:Int))=true:=zg;have hd0:decide ((0:Int)<=(k:Int)-1)=true:=zg
       cases hle:sle d.sh[k].pt (d.sh[k-1]'(by omega)).pt
       case' true =>
        have HS:Hid (res=8):=HH.o k 8 Y HP.o yu;unfold sle at hle;clear HPV HCL;go_wp2;go_quiet(fail);go_wp2;go_ret
        exact zAf.mk (zBF HS.o.symm) (zAb M.o.bel _)
       case' false =>
        have HF:Hid (zAS d.sh k=shRest d.sh[k]):=by
         exact tb6
        unfold sle at hle
      case' neg =>
       have hd:decide ((0:Int)<(k:Int))=false:=zg
       have HF:Hid (zAS d.sh k=shRest d.sh[k]):=by
        exact tdf
      all_goals
       clear HPV HCL HNM;go_wp2;go_quiet(fail);(go_wp2_with fail);(with_reducible refine(chkRatioR_c d.sh[k].nu d.sh[k].de _ hz1 hz2).mono ?_);rintro e w3⟨rfl,hb3⟩;have HST3:=zq ((M.o.drewN nq).below hb3);clear yd ye s0 s1 s2 hb3 M;have yd:w3.cell? ⟨w.heap.size,14,none⟩=some (.slice (some ⟨b,o,none⟩) d.sh.length d.shc):=by rw[<-hA];exact HST3.o.box.c 14 rfl
       have ye:=HST3.o.box.lt;have s1:w3.cell? ⟨b,o+k*3+1,none⟩=some (.string (d.sh[k]).nu):=(HST3.o.bel.cell hb0).trans (HC0.o k Y).2.1;have s2:w3.cell? ⟨b,o+k*3+2,none⟩=some (.string (d.sh[k]).de):=(HST3.o.bel.cell hb0).trans (HC0.o k Y).2.2
       by_cases hr:zDg d.sh[k].nu d.sh[k].de=0
       case' neg =>
        have HS:Hid (res=zDg d.sh[k].nu d.sh[k].de):=HH.o k _ Y HP.o (by rw[HF.o];unfold shRest;rw[aF hr]);have hrb:(zDg d.sh[k].nu d.sh[k].de == 0)=false:=by simpa using hr
        have hrb2:(zDg d.sh[k].nu d.sh[k].de != 0)=true:=by simpa using hr
        clear hr;go_wp2;go_ret
        exact zAf.mk (zBF HS.o.symm) HST3.o.bel
       have HF2:Hid (zAS d.sh k=if posB d.sh[k].nu=false then some 1 else none):=by
        show _=_
        rw[HF.o];unfold shRest;rw[aO (by rw[hr];decide)]
       obtain⟨q1,q2,q3,q4,q5⟩:=zCn hr;have HLN:Hid ((zAc BT (zAy (zAU d.sh[k].nu))).length<=500):=words_dec5 (zAQ q1).1 q4;have HLD:Hid ((zAc BT (zAy d.sh[k].de)).length<=500):=words_dec5 (zAQ q2).1 q5;have HDP:Hid (0<zAy d.sh[k].de):=den_pos q2 q3;have HFR:=zq (Of_cT d.sh[k].nu d.sh[k].de w3 (zAQ q1).1 q4 (zAQ q2).1 q5);rw[hr];clear q1 q2 q3 q4 q5 hr HF;(go_wp2_with fail);(with_reducible refine HFR.o.mono ?_);rintro e w4⟨A5,c5,A6,c6,rfl,h5,h6,hb4⟩;have HST4:=zq (HST3.o.below hb4);clear yd ye s1 s2 hb4 HST3 HFR;have HXB:Hid (Bx (w4.alloc (.cells (nuC (zDf d.sh[k].nu) A5 c5 (zAy (zAU d.sh[k].nu)) A6 c6 (zAy d.sh[k].de)) 202)) w4.heap.size (nuC (zDf d.sh[k].nu) A5 c5 (zAy (zAU d.sh[k].nu)) A6 c6 (zAy d.sh[k].de)) 202):=Bx.new _ _ _;have a:=zq (HST4.o.alloc (.cells (nuC (zDf d.sh[k].nu) A5 c5 (zAy (zAU d.sh[k].nu)) A6 c6 (zAy d.sh[k].de)) 202));have H5:=zq (h5.alloc (.cells (nuC (zDf d.sh[k].nu) A5 c5 (zAy (zAU d.sh[k].nu)) A6 c6 (zAy d.sh[k].de)) 202));have H6:=zq (h6.alloc (.cells (nuC (zDf d.sh[k].nu) A5 c5 (zAy (zAU d.sh[k].nu)) A6 c6 (zAy d.sh[k].de)) 202));clear h5 h6 HST4
       cases hp:posB d.sh[k].nu with
       |false =>
        have HS:Hid (res=1):=HH.o k 1 Y HP.o (by rw[HF2.o,aF hp])
        rcases posB_no hp with hng|⟨hng,hv0⟩
        ·rw[hng]at a ⊢
         clear hp hng HXB;exact tgw
        ·rw[hng]at a ⊢
         have hv1:decide (zAy (zAU d.sh[k].nu)=0)=true:=aD hv0;clear hp hng HXB hv0;(go_wp2_with fail);(with_reducible refine(isZero_c false A5 A6 c5 c6 (zAy (zAU d.sh[k].nu)) (zAy d.sh[k].de) _).mono ?_);rintro e w5⟨rfl,hb5⟩;have HST6:=zq (a.o.below hb5);clear hb5 a;rw[hv1];go_wp2;go_ret
         exact zAf.mk (zBF HS.o.symm) HST6.o.bel
       |true =>
        have HF3:Hid (zAS d.sh k=none):=by
         show _=_
         rw[HF2.o,aO (by rw[hp];simp)]
        obtain⟨hng,hv0⟩:=posB_yes hp;have hv1:decide (zAy (zAU d.sh[k].nu)=0)=false:=aE hv0;rw[hng]at a HXB H5 H6 ⊢;clear hp HF2 hng hv0;(go_wp2_with fail);(with_reducible refine(isZero_c false A5 A6 c5 c6 (zAy (zAU d.sh[k].nu)) (zAy d.sh[k].de) _).mono ?_);rintro e w5⟨rfl,hb5⟩;have HST6:=zq (a.o.below hb5);have HXB6:=zq (HXB.o.below hb5);have H56:=zq (H5.o.below hb5);have H66:=zq (H6.o.below hb5);rw[hv1];clear hb5 a HXB H5 H6 hv1;have HSUM:Hid (zCF d.sh (k+1)=addP (zCF d.sh k) (zAy (zAU d.sh[k].nu),zAy d.sh[k].de)):=sumP_succ Y;have HLS:=zq (lenT_succ HLE.o HLN.o HLD.o HDP.o);have hk20:k<20:=za;have hle1:=HLE.o.1;have hle2:=HLE.o.2.1;have hle3:=HLE.o.2.2;have HADD:=zq (plus_c false false A3 A4 A5 A6 c3 c4 c5 c6 (zCF d.sh k).1 (zCF d.sh k).2 (zAy (zAU d.sh[k].nu)) (zAy d.sh[k].de) w5 HST6.o.n1 HST6.o.n2 H56.o H66.o za za (dX HLN.o za) (dX HLD.o za) hle3 HDP.o);rw[plusN_ff]at HADD;obtain⟨a0,a1,a2⟩:=HST6.o.sum.t;obtain⟨x0,x1,x2⟩:=HXB6.o.t;clear hle1 hle2 hle3 HLE HXB6 H56 H66;(go_wp2_with fail);(with_reducible refine HADD.o.mono ?_);rintro e w6⟨A7,c7,A8,c8,rfl,h7,h8,hb6⟩;have HST7:=zq (HST6.o.below hb6);obtain⟨r0,r1,r2⟩:=HST7.o.sum.t;have fr:=HST7.o.sum.frozen;have rl:=HST7.o.sum.lt;have HST8:=zq (HST7.o.store (pr':=addP (zCF d.sh k) (zAy (zAU d.sh[k].nu),zAy d.sh[k].de)) h7 h8);clear a0 a1 a2 x0 x1 x2 hb6 h7 h8 HST6 HADD;exact ta7
    ·have hke:k=d.sh.length:=by omega
     have yf:wr.cell? ⟨w.heap.size,14,none⟩=some (.slice (some ⟨b,o,none⟩) d.sh.length d.shc):=yd;rw[hke]at M HLE HP;have HE:=zq (HN.o HP.o);have hl1:(zAc BT (zCF d.sh d.sh.length).1).length<=50000000:=dX HLE.o.1 za;have hl2:(zAc BT (zCF d.sh d.sh.length).2).length<=50000000:=dX HLE.o.2.1 za;have HL1:=zq hl1;have HL2:=zq hl2;have HL3:=zq HLE.o.2.2;clear hl1 hl2 HLE HP HC0;obtain⟨a0,a1,a2⟩:=M.o.sum.t;go_wp2
     go_region_held3 (fun w'=>w'.cell? ⟨w1.heap.size,0,none⟩=some (.bool false)/\w'.cell? ⟨w1.heap.size,1,none⟩=some (.slice A3 (zAc BT (zCF d.sh d.sh.length).1).length c3)/\w'.cell? ⟨w1.heap.size,2,none⟩=some (.slice A4 (zAc BT (zCF d.sh d.sh.length).2).length c4)) ((refine⟨?_,?_,?_⟩<;>first|with_reducible assumption|go_simp))
      (first
       |((go_at_call 121;(with_reducible refine(Int_1 _).mono ?_);rintro e w8⟨A7,c7,A8,c8,rfl,h7,h8,hb8⟩;have HST8:=zq ((M.o.drewN 1).below hb8);obtain⟨b0,b1,b2⟩:=HST8.o.sum.t;clear hb8))
       |((go_at_call 131;(with_reducible refine(compare_cT A3 A4 A7 A8 c3 c4 c7 c8 _ _ 1 1 w8 HST8.o.n1 HST8.o.n2 h7 h8 HL1.o HL2.o zd zd HL3.o zd).mono ?_);rintro e w9⟨rfl,hb9⟩;have HST9:=zq (HST8.o.below hb9);obtain⟨d0,d1,d2⟩:=HST9.o.sum.t;clear hb9)))
     clear a0 a1 a2 b0 b1 b2 d0 d1 d2 M HST8 h7 h8 HL1 HL2;have y2:w9.cell? ⟨w.heap.size,2,none⟩=some (.int .i64 d.kd):=HST9.o.box.c 2 rfl;have yl:=HST9.o.box.lt;have he:=HE.o;unfold endT at he;clear HE HN HH HR
     try simp only[dK,Nat.one_mul]
     rcases Nat.lt_trichotomy (zCF d.sh d.sh.length).2 (zCF d.sh d.sh.length).1 with h|h|h
     ·exact tda
     ·rw[aO za]at he
      rw[zCL h.symm];have HS:=zq he;clear he h;exact tgo
     ·rw[zBJ h]
      by_cases hk:d.kd=5
      ·exact tcb
      ·have hkb:(d.kd == 5)=false:=by simpa using hk
       rw[aO (fun hh=>hh.elim za (fun q=>hk q.1))]at he;exact tem
end Go.Proofs.YtbbchlpccgkikaaGreatDoor
