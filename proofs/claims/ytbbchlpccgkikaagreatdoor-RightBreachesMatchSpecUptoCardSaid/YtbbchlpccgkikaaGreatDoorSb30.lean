/- The reference's parts. -/
import Derived.Test.YtbbchlpccgkikaaGreatDoorSb29
set_option maxRecDepth 100000
set_option maxHeartbeats 8000000
namespace Go.Proofs.YtbbchlpccgkikaaGreatDoor
open Go.RowKit Dw
def GivesPR(lo:Bool)(K:List BA)(f:zBq)(w:World)(e:Ending)(w':World):Prop:=∃A c n,e=.returned (.tuple #[.slice A n c,.bool lo])/\HoS w' (.slice A n c) K f/\Below w.heap.size w w'
def PrA(W:World)(th:BA)(day:Int)(U:List De)(m:Nat)(lv iv:Value)(wr:World):Prop:=
 ∃(k:Nat)(v:Value),v=lv/\k+m=U.length/\iv=.int .i64 (k:Int)/\HoS wr v ((U.take k).foldl (zAK th day) []) ((U.take k).foldl (orgF th day) (fun _=>0))/\Below W.heap.size W wr
def PrB(W:World)(K:List BA)(F:zBq)(l:List Sh)(m:Nat)(lv iv:Value)(wr:World):Prop:=
 ∃(j:Nat)(v:Value),v=lv/\j+m=l.length/\iv=.int .i64 (j:Int)/\HoS wr v (zBb (l.take j) K) (zAl (l.take j) F)/\Below W.heap.size W wr
def PrC(W:World)(V:List Rg)(U:List De)(i:Nat)(th S:BA)(day:Int)(n m:Nat)(lv gv iv:Value)(wr:World):Prop:=
 ∃(k:Nat)(v:Value),v=lv/\k+m=n/\iv=.int .i64 (k:Int)/\gv=.bool (longF V U i th S day k)/\HoS wr v (zBk V U i th S day k) (zAs V U i th S day k)/\Below W.heap.size W wr
def PrD(W:World)(K:List BA)(f:zBq)(d:De)(x:Rat)(m:Nat)(lv iv:Value)(wr:World):Prop:=
 ∃(j:Nat)(v:Value),v=lv/\j+m=d.sh.length/\iv=.int .i64 (j:Int)/\HoS wr v (zBb (d.sh.take j) K) (zBx x (d.sh.take j) f)/\Below W.heap.size W wr
def PrE(W:World)(lo:Bool)(P:List (BA×Rat))(m:Nat)(gv iv:Value)(wr:World):Prop:=
 ∃(j:Nat)(lb:Bool),j+m=P.length/\iv=.int .i64 (j:Int)/\gv=.bool lb/\lb=(lo || (P.take j).any fun x=>longQ x.2)/\Below W.heap.size W wr
def PrF(W:World)(P:List (BA×Rat))(m:Nat)(ov iv:Value)(wr:World):Prop:=
 ∃(j:Nat)(v:Value)(lo:List Ho),v=ov/\j+m=P.length/\iv=.int .i64 (j:Int)/\OwnH wr W.heap.size v lo/\HoOk W lo/\lo.length<=j/\prH lo=(P.take j).filter (fun x=>decide (x.2≠0))/\Below W.heap.size W wr
theorem keysAll_succ(K:List BA){l:List Sh}{j:Nat}(h:j<l.length):zBb (l.take (j+1)) K=zDT l[j].pt (zBb (l.take j) K):=by
 unfold zBb;exact tfe
theorem org_succ(th:BA)(day:Int)(K:List BA){U:List De}{k:Nat}(hk:k<U.length):(U.take (k+1)).foldl (zAK th day) K=zAK th day ((U.take k).foldl (zAK th day) K) U[k]:=by
 rw[take_snoc hk,bQ];rfl
theorem org_len{U:List De}(hs:∀d∈U,d.sh.length<=20)(hdl:U.length<=200)(th:BA)(day:Int)(k:Nat):((U.take k).foldl (zAK th day) []).length<=4000:=by
 have h1:∀(l:List De)(K:List BA),(∀d∈l,d.sh.length<=20)->(l.foldl (zAK th day) K).length<=K.length+20*l.length:=fun l=>by
  induction l with
  |nil=>exact fun K _=>Nat.le_add_right _ _
  |cons d l ih =>
   intro K hd;have a:=ih (zAK th day K d) fun e he=>hd e (cR _ he)
   have b:(zAK th day K d).length<=K.length+20:=by
    unfold zAK
    split
    ·have:=zDr d.sh K
     have:=hd d cS;omega
    ·omega
   exact td7
 have:=h1 (U.take k) [] fun d hd=>hs d (dJ hd)
 have e3:(U.take k).length<=200:=yc;simp only[aY]at this;omega
theorem insN_ge(p:BA):∀l:List BA,l.length<=(zDT p l).length
 |[]=>cZ _
 |a::l=>by
  unfold zDT;have:=insN_ge p l
  split
  ·exact aK _
  ·split
   ·simp
   ·simp;omega
theorem keysAll_ge:∀(l:List Sh)(K:List BA),K.length<=(zBb l K).length
 |[],_=>aK _
 |s::l,K=>dX (insN_ge s.pt K) (keysAll_ge l (zDT s.pt K))
theorem take_ask2{V:List Rg}{us:List BA}{U:List De}(h:zBY V us U=0){i:Nat}{th S:BA}{day:Int}{n:Nat}(J:n<U.length)(hm:zCZ V U i th S day U[n]=true): ∃M,HoldB (zAz U[n] (zBk V U i th S day n)) M (zAs V U i th S day n)/\SzN 10000000 (M*growD U[n]):=by
 obtain⟨M,h1,h2⟩:=zEk h i th S day n za;have hd:=aH J;obtain⟨k1,_,_⟩:=zCa h i th S day n;have hl:(U[n]).sh.length<=20:=(zDQ ((zAP h).2 n J) (zAP h).1).2.2;have hz:=zBd h;generalize U[n]=d at *;obtain⟨m1,_⟩:=zCv d (K:=zBk V U i th S day n);refine⟨M,h1.more (zCT d k1).nodup m1,?_⟩
 have h3:=growD_lt (zBQ h d hd) hl (movB_kd hm);have h4:M*growD d<10^(40001*(n+1)+40001):=by rw[dV];exact Nat.mul_lt_mul'' h2 h3
 exact(szN_of h4).le (by have:=hz.2.2;omega)
theorem mul_self_le{a q:Rat}(ha:0<=a)(hq:q<=1):a*q<=a:=by
 have:=fC hq ha
 grind
theorem sub_pos{a b:Rat}(h:b<=a):0<=a-b:=by grind
def asgB(V:List Rg)(U:List De)(i:Nat)(th S:BA)(day:Int)(d:De):Bool:=decide (d.kd=2)&&(decide (d.th=th)&&vB V U i S day d)
theorem asg_mov{V:List Rg}{U:List De}{i:Nat}{th S:BA}{day:Int}{d:De}(h:asgB V U i th S day d=true):d.kd=2/\zCZ V U i th S day d=true:=by
 unfold asgB at h;rw[eE,eE,fF,fF]at h;refine⟨h.1,?_⟩
 unfold zCZ;rw[aF h.1,aD h.2.1,h.2.2];rfl
def passB(day:Int)(d:De):Bool:=decide (d.kd=5)&&decide (d.bg<=day)
theorem mov_pass(V:List Rg)(U:List De)(i:Nat)(th S:BA)(day:Int)(d:De):zCZ V U i th S day d=(asgB V U i th S day d || passB day d):=by
 unfold zCZ asgB passB
 by_cases h2:d.kd=2
 ·have h5:¬d.kd=5:=by omega
  rw[aF h2,aD h2,aE h5,eL,eK,Bool.or_false]
 ·by_cases h5:d.kd=5
  ·rw[aO h2,aF h5,aE h2,aD h5,eL,eK,Bool.false_or]
  ·rw[aO h2,aO h5,aE h2,aE h5,eK,eK];rfl
theorem pass_mov{V:List Rg}{U:List De}{i:Nat}{th S:BA}{day:Int}{d:De}(h:passB day d=true):d.kd=5/\zCZ V U i th S day d=true/\asgB V U i th S day d=false:=by
 have h5:d.kd=5:=by
  unfold passB at h;rw[eE,fF]at h;exact h.1
 refine⟨h5,by rw[mov_pass,h,Bool.or_true],?_⟩
 unfold asgB;rw[aE (by omega:¬d.kd=2),eK]
theorem no_pass{V:List Rg}{U:List De}{i:Nat}{th S:BA}{day:Int}{d:De}{K K2:List BA}{f f2:zBq}(h:passB day d=false)(ht:zCZ V U i th S day d=true->f2=zCO d f/\K2=zAz d K)(hs:zCZ V U i th S day d=false->f2=f/\K2=K): (if asgB V U i th S day d=true then zAz d K else K)=K2/\(if asgB V U i th S day d=true then zCO d f else f)=f2:=by
 cases ha:asgB V U i th S day d with
 |true =>
  obtain⟨e1,e2⟩:=ht (by rw[mov_pass,ha];rfl);rw[aF rfl,aF rfl,e1,e2];exact⟨rfl,rfl⟩
 |false =>
  obtain⟨e1,e2⟩:=hs (by rw[mov_pass,ha,h];rfl);rw[aO ze,aO ze,e1,e2];exact⟨rfl,rfl⟩
structure PassT (d:De) (K:List BA) (f:zBq):Prop where
 so:ShsOk d.sh
 ml:∀s∈d.sh,0<=f d.fr*shQ s/\SzQ 10000000 (f d.fr*shQ s)
 mid:∀j,j<=d.sh.length->IncN (zBb (d.sh.take j) (zDT d.fr K))/\HoldOk (zBb (d.sh.take j) (zDT d.fr K)) (zBx (f d.fr) (d.sh.take j) (upH f d.fr 0))/\(zBb (d.sh.take j) (zDT d.fr K)).length<=1000000/\∀p,SzQ 10000000 (zBx (f d.fr) (d.sh.take j) (upH f d.fr 0) p)
theorem pass_facts{d:De}{K:List BA}{f:zBq}{M:Nat}(hk:d.kd=5)(hpo:ParOk d)(hh:HoldB (zAz d K) M f)(hsz:SzN 10000000 (M*growD d))(hki:IncN K)(hko:HoldOk K f)(hlen:(zAz d K).length<=1000000):PassT d K f:=by
 obtain⟨hso,hsum,_⟩:=hpo.pas hk;have hdz:=denP_nz fun s hs=>zBV (hso.rat s hs)
 obtain⟨_,m2,_,m4⟩:=zCv d (K:=K);unfold growD at hsz;rw[aF hk]at hsz;have hke:zAz d K=zBb d.sh (zDT d.fr K):=by unfold zAz;rw[aF hk]
 refine⟨hso,fun s hs=>?_,fun j hj=>⟨zDq _ hki.ins,?_,?_,fun p=>?_⟩⟩
 ·exact ta5
 ·exact HoldOk.pass (hko.pos d.fr) _ _ (((hko.mono fun p hp=>zBG.2 (.inr hp)).up (zBG.2 (.inl rfl)) Rat.le_refl).mono fun p hp=>(zBC _).2 (.inr hp)) fun s hs=>(zBC _).2 (.inl ⟨s,hs,rfl⟩)
 ·rw[hke]at hlen
  have e:zBb d.sh (zDT d.fr K)=zBb (d.sh.drop j) (zBb (d.sh.take j) (zDT d.fr K)):=by
   unfold zBb;rw[<-bQ,dE]
  rw[e]at hlen;exact dX (keysAll_ge _ _) hlen
 ·exact(hh.passMid m2 (m4 hk) (fun s hs=>zBV (hso.rat s hs)) hsum j hj).sz hsz p
theorem hos_q{l:List Ho}{K:List BA}{f:zBq}(h:prH l=zCN K f):∀x∈l,x.q=f x.pt:=fun x hx=>by
 have h1:(x.pt,x.q)∈prH l:=List.mem_map.2 ⟨x,hx,rfl⟩;rw[h]at h1;obtain⟨p,_,e⟩:=List.mem_map.1 h1
 injection e with e1 e2
 rw[<-e2,<-e1]
theorem any_pairs(K:List BA)(f:zBq):((zCN K f).any fun x=>longQ x.2)=anyLong K f:=by
 unfold anyLong
 induction K with
 |nil=>rfl
 |cons a K ih=>unfold zCN at ih ⊢;rw[aZ,List.any_cons,List.any_cons,ih]
theorem filter_pairs(f:zBq):∀K:List BA,(zCN K f).filter (fun x=>decide (x.2≠0))=zCN (holL K f) f
 |[]=>rfl
 |a::K=>by
  have ih:=filter_pairs f K;unfold zCN holL at *
  by_cases h:f a=0
  ·rw[aZ,eT zu,eT zu];exact ih
  ·rw[aZ,fB zu,fB zu,aZ,ih]
theorem any_snoc{l:List Ho}{j:Nat}(h:j<l.length):((prH l).take (j+1)).any (fun x=>longQ x.2)=(((prH l).take j).any (fun x=>longQ x.2) || longQ l[j].q):=by
 have hj:j<(prH l).length:=by rw[bZ];exact h
 rw[aG hj,bS,List.any_cons,List.any_nil,Bool.or_false];have:(prH l)[j]=(l[j].pt,l[j].q):=by unfold prH;rw[cA]
 rw[this]
theorem filter_snoc{l:List Ho}{j:Nat}(h:j<l.length):((prH l).take (j+1)).filter (fun x=>decide (x.2≠0))=((prH l).take j).filter (fun x=>decide (x.2≠0))++(if l[j].q=0 then [] else [(l[j].pt,l[j].q)]):=by
 have hj:j<(prH l).length:=by rw[bZ];exact h
 have:(prH l)[j]=(l[j].pt,l[j].q):=by unfold prH;rw[cA]
 rw[aG hj,eG,this]
 by_cases hq:l[j].q=0
 ·rw[aF hq,eT qd,List.filter_nil]
 ·rw[aO hq,fB qd,List.filter_nil]
theorem num_zero{q:Rat}:decide (q.num.natAbs=0)=decide (q=0):=by
 by_cases h:q=0
 ·rw[aD h,h];rfl
 ·rw[aE h,aE]
  intro h2;exact h (Rat.num_eq_zero.1 (Int.natAbs_eq_zero.1 h2))
def BoxT(W:World)(q:Rat)(v:Value)(wx:World):Prop:=∃bx A c Z c2,v=.pointer (some ⟨bx,0,none⟩)/\Bx wx bx (nuC false A c q.num.natAbs Z c2 q.den) 202/\Lt wx A c q.num.natAbs/\Lt wx Z c2 q.den/\Below W.heap.size W wx
theorem boxT_new{W u:World}{q:Rat}{A Z:OA}{c c2:Nat}(I:Below W.heap.size W u)(h1:Lt u A c q.num.natAbs)(h2:Lt u Z c2 q.den):BoxT W q (.pointer (some ⟨u.heap.size,0,none⟩)) (u.alloc (.cells (nuC false A c q.num.natAbs Z c2 q.den) 202)):=
 ⟨_,A,c,Z,c2,rfl,Bx.new _ _ _,h1.below (ba _ _),h2.below (ba _ _),I.alloc I.size _⟩
theorem boxT_set{W u:World}{q:Rat}{A Z:OA}{c c2 g:Nat}(I:Below W.heap.size W u)(hz:Bx u g zBB 202)(hg:W.heap.size<=g)(h1:Lt u A c q.num.natAbs)(h2:Lt u Z c2 q.den): BoxT W q (.pointer (some ⟨g,0,none⟩)) (((u.setCell ⟨g,0,none⟩ (.bool false)).setCell ⟨g,1,none⟩ (.slice A (zAc BT q.num.natAbs).length c)).setCell ⟨g,2,none⟩ (.slice Z (zAc BT q.den).length c2)):=by
 have k0:=Bx.set0 hz (.bool false);have k1:=Bx.set1 k0 (.slice A (zAc BT q.num.natAbs).length c);exact⟨g,A,c,Z,c2,rfl,eP _ g 2 _ _ _ k1,h1.setR hz _ _ _ _ _,h2.setR hz _ _ _ _ _,zBA I hg _ _ _⟩
theorem partsR_c(RA:OA)(rc:Nat)(V:List Rg)(UA:OA)(O:Nat)(us:List BA)(DA:OA)(dc:Nat)(U:List De)(i n:Nat)(th pl S:BA)(day:Int)(w:World)(hr:Rgs w RA V)(hd:Des w DA U)(hc:zBY V us U=0)(hi:i<V.length)(hpl:(V[i]).nm=pl)(J:n<=U.length)(hP:POK w): Calls Tryz.prog 114 #[.agg (tiC RA rc V UA O us DA dc U),.string th,.agg (whrC pl S day),.int .i64 (n:Int)] w (GivesPR (longF V U i th S day n) (holL (zBk V U i th S day n) (zAs V U i th S day n)) (zAs V U i th S day n) w):=by
 have hbw:Below w.heap.size w ((w.alloc (.cells (tiC RA rc V UA O us DA dc U) 26)).alloc (.cells (whrC pl S day) 135)):=((aR _ _).alloc (aK _) _).alloc ze _;have HX:Hid (Bx ((w.alloc (.cells (tiC RA rc V UA O us DA dc U) 26)).alloc (.cells (whrC pl S day) 135)) w.heap.size (tiC RA rc V UA O us DA dc U) 26):=(Bx.new _ _ _).alloc _;have HY:Hid (Bx ((w.alloc (.cells (tiC RA rc V UA O us DA dc U) 26)).alloc (.cells (whrC pl S day) 135)) (w.heap.size+1) (whrC pl S day) 135):=Bx.new1 _ _ _ _;obtain⟨W,hW⟩:∃W,W=(w.alloc (.cells (tiC RA rc V UA O us DA dc U) 26)).alloc (.cells (whrC pl S day) 135):=⟨_,rfl⟩;rw[<-hW]at hbw HX HY;have HB:=zq hbw;have HDW:=zq (hd.below hbw);have HRW:=zq (hr.below hbw);have HPK:=zq (hP.below hbw);have HC:=zq hc;have HPL:=zq hpl;have hdl:=(zBd hc).2.2
 have HSL:Hid (∀d∈U,d.sh.length<=20):=fun d hd=>by
  obtain⟨k,hk,rfl⟩:=bD hd;exact(zDQ ((zAP hc).2 k hk) (zAP hc).1).2.2
 clear hr hd hc hpl hP hbw
 go_enter Tryz.func114,Tryz.ntmps114;(go_upto_region 1 with fail);rw[<-hW];clear hW;go_wp2
 go_loopg[10,12] U.length (PrA W th day U)
 case atStart=>exact⟨0,_,rfl,za,rfl,HoS.nil _ _,aR _ _⟩
 case round =>
  obtain⟨k,v,rfl,hkm,rfl,hho,I⟩:=hrel;have HK:=zq hkm;have HHO:=zq hho;have HBW:=zq I;have X:=zq (HX.o.below I);have x2:=X.o.c 2 rfl;have hsx:=X.o.lt;clear hkm hho I
  by_cases Y:k<U.length
  ·obtain⟨b,o,hA,hb0,hc0⟩:=HDW.o za
   subst hA;have hpar:=zBQ HC.o _ (aH Y);have HFS:=zq (fold_succ th day (fun _=>0) Y);have HKS:=zq (org_succ th day [] Y);have N:wr.rangeAt b (o+k*16) (deC U[k]).toList:=fun q v hv=>zAe HBW.o ((hc0 k Y).1 q v hv)
   have HSH:=zq ((hc0 k Y).2.shs.below HBW.o);have hshl:=HSL.o _ (aH Y);generalize U[k]=d at *;have HPA:=zq hpar;obtain⟨hki,hko⟩:=start_ok th day (U.take k) [] (fun _=>0) List.Pairwise.nil hold_none;have hkl:=org_len HSL.o hdl th day k;clear hc0 hpar;(go_upto_region 6 with fail);(iterate 14 go_step);refine fG _ _ zk b (o+k*16) zk (deC d).toList _ N Tryz.underlying126 rfl zc ?_;clear N;(go_upto_region 7 with fail);obtain⟨wd,hwd⟩:∃wd,wd=wr.alloc (.cells (deC d) 126):=⟨_,rfl⟩;rw[<-hwd];have hbd:Below wr.heap.size wr wd:=zm;have m:Hid (Bx wd wr.heap.size (deC d) 126):=zo;have HBD:=zq (zAa HBW.o hbd);have HH1:=zq (HHO.o.below hbd);have HSH1:=zq (HSH.o.below hbd);have HYD:=zq (HY.o.below HBD.o);clear hwd hbd HHO HSH HBW x2 hsx X;generalize wr.heap.size=gd at *;have d2:=m.o.c 2 rfl;have d3:=m.o.c 3 rfl;have d12:=m.o.c 12 rfl;have hsd:=m.o.lt;have y2:=HYD.o.c 2 rfl;have hsy:=HYD.o.lt;generalize (U.take k).foldl (orgF th day) (fun _=>0)=F at *;generalize (U.take k).foldl (zAK th day) []=K at *;have HKI:=zq hki;have HKO:=zq hko;clear hki hko
   have HNO:orgB th day d=false->Hid (HoS wd v ((U.take (k+1)).foldl (zAK th day) []) ((U.take (k+1)).foldl (orgF th day) (fun _=>0))):=fun h=>by
    show HoS _ _ _ _
    rw[HFS.o,HKS.o];unfold orgF zAK;rw[aO (by rw[h];simp),aO (by rw[h];simp)];exact HH1.o
   by_cases hq:d.kd=1
   case neg =>
    have e1:(d.kd == 1)=false:=qd;have HN:=HNO (by unfold orgB;rw[aE hq];rfl);clear hq HNO;exact tcx
   have e1:(d.kd == 1)=true:=qd
   by_cases ht:d.th=th
   case neg =>
    have q1:=zAp ht;have HN:=HNO (by unfold orgB;rw[aE ht];simp);clear hq ht HNO;exact tcx
   have q1:=zAn ht
   by_cases hy:d.bg<=day
   case neg =>
    have q2:decide (d.bg<=day)=false:=aE hy;have HN:=HNO (by unfold orgB;rw[aE hy];simp);clear hq ht hy HNO;exact tcx
   have q2:decide (d.bg<=day)=true:=aD hy
   have HOT:Hid (orgF th day F d=zAl d.sh F/\zAK th day K d=zBb d.sh K):=by
    show _/\_
    unfold orgF zAK;rw[aF (zDt.2 ⟨hq,ht,hy⟩),aF (zDt.2 ⟨hq,ht,hy⟩)];exact⟨rfl,rfl⟩
   have HSO:=zq (HPA.o.org hq).1;clear hq ht hy HNO;go_wp2;clear d2 d3 d12 hsd y2 hsy
   go_loopg[10,14] d.sh.length (PrB wd K F d.sh)
   case atStart=>exact⟨0,_,rfl,za,rfl,HH1.o,aR _ _⟩
   case round =>
    obtain⟨j,v2,rfl,hjm,rfl,hho,I⟩:=hrel;have HJ:=zq hjm;have HH:=zq hho;have HBJ:=zq I;have HDJ:=zq (m.o.below I);clear hjm hho I;have hsd:=HDJ.o.lt
    by_cases hjl:j<d.sh.length
    ·obtain⟨b2,o2,hA,D,hc⟩:=(HSH1.o.below HBJ.o).at_ za
     have HMEM:=zq (aH hjl);have HPS:=zq (putAll_succ F hjl);have HKA:=zq (keysAll_succ K hjl);have c0:=(hc j hjl).1;have c1:=(hc j hjl).2.1;have c2:=(hc j hjl).2.2;have hkl2:=zDr (d.sh.take j) K;have HKJ:=zq (zDq (d.sh.take j) HKI.o);have htl:(d.sh.take j).length<=20:=yc;generalize d.sh[j]=s at *;have HFQ:Hid (∀u,Calls Tryz.prog 176 #[.agg #[.string s.nu,.string s.de]] u (zDH (shQ s) u)):=fun u=>OfT_c s.nu s.de u (HSO.o.rat s HMEM.o) (HSO.o.pos s HMEM.o)
     have HA:=zq hA;have d14:wr.cell? ⟨gd,14,none⟩=some (.slice (some ⟨b2,o2,none⟩) d.sh.length d.shc):=by rw[<-hA];exact HDJ.o.c 14 rfl
     clear hc hA;obtain⟨fj,hfj⟩:∃fj,fj=zAl (d.sh.take j) F:=⟨_,rfl⟩;obtain⟨Kj,hKj⟩:∃Kj,Kj=zBb (d.sh.take j) K:=⟨_,rfl⟩;rw[<-hfj]at HH HPS;rw[<-hKj]at HH HKA HKJ hkl2;have HFJ:=zq hfj;have HJJ:=zq hKj;clear hfj hKj;go_upto_region 11 with fail
     go_region_held3 (fun w'=>(w'.cell? ⟨gd,14,none⟩=some (.slice (some ⟨b2,o2,none⟩) d.sh.length d.shc))/\w'.cell? ⟨b2,o2+j*3,none⟩=some (.string s.pt)/\w'.cell? ⟨b2,o2+j*3+1,none⟩=some (.string s.nu)/\w'.cell? ⟨b2,o2+j*3+2,none⟩=some (.string s.de))
      ((refine⟨?_,?_,?_,?_⟩<;>first|with_reducible assumption|go_simp))
      (first
       |((go_at_call 176;(with_reducible refine(HFQ.o wr.drew).mono ?_);rintro e w6⟨A7,c7,A8,c8,rfl,h7,h8,hb6⟩;have HB6:Hid (Below wr.heap.size wr w6):=zAa (zAb (aR _ _) 1) hb6;have HH6:=zq (HH.o.below HB6.o);have H7:=zq h7;have H8:=zq h8;clear h7 h8 hb6;have k14:=zAe HB6.o d14;have k0:=zAe HB6.o c0;have k1:=zAe HB6.o c1;have k2:=zAe HB6.o c2;clear d14 c0 c1 c2))
       |((go_at_call 175;(with_reducible refine(withS_c v2 Kj fj s.pt (shQ s) A7 A8 c7 c8 w6 HH6.o HKJ.o za H7.o H8.o).mono ?_);rintro e w7⟨A9,c9,n9,rfl,hh,hb7⟩;have HB7:=zq (zAa HB6.o hb7);have HH7:=zq hh;have m14:=zAe hb7 k14;have m0:=zAe hb7 k0;have m1:=zAe hb7 k1;have m2:=zAe hb7 k2;clear hh hb7 k14 k0 k1 k2)))
     have HE:Hid (HoS w7 (.slice A9 n9 c9) (zBb (d.sh.take (j+1)) K) (zAl (d.sh.take (j+1)) F)):=by show HoS _ _ _ _;rw[HPS.o,HKA.o];exact HH7.o
     have HBE:=zq (zAa HBJ.o HB7.o);clear m14 m0 m1 m2;exact tcy
    ·have hje:j=d.sh.length:=by have:=HJ.o;omega
     have HE:Hid (HoS wr v2 ((U.take (k+1)).foldl (zAK th day) []) ((U.take (k+1)).foldl (orgF th day) (fun _=>0))):=by
      have:=HH.o;rw[hje,aN,<-HOT.o.1,<-HOT.o.2]at this;show HoS _ _ _ _
      rw[HFS.o,HKS.o];exact this
     have HBE:=zq (zAa HBD.o HBJ.o);have d14:=HDJ.o.c 14 rfl;clear HH hje;go_wp2
     go_roundg (U.length-(k+1))
     case measure=>have:=HK.o;omega
     case rel=>exact⟨k+1,_,rfl,zh,zi,HE.o,HBE.o⟩
  ·obtain rfl:k=U.length:=by have:=HK.o;omega
   have HH0:Hid (HoS wr v (zBk V U i th S day 0) (zAs V U i th S day 0)):=by
    have:=HHO.o;rw[aN]at this;exact this
   have HLZ:Hid (false=longF V U i th S day 0):=(longF_zero V U i th S day).symm;clear HHO HK;go_wp2;clear x2 hsx
   go_loopg[10,11,15] n (PrC W V U i th S day n)
   case atStart=>exact⟨0,_,rfl,za,rfl,by rw[<-HLZ.o],HH0.o,HBW.o⟩
   clear HH0 HLZ HBW X
   case round =>
    obtain⟨k,v,rfl,hkm,rfl,rfl,hho,I⟩:=hrel;have HK:=zq hkm;have HHO:=zq hho;have HBW:=zq I;have X:=zq (HX.o.below I);have x2:=X.o.c 2 rfl;have hsx:=X.o.lt;clear hkm hho I
    by_cases Y:k<n
    ·have hkd:k<U.length:=by omega
     obtain⟨b,o,hA,hb0,hc0⟩:=HDW.o za;subst hA;have N:wr.rangeAt b (o+k*16) (deC U[k]).toList:=fun q v hv=>zAe HBW.o ((hc0 k hkd).1 q v hv)
     have HSH:=zq ((hc0 k hkd).2.shs.below HBW.o);have hmem:=aH hkd;have HVA:=zq (fun(u:World)(hu:Below W.heap.size W u)(hg:zAg (U[k]).kd=true)=>validR_c RA rc V UA O us (some ⟨b,o,none⟩) dc U k i pl S day u (HRW.o.below hu) (HDW.o.below hu) (zCi (zBd HC.o).1) hi HPL.o hkd hdl (zCS HC.o) hg (zCA HC.o _ hmem).2 (zCA HC.o _ hmem).1)
     have HSK:Hid (zCZ V U i th S day U[k]=false->zAs V U i th S day (k+1)=zAs V U i th S day k/\zBk V U i th S day (k+1)=zBk V U i th S day k):=fun hm=>by
      obtain⟨e1,e2⟩:=zEj V i th S day hkd;rw[e1,e2];unfold zDz zAW;rw[aO (by rw[hm];simp),aO (by rw[hm];simp)];exact⟨rfl,rfl⟩
     have HTK:Hid (zCZ V U i th S day U[k]=true->zAs V U i th S day (k+1)=zCO U[k] (zAs V U i th S day k)/\zBk V U i th S day (k+1)=zAz U[k] (zBk V U i th S day k)):=fun hm=>keysF_take hkd hm
     have HTA:Hid (zCZ V U i th S day U[k]=true->∃M,HoldB (zAz U[k] (zBk V U i th S day k)) M (zAs V U i th S day k)/\SzN 10000000 (M*growD U[k])):=fun hm=>take_ask2 HC.o hkd hm
     have HPA:=zq (zBQ HC.o _ hmem);have HLS:=zq (longF_succ V U i th S day k);have hshl:=HSL.o _ hmem;obtain⟨hki,hko,_⟩:=zCa HC.o i th S day k;have hkl:=keys_len HC.o i th S day k za;have HKN:=zq (keys_len HC.o i th S day (k+1) za);have HFZ:=zq (fun p=>parts_sz HC.o i th S day k za p);have HFN:=zq (fun p=>parts_sz HC.o i th S day (k+1) za p);generalize U[k]=d at *;have HKI:=zq hki;have HKO:=zq hko;clear hc0 hmem hki hko;(go_upto_region 15 with fail);(iterate 14 go_step);refine fG _ _ zk b (o+k*16) zk (deC d).toList _ N Tryz.underlying126 rfl zc ?_;clear N;(go_upto_region 16 with fail);obtain⟨wd,hwd⟩:∃wd,wd=wr.alloc (.cells (deC d) 126):=⟨_,rfl⟩;rw[<-hwd];have hbd:Below wr.heap.size wr wd:=zm;have m:Hid (Bx wd wr.heap.size (deC d) 126):=zo;have HBD:=zq (zAa HBW.o hbd);have HH1:=zq (HHO.o.below hbd);have HSH1:=zq (HSH.o.below hbd);have HXD:=zq (HX.o.below HBD.o);have HYD:=zq (HY.o.below HBD.o);clear hwd hbd HHO HSH HBW x2 hsx X;generalize wr.heap.size=gd at *;obtain⟨f,hf⟩:∃f,f=zAs V U i th S day k:=⟨_,rfl⟩;obtain⟨K,hK⟩:∃K,K=zBk V U i th S day k:=⟨_,rfl⟩;rw[<-hf]at HH1 HSK HTK HTA HFZ HKO;rw[<-hK]at HH1 HSK HTK HTA HKO HKI hkl;have HEF:=zq hf;have HEK:=zq hK;clear hf hK
     go_cut[99] from 85 to 100 (fun v wx=>v=.bool (asgB V U i th S day d)/\Below wd.heap.size wd wx)
     case first =>
      have d2:=m.o.c 2 rfl;have d3:=m.o.c 3 rfl;have hsd:=m.o.lt;obtain⟨x0,x1,x2⟩:=HXD.o.t;have hsx:=HXD.o.lt;obtain⟨y0,y1,y2⟩:=HYD.o.t;have hsy:=HYD.o.lt
      by_cases hq:d.kd=2
      case neg =>
       have e1:(d.kd == 2)=false:=qd;have HE:Hid (asgB V U i th S day d=false):=by show _=_;unfold asgB;rw[aE hq];rfl
       clear hq;go_wp2;go_meet;exact⟨by rw[HE.o],aR _ _⟩
      have e1:(d.kd == 2)=true:=qd
      by_cases ht:d.th=th
      case neg =>
       have q1:=zAp ht;have HE:Hid (asgB V U i th S day d=false):=by show _=_;unfold asgB;rw[aE ht];simp
       clear hq ht;go_wp2;go_meet;exact⟨by rw[HE.o],aR _ _⟩
      have q1:=zAn ht;have HVB:=zq (HVA.o wd HBD.o (by unfold zAg;rw[hq];rfl));have HE:Hid (asgB V U i th S day d=vB V U i S day d):=by show _=_;unfold asgB;rw[aD hq,aD ht];rfl
      clear hq ht;(go_wp2_with fail);(with_reducible refine HVB.o.mono ?_);rintro e w3⟨rfl,hb3⟩;have HB3:=zq hb3;clear d2 d3 hsd x0 x1 x2 hsx y0 y1 y2 hsy hb3;go_wp2;go_meet;exact⟨by rw[HE.o],HB3.o⟩
     case rest =>
     obtain⟨rfl,hbc⟩:=hcut;have HB3:=zq hbc;have HX3:=zq (m.o.below hbc);have HH3:=zq (HH1.o.below hbc);obtain⟨w3,hw3⟩:∃w3,w3=wc:=⟨_,rfl⟩;subst hw3;clear hbc;go_upto_if 99 with fail
     go_cut[10,17,18] from 99 to 127 (fun lv _ _ wx=>∃v,v=lv/\HoS wx v (if asgB V U i th S day d=true then zAz d K else K) (if asgB V U i th S day d=true then zCO d f else f)/\Below wd.heap.size wd wx)
     case first =>
      cases hv:asgB V U i th S day d with
      |false =>
       have HE:=zq hv;clear hv;go_wp2;go_meet;refine⟨_,rfl,?_,HB3.o⟩
       rw[aO (by rw[HE.o];simp),aO (by rw[HE.o];simp)];exact HH3.o
      |true =>
       have HV:=zq hv;have HQK:=zq (asg_mov hv).1;clear hv
       -- @@1
       obtain⟨M,hM1,hM2⟩:=HTA.o (asg_mov HV.o).2
       have hK1l:(zDT d.fr K).length<=1000000:=by
        have h9:=HKN.o;rw[(HTK.o (asg_mov HV.o).2).2]at h9;unfold zAz at h9;rw[aO (by rw[HQK.o];decide)]at h9;exact dX (insN_ge d.to_ _) h9
       obtain⟨m1,m2,m3,m4⟩:=zCv d (K:=K);obtain⟨hrt,hps,hle,hne⟩:=HPA.o.asg HQK.o;have hd0:=zBV hrt;obtain⟨hmid,hxd⟩:=hM1.giveMid m2 hle hd0;have hx:=mul_le (hM1.ok.pos d.fr) (hM1.le d.fr) (zEn d.nu d.de) hle;unfold growD at hM2;rw[aO (by rw[HQK.o];decide)]at hM2;have HFS:Hid (SzQ 10000000 (f d.fr)):=HFZ.o d.fr;have HFP:Hid (0<=f d.fr):=hM1.ok.pos _;have HQP:Hid (0<=zDk d.nu d.de):=zEn _ _;have HQS:=zq (ratQ_sz hrt);have HXP:Hid (0<=f d.fr*zDk d.nu d.de):=hx.1;have HXS:Hid (SzQ 50000000 (f d.fr*zDk d.nu d.de)):=szQ_le hx.1 hx.2 hxd hmid.nz (hM2.le za);have HNE:=zq hne
       have HXL:Hid (f d.fr*zDk d.nu d.de<=f d.fr):=by
        exact mul_self_le HFP.o hle
       have HMB:=zq hmid;have HMZ:=zq hM2;have HFQ:Hid (∀u,Calls Tryz.prog 176 #[.agg #[.string d.nu,.string d.de]] u (zDH (zDk d.nu d.de) u)):=fun u=>OfT_c d.nu d.de u hrt hps
       clear hM1 hM2 m1 m2 m3 m4 hrt hps hle hne hd0 hmid hxd hx;have HPT:=zq (partS_c v K f d.fr w3 HH3.o HKO.o hkl);have x4:=HX3.o.c 4 rfl;have hsx:=HX3.o.lt;(go_wp2_with fail);(with_reducible refine HPT.o.mono ?_);rintro e w4⟨AH,cH,AH2,cH2,rfl,h1,h2,hb4⟩;have hba:=ba w4 (.cells (nuC false AH cH (f d.fr).num.natAbs AH2 cH2 (f d.fr).den) 202);have hb5:=zAa hb4 hba;have HX:=zq (HX3.o.below hb5);have HY:Hid (Bx (w4.alloc (.cells (nuC false AH cH (f d.fr).num.natAbs AH2 cH2 (f d.fr).den) 202)) w4.heap.size (nuC false AH cH (f d.fr).num.natAbs AH2 cH2 (f d.fr).den) 202):=Bx.new _ _ _;have Q:=zq (h1.below hba);have HN2:=zq (h2.below hba);have HL:=zq (HH3.o.below hb5);have HBH:=zq (zAa HB3.o hb5);clear x4 hsx h1 h2 hb4 hba hb5 HX3 HH3 HB3 HPT;(go_upto_region 18 with fail);obtain⟨wh,hwh⟩:∃wh,wh=w4.alloc (.cells (nuC false AH cH (f d.fr).num.natAbs AH2 cH2 (f d.fr).den) 202):=⟨_,rfl⟩;rw[<-hwh]at HX HY Q HN2 HL HBH ⊢;clear hwh;generalize w4.heap.size=gh at *;have x6:=HX.o.c 6 rfl;have x7:=HX.o.c 7 rfl;obtain⟨b0,b1,b2⟩:=HY.o.t;have sx:=HX.o.lt;have sy:=HY.o.lt
       go_cut[18] from 104 to 109 (fun v wx=>BoxT wh (f d.fr*zDk d.nu d.de) v wx)
       case first =>
        go_region_held3 (fun w'=>(w'.cell? ⟨gd,6,none⟩=some (.string d.nu)/\w'.cell? ⟨gd,7,none⟩=some (.string d.de))/\(w'.cell? ⟨gh,0,none⟩=some (.bool false)/\w'.cell? ⟨gh,1,none⟩=some (.slice AH (zAc BT (f d.fr).num.natAbs).length cH)/\w'.cell? ⟨gh,2,none⟩=some (.slice AH2 (zAc BT (f d.fr).den).length cH2)))
         ((refine⟨⟨?_,?_⟩,?_,?_,?_⟩<;>first|with_reducible assumption|go_simp))
         (first
          |((go_at_call 176;(with_reducible refine(HFQ.o (wh.alloc (.cells zBB 202)).drew).mono ?_);rintro x v1⟨A7,c7,A8,c8,rfl,h7,h8,I⟩;have hqq:=zAa (zAb (ba wh (.cells zBB 202)) 1) I;have HBv1:Hid (Below wh.heap.size wh v1):=zAa (zAb (ba wh (.cells zBB 202)) 1) I;have HZ1:=zq ((Bx.new wh zBB 202).drew.below I);have hzg:wh.heap.size<=wh.heap.size:=aK _;have X:=zq (HX.o.below hqq);have HY1:=zq (HY.o.below hqq);have HN11:=zq (Q.o.below hqq);have HN21:=zq (HN2.o.below hqq);have HL1:=zq (HL.o.below hqq);have G71:=zq h7;have G81:=zq h8;clear hqq I h7 h8 x6 x7 b0 b1 b2 sx sy;have x6:=X.o.c 6 rfl;have x7:=X.o.c 7 rfl;obtain⟨b0,b1,b2⟩:=HY1.o.t;have sx:=X.o.lt;have sy:=HY1.o.lt;have q0a:¬(gd=wh.heap.size):=yp;have q0b:¬(wh.heap.size=gd):=yp;have q1a:¬(gh=wh.heap.size):=yq;have q1b:¬(wh.heap.size=gh):=yq;obtain⟨z0,z1,z2⟩:=HZ1.o.t;have zf:=HZ1.o.frozen;have zs:=HZ1.o.lt))
          |((go_at_call 176;(with_reducible refine(HFQ.o wh.drew).mono ?_);rintro x v1⟨A7,c7,A8,c8,rfl,h7,h8,I⟩;have hqq:=zAa (zAb (aR wh.heap.size wh) 1) I;have HBv1:Hid (Below wh.heap.size wh v1):=zAa (zAb (aR wh.heap.size wh) 1) I;have X:=zq (HX.o.below hqq);have HY1:=zq (HY.o.below hqq);have HN11:=zq (Q.o.below hqq);have HN21:=zq (HN2.o.below hqq);have HL1:=zq (HL.o.below hqq);have G71:=zq h7;have G81:=zq h8;clear hqq I h7 h8 x6 x7 b0 b1 b2 sx sy;have x6:=X.o.c 6 rfl;have x7:=X.o.c 7 rfl;obtain⟨b0,b1,b2⟩:=HY1.o.t;have sx:=X.o.lt;have sy:=HY1.o.lt))
          |((go_at_call 177;(with_reducible refine(TimesQ_c AH AH2 A7 A8 cH cH2 c7 c8 (f d.fr) (zDk d.nu d.de) (v1.alloc (.cells zBB 202)) (HN11.o.below (ba v1 (.cells zBB 202))) (HN21.o.below (ba v1 (.cells zBB 202))) (G71.out.below (ba v1 (.cells zBB 202))) (G81.out.below (ba v1 (.cells zBB 202))) HFP.o HQP.o (HFS.o.le za) (HQS.o.le za)).mono ?_);rintro x v2⟨A9,c9,AD,cD,rfl,h9,hD,I⟩;have hqq:=zAa (ba v1 (.cells zBB 202)) I;have HBv2:Hid (Below wh.heap.size wh v2):=(zAa HBv1.o hqq);have HZ2:=zq ((Bx.new v1 zBB 202).below I);have hzg:wh.heap.size<=v1.heap.size:=HBv1.o.size;have HX2:=zq (X.o.below hqq);have HY2:=zq (HY1.o.below hqq);have HN12:=zq (HN11.o.below hqq);have HN22:=zq (HN21.o.below hqq);have HL2:=zq (HL1.o.below hqq);have G72:=zq (G71.out.below hqq);have G82:=zq (G81.out.below hqq);have G92:=zq h9;have GD2:=zq hD;clear hqq I h9 hD x6 x7 b0 b1 b2 sx sy;have x6:=HX2.o.c 6 rfl;have x7:=HX2.o.c 7 rfl;obtain⟨b0,b1,b2⟩:=HY2.o.t;have sx:=HX2.o.lt;have sy:=HY2.o.lt;have q0a:¬(gd=v1.heap.size):=yp;have q0b:¬(v1.heap.size=gd):=yp;have q1a:¬(gh=v1.heap.size):=yq;have q1b:¬(v1.heap.size=gh):=yq;obtain⟨z0,z1,z2⟩:=HZ2.o.t;have zf:=HZ2.o.frozen;have zs:=HZ2.o.lt))
          |((go_at_call 177;(with_reducible refine(TimesQ_c AH AH2 A7 A8 cH cH2 c7 c8 (f d.fr) (zDk d.nu d.de) v1 HN11.o HN21.o G71.out G81.out HFP.o HQP.o (HFS.o.le za) (HQS.o.le za)).mono ?_);rintro x v2⟨A9,c9,AD,cD,rfl,h9,hD,I⟩;have HBv2:Hid (Below wh.heap.size wh v2):=(zAa HBv1.o I);(first|(have HZ2:=zq (HZ1.o.below I);clear z0 z1 z2 zf zs)|skip);have HX2:=zq (X.o.below I);have HY2:=zq (HY1.o.below I);have HN12:=zq (HN11.o.below I);have HN22:=zq (HN21.o.below I);have HL2:=zq (HL1.o.below I);have G72:=zq (G71.out.below I);have G82:=zq (G81.out.below I);have G92:=zq h9;have GD2:=zq hD;clear I h9 hD x6 x7 b0 b1 b2 sx sy;have x6:=HX2.o.c 6 rfl;have x7:=HX2.o.c 7 rfl;obtain⟨b0,b1,b2⟩:=HY2.o.t;have sx:=HX2.o.lt;have sy:=HY2.o.lt;(first|(obtain⟨z0,z1,z2⟩:=HZ2.o.t;have zf:=HZ2.o.frozen;have zs:=HZ2.o.lt)|skip))))
        all_goals
         (go_wp2_with fail);go_meet
         first
          |exact boxT_set HBv2.o HZ2.o hzg G92.out GD2.out
          |exact boxT_new HBv2.o G92.out GD2.out
       case rest =>
        obtain⟨bx,A9,c9,AD,cD,rfl,hbx,h9,hD,I⟩:=hcut;obtain⟨x,hxe⟩:∃x,x=f d.fr*zDk d.nu d.de:=⟨_,rfl⟩;rw[<-hxe]at hbx h9 hD HXP HXS HXL HMB;have HXE:=zq hxe;clear hxe;have hmi:∀u,Calls Tryz.prog 122 #[nuV false A9 c9 x.num.natAbs AD cD x.den] u (fun e w'=>e=.returned (nuV (!false&&decide (x.num.natAbs≠0)) A9 c9 x.num.natAbs AD cD x.den)/\Below u.heap.size u w'):=fun u=>minus_c false A9 AD c9 cD x.num.natAbs x.den u
        have hlq:∀u,Lt u AH cH (f d.fr).num.natAbs->Lt u AH2 cH2 (f d.fr).den->Lt u A9 c9 x.num.natAbs->Lt u AD cD x.den->Calls Tryz.prog 120 #[nuV false AH cH (f d.fr).num.natAbs AH2 cH2 (f d.fr).den,nuV (!false&&decide (x.num.natAbs≠0)) A9 c9 x.num.natAbs AD cD x.den] u (zDH (f d.fr-x) u):=fun u g1 g2 g3 g4=>LessQ_c AH AH2 A9 AD cH cH2 c9 cD (f d.fr) x u g1 g2 g3 g4 HXP.o HXL.o (HFS.o.le za) HXS.o
        obtain⟨mg,hmg⟩:∃mg,mg=(!false&&decide (x.num.natAbs≠0)):=⟨_,rfl⟩;rw[<-hmg]at hmi hlq;have HMI:=zq hmi;have HLQ:=zq hlq;clear hmi hlq hmg;have HB3:=zq (zAa HBH.o I);have HX3:=zq (HX.o.below I);have HY3:=zq (HY.o.below I);have HQ3:=zq hbx;have HL3:=zq (HL.o.below I);have HN13:=zq (Q.o.below I);have HN23:=zq (HN2.o.below I);have H93:=zq h9;have HD3:=zq hD;clear hbx h9 hD I sx sy x6 x7 b0 b1 b2 HX HY HL Q HN2 HBH;(go_upto_region 19 with fail);have x4:=HX3.o.c 4 rfl;obtain⟨b0,b1,b2⟩:=HY3.o.t;obtain⟨d0,d1,d2⟩:=HQ3.o.t
        go_region_held3 (fun w'=>w'.cell? ⟨gd,4,none⟩=some (.string d.fr)/\(w'.cell? ⟨gh,0,none⟩=some (.bool false)/\w'.cell? ⟨gh,1,none⟩=some (.slice AH (zAc BT (f d.fr).num.natAbs).length cH)/\w'.cell? ⟨gh,2,none⟩=some (.slice AH2 (zAc BT (f d.fr).den).length cH2))/\(w'.cell? ⟨bx,0,none⟩=some (.bool false)/\w'.cell? ⟨bx,1,none⟩=some (.slice A9 (zAc BT x.num.natAbs).length c9)/\w'.cell? ⟨bx,2,none⟩=some (.slice AD (zAc BT x.den).length cD)))
         ((refine⟨?_,⟨?_,?_,?_⟩,?_,?_,?_⟩<;>first|with_reducible assumption|go_simp))
         (first
          |((go_at_call 122;(with_reducible refine(HMI.o wc.drew).mono ?_);rintro e v1⟨rfl,I⟩;have HB4:Hid (Below wc.heap.size wc v1):=zAa (zAb (aR _ _) 1) I;have HX4:=zq (HX3.o.below HB4.o);have HY4:=zq (HY3.o.below HB4.o);have HQ4:=zq (HQ3.o.below HB4.o);have HL4:=zq (HL3.o.below HB4.o);have HN14:=zq (HN13.o.below HB4.o);have HN24:=zq (HN23.o.below HB4.o);have H94:=zq (H93.o.below HB4.o);have HD4:=zq (HD3.o.below HB4.o);clear I x4 b0 b1 b2 d0 d1 d2;have x4:=HX4.o.c 4 rfl;obtain⟨b0,b1,b2⟩:=HY4.o.t;obtain⟨d0,d1,d2⟩:=HQ4.o.t))
          |((go_at_call 120;(with_reducible refine(HLQ.o v1 HN14.o HN24.o H94.o HD4.o).mono ?_);rintro e v2⟨AE,cE,AF,cF,rfl,hE,hF,I⟩;have HB5:=zq (zAa HB4.o I);have HX5:=zq (HX4.o.below I);have HY5:=zq (HY4.o.below I);have HQ5:=zq (HQ4.o.below I);have HL5:=zq (HL4.o.below I);have H95:=zq (H94.o.below I);have HD5:=zq (HD4.o.below I);have HE5:=zq hE;have HF5:=zq hF;clear hE hF I x4 b0 b1 b2 d0 d1 d2;have x4:=HX5.o.c 4 rfl;obtain⟨b0,b1,b2⟩:=HY5.o.t;obtain⟨d0,d1,d2⟩:=HQ5.o.t))
          |((go_at_call 175;(with_reducible refine(withS_c v K f d.fr (f d.fr-x) AE AF cE cF v2 HL5.o HKI.o hkl HE5.o HF5.o).mono ?_);rintro e v3⟨AG,cG,nG,rfl,hh,I⟩;have HB6:=zq (zAa HB5.o I);have HX6:=zq (HX5.o.below I);have HY6:=zq (HY5.o.below I);have HQ6:=zq (HQ5.o.below I);have HL6:=zq hh;have H96:=zq (H95.o.below I);have HD6:=zq (HD5.o.below I);clear hh I x4 b0 b1 b2 d0 d1 d2;have x4:=HX6.o.c 4 rfl;obtain⟨b0,b1,b2⟩:=HY6.o.t;obtain⟨d0,d1,d2⟩:=HQ6.o.t)))
        obtain⟨f1,hf1⟩:∃f1,f1=upH f d.fr (f d.fr-x):=⟨_,rfl⟩;obtain⟨K1,hK1⟩:∃K1,K1=zDT d.fr K:=⟨_,rfl⟩;rw[<-hK1]at hK1l;have HKI1:Hid (IncN K1):=by show IncN K1;rw[hK1];exact HKI.o.ins
        rw[<-hf1]at HL6 HMB;rw[<-hK1]at HL6
        have HKO1:Hid (HoldOk K1 f1):=by
         show HoldOk _ _
         rw[hK1,hf1];exact(HKO.o.mono fun p hp=>zBG.2 (.inr hp)).up (zBG.2 (.inl rfl)) (sub_pos HXL.o)
        have HF1S:Hid (SzQ 50000000 (f1 d.to_)):=by
         show SzQ _ _
         rw[hf1,zAM _ _ (fun e=>HNE.o e.symm)];exact(HFZ.o d.to_).le za
        have HF1:=zq hf1;have HK1:=zq hK1;have HB7:=zq (zAa HB3.o HB6.o);clear hf1 hK1 HX3 HX4 HX5 HY3 HY4 HY5 HY6 HQ3 HQ4 HQ5 HL3 HL4 HL5 HN13 HN14 HN23 HN24 H93 H94 H95 HD3 HD4 HD5 HE5 HF5 HB3 HB4 HB5 HB6 x4 b0 b1 b2 d0 d1 d2;(go_upto_region 20 with fail);have x5:=HX6.o.c 5 rfl;obtain⟨d0,d1,d2⟩:=HQ6.o.t
        go_region_held3 (fun w'=>w'.cell? ⟨gd,5,none⟩=some (.string d.to_)/\(w'.cell? ⟨bx,0,none⟩=some (.bool false)/\w'.cell? ⟨bx,1,none⟩=some (.slice A9 (zAc BT x.num.natAbs).length c9)/\w'.cell? ⟨bx,2,none⟩=some (.slice AD (zAc BT x.den).length cD)))
         ((refine⟨?_,?_,?_,?_⟩<;>first|with_reducible assumption|go_simp))
         (first
          |((go_at_call 116;(with_reducible refine(partS_c (.slice AG nG cG) K1 f1 d.to_ v3.drew (HL6.o.below (zAb (aR _ _) 1)) HKO1.o hK1l).mono ?_);rintro e v4⟨AI,cI,AJ,cJ,rfl,hI,hJ,I⟩;have HB8:Hid (Below v3.heap.size v3 v4):=zAa (zAb (aR _ _) 1) I;have HX8:=zq (HX6.o.below HB8.o);have HQ8:=zq (HQ6.o.below HB8.o);have HL8:=zq (HL6.o.below HB8.o);have H98:=zq (H96.o.below HB8.o);have HD8:=zq (HD6.o.below HB8.o);have HI8:=zq hI;have HJ8:=zq hJ;clear hI hJ I x5 d0 d1 d2;have x5:=HX8.o.c 5 rfl;obtain⟨d0,d1,d2⟩:=HQ8.o.t))
          |((go_at_call 120;(with_reducible refine(PlusQ_c AI AJ A9 AD cI cJ c9 cD (f1 d.to_) x v4 HI8.o HJ8.o H98.o HD8.o (HMB.o.ok.pos _) HXP.o (HF1S.o) HXS.o).mono ?_);rintro e v5⟨AK,cK,AM,cM,rfl,hK,hM,I⟩;have HB9:=zq (zAa HB8.o I);have HX9:=zq (HX8.o.below I);have HQ9:=zq (HQ8.o.below I);have HL9:=zq (HL8.o.below I);have HK9:=zq hK;have HM9:=zq hM;clear hK hM I x5 d0 d1 d2;have x5:=HX9.o.c 5 rfl;obtain⟨d0,d1,d2⟩:=HQ9.o.t))
          |((go_at_call 175;(with_reducible refine(withS_c (.slice AG nG cG) K1 f1 d.to_ (f1 d.to_+x) AK AM cK cM v5 HL9.o HKI1.o hK1l HK9.o HM9.o).mono ?_);rintro e v6⟨AN,cN,nN,rfl,hh,I⟩;have HBa:=zq (zAa HB9.o I);have HXa:=zq (HX9.o.below I);have HQa:=zq (HQ9.o.below I);have HLa:=zq hh;clear hh I x5 d0 d1 d2;have x5:=HXa.o.c 5 rfl;obtain⟨d0,d1,d2⟩:=HQa.o.t)))
        have HLF:Hid (HoS v6 (.slice AN nN cN) (zAz d K) (zCO d f)):=by
         show HoS _ _ _ _
         unfold zAz zCO giveF;rw[aO (by rw[HQK.o];decide),aO (by rw[HQK.o];decide),<-HXE.o,<-HF1.o,<-HK1.o];exact HLa.o
        have HBb:=zq (zAa HB7.o HBa.o);have HCD:Hid (asgB V U i th S day d=true):=HV.o;clear x5 d0 d1 d2;go_wp2;go_meet;refine⟨_,rfl,?_,HBb.o⟩
        rw[aF HCD.o,aF HCD.o];exact HLF.o
       -- @@2
     case rest =>
     obtain⟨v2,rfl,hho2,hbc⟩:=hcut;obtain⟨w4,hw4⟩:∃w4,w4=wc:=⟨_,rfl⟩;subst hw4;have HH4:=zq hho2;have HX4:=zq (m.o.below hbc);have HY4:=zq (HYD.o.below hbc);have HSH4:=zq (HSH1.o.below hbc);have HB4:=zq hbc;have HNP:Hid (passB day d=false->(if asgB V U i th S day d=true then zAz d K else K)=zBk V U i th S day (k+1)/\(if asgB V U i th S day d=true then zCO d f else f)=zAs V U i th S day (k+1)):=fun hp=>no_pass hp HTK.o HSK.o
     clear hho2 hbc HX3 HH3 HB3;(go_upto_region 21 with fail);have d2:=HX4.o.c 2 rfl;have d12:=HX4.o.c 12 rfl;have sd:=HX4.o.lt;have y2:=HY4.o.c 2 rfl;have sy:=HY4.o.lt
     go_cut[136] from 127 to 137 (fun v wx=>v=.bool (passB day d)/\wx=w4)
     case first =>
      by_cases hq:d.kd=5
      case neg =>
       have e1:(d.kd == 5)=false:=qd;have HE:Hid (passB day d=false):=by show _=_;unfold passB;rw[aE hq];rfl
       clear hq;go_wp2;go_meet;exact⟨by rw[HE.o],rfl⟩
      have e1:(d.kd == 5)=true:=qd;have HE:Hid (passB day d=decide (d.bg<=day)):=by show _=_;unfold passB;rw[aD hq];rfl
      clear hq;go_wp2;go_meet;exact⟨by rw[HE.o],rfl⟩
     case rest =>
     clear d2 d12 sd y2 sy;obtain⟨rfl,hwx⟩:=hcut;subst hwx;obtain⟨w4,hw4⟩:∃w4,w4=wc:=⟨_,rfl⟩;subst hw4;go_upto_if 136 with fail
     go_cut[10,19,20,21] from 136 to 175 (fun lv _ _ _ wx=>∃v,v=lv/\HoS wx v (zBk V U i th S day (k+1)) (zAs V U i th S day (k+1))/\Below w4.heap.size w4 wx)
     case first =>
      cases hpb:passB day d with
      |false =>
       have HE:=zq hpb;have HR:=HNP.o hpb;rw[HR.1,HR.2]at HH4;clear hpb HR;go_wp2;go_meet;exact⟨_,rfl,HH4.o,aR _ _⟩
      |true =>
       -- @@3
       obtain⟨hkd5,hmv,hag⟩:=pass_mov (V:=V) (U:=U) (i:=i) (th:=th) (S:=S) hpb;rw[aO (by rw[hag];simp),aO (by rw[hag];simp)]at HH4;obtain⟨M,hM1,hM2⟩:=HTA.o hmv;obtain⟨t1,t2⟩:=HTK.o hmv;have HEP:=zq t1;have HEQ:=zq t2;have HPF:=zq (pass_facts hkd5 HPA.o hM1 hM2 HKI.o HKO.o (by rw[<-t2];exact HKN.o));have HE5:=zq hkd5;have HPB:=zq hpb;have HFS:Hid (SzQ 10000000 (f d.fr)):=HFZ.o d.fr;have HFP:Hid (0<=f d.fr):=hM1.ok.pos _;clear hpb hkd5 hmv hag hM1 hM2 t1 t2;have HPT:=zq (partS_c v2 K f d.fr w4 HH4.o HKO.o hkl);have HI:Hid (∃z:Rat,z=0/\∀u,Calls Tryz.prog 121 #[.int .i64 0] u (zDH z u)):=⟨0,rfl,fun u=>Int_0 u⟩;obtain⟨z,hz,hi0⟩:=HI.o;clear HI;have HZ:=zq hz;have HI:=zq hi0;clear hz hi0;have x4:=HX4.o.c 4 rfl;have hsx:=HX4.o.lt;(go_wp2_with fail);(with_reducible refine HPT.o.mono ?_);rintro e w5⟨AH,cH,AH2,cH2,rfl,h1,h2,hb5⟩;have hba:=ba w5 (.cells (nuC false AH cH (f d.fr).num.natAbs AH2 cH2 (f d.fr).den) 202);have hb6:=zAa hb5 hba;have HX:=zq (HX4.o.below hb6);have HY:Hid (Bx (w5.alloc (.cells (nuC false AH cH (f d.fr).num.natAbs AH2 cH2 (f d.fr).den) 202)) w5.heap.size (nuC false AH cH (f d.fr).num.natAbs AH2 cH2 (f d.fr).den) 202):=Bx.new _ _ _;have Q:=zq (h1.below hba);have HN2:=zq (h2.below hba);have HL:=zq (HH4.o.below hb6);have HSH:=zq (HSH4.o.below hb6);have HBH:=zq hb6;clear x4 hsx h1 h2 hb5 hba hb6 HX4 HH4 HPT HSH4 HY4;(go_upto_region 23 with fail);obtain⟨wh,hwh⟩:∃wh,wh=w5.alloc (.cells (nuC false AH cH (f d.fr).num.natAbs AH2 cH2 (f d.fr).den) 202):=⟨_,rfl⟩;rw[<-hwh]at HX HY Q HN2 HL HSH HBH ⊢;clear hwh;generalize w5.heap.size=gh at *;have x4:=HX.o.c 4 rfl
       go_region_held3 (fun w'=>w'.cell? ⟨gd,4,none⟩=some (.string d.fr))
        (first|with_reducible assumption|go_simp)
        (first
         |((go_at_call 121;(with_reducible refine(HI.o wh.drew).mono ?_);rintro e v1⟨A5,c5,A6,c6,rfl,h5,h6,I⟩;have HB1:Hid (Below wh.heap.size wh v1):=zAa (zAb (aR _ _) 1) I;have X:=zq (HX.o.below HB1.o);have HY1:=zq (HY.o.below HB1.o);have HN11:=zq (Q.o.below HB1.o);have HN21:=zq (HN2.o.below HB1.o);have HL1:=zq (HL.o.below HB1.o);have HSH1:=zq (HSH.o.below HB1.o);have G51:=zq h5;have G61:=zq h6;clear I h5 h6 x4;have x4:=X.o.c 4 rfl))
         |((go_at_call 175;(with_reducible refine(withS_c v2 K f d.fr z A5 A6 c5 c6 v1 HL1.o HKI.o hkl G51.out G61.out).mono ?_);rintro e v3⟨AG,cG,nG,rfl,hh,I⟩;have HB2:=zq (zAa HB1.o I);have HX2:=zq (X.o.below I);have HY2:=zq (HY1.o.below I);have HN12:=zq (HN11.o.below I);have HN22:=zq (HN21.o.below I);have HL2:=zq (HL1.o.below I);have HSH2:=zq (HSH1.o.below I);have G52:=zq (G51.out.below I);have G62:=zq (G61.out.below I);have HM2:=zq hh;clear I hh x4;have x4:=HX2.o.c 4 rfl)))
       have HB3:=zq (zAa HBH.o HB2.o);have HS0:Hid (HoS v3 (.slice AG nG cG) (zBb (d.sh.take 0) (zDT d.fr K)) (zBx (f d.fr) (d.sh.take 0) (upH f d.fr 0))):=by rw[<-HZ.o];exact HM2.o
       clear x4 HX HY Q HN2 HL HSH X HY1 HN11 HN21 HL1 HSH1 HB1 HM2 HL2;have x14:=HX2.o.c 14 rfl;have sx:=HX2.o.lt;go_wp2
       go_loopg[10,20] d.sh.length (PrD v3 (zDT d.fr K) (upH f d.fr 0) d (f d.fr))
       case atStart=>exact⟨0,_,rfl,za,rfl,HS0.o,aR _ _⟩
       clear x14 sx
       case round =>
        obtain⟨j,v5,rfl,hjm,rfl,hho,I⟩:=hrel;have HJ:=zq hjm;have HL:=zq hho;have HBJ:=zq I;have HX:=zq (HX2.o.below I);have HY:=zq (HY2.o.below I);have Q:=zq (HN12.o.below I);have HN2:=zq (HN22.o.below I);have hsx:=HX.o.lt;have hsy:=HY.o.lt;clear hjm hho I
        by_cases hjl:j<d.sh.length
        ·obtain⟨b2',o2,hA,hc2⟩:=(HSH2.o.below HBJ.o) za
         have k0:=(hc2 j hjl).1;have k1:=(hc2 j hjl).2.1;have k2:=(hc2 j hjl).2.2;have HMEM:=zq (aH hjl);have HPS:=zq (passAll_succ (f d.fr) (upH f d.fr 0) hjl);have HKA:=zq (keysAll_succ (zDT d.fr K) hjl);obtain⟨q1,q2,q3,q4⟩:=HPF.o.mid j za;have htl:d.sh.length<=20:=hshl;generalize d.sh[j]=s at *;have HFQ:Hid (∀u,Calls Tryz.prog 176 #[.agg #[.string s.nu,.string s.de]] u (zDH (shQ s) u)):=fun u=>OfT_c s.nu s.de u (HPF.o.so.rat s HMEM.o) (HPF.o.so.pos s HMEM.o)
         have HMP:Hid (0<=f d.fr*shQ s):=(HPF.o.ml s HMEM.o).1;have HMS:Hid (SzQ 10000000 (f d.fr*shQ s)):=(HPF.o.ml s HMEM.o).2;have HQP:Hid (0<=shQ s):=shQ_pos s;have HQS:Hid (SzQ 2000 (shQ s)):=ratQ_sz (HPF.o.so.rat s HMEM.o);have HA:=zq hA;have x14:wr.cell? ⟨gd,14,none⟩=some (.slice (some ⟨b2',o2,none⟩) d.sh.length d.shc):=by rw[<-hA];exact HX.o.c 14 rfl
         clear hc2 hA;obtain⟨fj,hfj⟩:∃fj,fj=zBx (f d.fr) (d.sh.take j) (upH f d.fr 0):=⟨_,rfl⟩;obtain⟨Kj,hKj⟩:∃Kj,Kj=zBb (d.sh.take j) (zDT d.fr K):=⟨_,rfl⟩;rw[<-hfj]at HL HPS q2 q4;rw[<-hKj]at HL HKA q1 q2 q3;have HFJ:=zq hfj;have HJJ:=zq hKj;have HKI2:=zq q1;have HKO2:=zq q2;have hkl2:=q3;have HFJP:Hid (0<=fj s.pt):=q2.pos _;have HFJS:Hid (SzQ 10000000 (fj s.pt)):=q4 _;clear hfj hKj q1 q2 q3 q4;(go_upto_region 28 with fail);obtain⟨b0,b1,b2⟩:=HY.o.t;clear k0 hsx hsy
         go_region_held3 (fun w'=>(w'.cell? ⟨gd,14,none⟩=some (.slice (some ⟨b2',o2,none⟩) d.sh.length d.shc))/\(w'.cell? ⟨b2',o2+j*3+1,none⟩=some (.string s.nu)/\w'.cell? ⟨b2',o2+j*3+2,none⟩=some (.string s.de))/\(w'.cell? ⟨gh,0,none⟩=some (.bool false)/\w'.cell? ⟨gh,1,none⟩=some (.slice AH (zAc BT (f d.fr).num.natAbs).length cH)/\w'.cell? ⟨gh,2,none⟩=some (.slice AH2 (zAc BT (f d.fr).den).length cH2)))
          ((refine⟨?_,⟨?_,?_⟩,?_,?_,?_⟩<;>first|with_reducible assumption|go_simp))
          (first
           |((go_at_call 116;(with_reducible refine(partS_c v5 Kj fj s.pt wr.drew (HL.o.below (zAb (aR _ _) 1)) HKO2.o hkl2).mono ?_);rintro e u1⟨A1,c1,Z,c2,rfl,h1,h2,I⟩;have HB1:Hid (Below wr.heap.size wr u1):=zAa (zAb (aR _ _) 1) I;have X:=zq (HX.o.below HB1.o);have HY1:=zq (HY.o.below HB1.o);have HN11:=zq (Q.o.below HB1.o);have HN21:=zq (HN2.o.below HB1.o);have HL1:=zq (HL.o.below HB1.o);have G11:=zq h1;have G21:=zq h2;replace x14:=zAe HB1.o x14;replace k1:=zAe HB1.o k1;replace k2:=zAe HB1.o k2;clear I h1 h2 b0 b1 b2;obtain⟨b0,b1,b2⟩:=HY1.o.t))
           |((go_at_call 176;(with_reducible refine(HFQ.o u1).mono ?_);rintro e u2⟨A7,c7,A8,c8,rfl,h7,h8,I⟩;have HB2:=zq (zAa HB1.o I);have HX2:=zq (X.o.below I);have HY2:=zq (HY1.o.below I);have HN12:=zq (HN11.o.below I);have HN22:=zq (HN21.o.below I);have HL2:=zq (HL1.o.below I);have G12:=zq (G11.out.below I);have G22:=zq (G21.out.below I);have G72:=zq h7;have G82:=zq h8;replace x14:=zAe I x14;replace k1:=zAe I k1;replace k2:=zAe I k2;clear I h7 h8 b0 b1 b2;obtain⟨b0,b1,b2⟩:=HY2.o.t))
           |((go_at_call 177;(with_reducible refine(TimesQ_c AH AH2 A7 A8 cH cH2 c7 c8 (f d.fr) (shQ s) u2 HN12.o HN22.o G72.out G82.out HFP.o HQP.o (HFS.o.le za) (HQS.o.le za)).mono ?_);rintro e u3⟨A9,c9,AD,cD,rfl,h9,hD,I⟩;have HB3:=zq (zAa HB2.o I);have HX3:=zq (HX2.o.below I);have HY3:=zq (HY2.o.below I);have HN13:=zq (HN12.o.below I);have HN23:=zq (HN22.o.below I);have HL3:=zq (HL2.o.below I);have G13:=zq (G12.out.below I);have G23:=zq (G22.out.below I);have G73:=zq (G72.out.below I);have G83:=zq (G82.out.below I);have G93:=zq h9;have GD3:=zq hD;replace x14:=zAe I x14;replace k1:=zAe I k1;replace k2:=zAe I k2;clear I h9 hD b0 b1 b2;obtain⟨b0,b1,b2⟩:=HY3.o.t))
           |((go_at_call 120;(with_reducible refine(PlusQ_c A1 Z A9 AD c1 c2 c9 cD (fj s.pt) (f d.fr*shQ s) u3 G13.out G23.out G93.out GD3.out HFJP.o HMP.o (HFJS.o.le za) (HMS.o.le za)).mono ?_);rintro e u4⟨AE,cE,AF,cF,rfl,hE,hF,I⟩;have HB4:=zq (zAa HB3.o I);have HX4:=zq (HX3.o.below I);have HY4:=zq (HY3.o.below I);have HN14:=zq (HN13.o.below I);have HN24:=zq (HN23.o.below I);have HL4:=zq (HL3.o.below I);have G14:=zq (G13.out.below I);have G24:=zq (G23.out.below I);have G94:=zq (G93.out.below I);have GD4:=zq (GD3.out.below I);have GE4:=zq hE;have GF4:=zq hF;replace x14:=zAe I x14;replace k1:=zAe I k1;replace k2:=zAe I k2;clear I hE hF b0 b1 b2;obtain⟨b0,b1,b2⟩:=HY4.o.t))
           |((go_at_call 175;(with_reducible refine(withS_c v5 Kj fj s.pt (fj s.pt+f d.fr*shQ s) AE AF cE cF u4 HL4.o HKI2.o hkl2 GE4.out GF4.out).mono ?_);rintro e u5⟨AG,cG,nG,rfl,hh,I⟩;have HB5:=zq (zAa HB4.o I);have HX5:=zq (HX4.o.below I);have HY5:=zq (HY4.o.below I);have HN15:=zq (HN14.o.below I);have HN25:=zq (HN24.o.below I);have HL5:=zq (HL4.o.below I);have GE5:=zq (GE4.out.below I);have GF5:=zq (GF4.out.below I);have HM5:=zq hh;replace x14:=zAe I x14;replace k1:=zAe I k1;replace k2:=zAe I k2;clear I hh b0 b1 b2;obtain⟨b0,b1,b2⟩:=HY5.o.t)))
         have HE:Hid (HoS u5 (.slice AG nG cG) (zBb (d.sh.take (j+1)) (zDT d.fr K)) (zBx (f d.fr) (d.sh.take (j+1)) (upH f d.fr 0))):=by show HoS _ _ _ _;rw[HPS.o,HKA.o];exact HM5.o
         have HBE:=zq (zAa HBJ.o HB5.o);clear x14 k1 k2 b0 b1 b2;exact tcy
        ·obtain rfl:j=d.sh.length:=by have:=HJ.o;omega
         have x14:=HX.o.c 14 rfl
         have HE:Hid (HoS wr v5 (zBk V U i th S day (k+1)) (zAs V U i th S day (k+1))):=by
          have:=HL.o;rw[aN]at this;show HoS _ _ _ _
          rw[HEP.o,HEQ.o];unfold zCO zAz;rw[aF HE5.o,aF HE5.o];exact this
         have HBE:=zq (zAa HB3.o HBJ.o);clear HL;go_wp2;go_meet;exact⟨_,rfl,HE.o,HBE.o⟩
       -- @@4
     case rest =>
     obtain⟨v5,rfl,hho5,hb5⟩:=hcut;obtain⟨w5,hw5⟩:∃w5,w5=wc:=⟨_,rfl⟩;subst hw5;have HBK:=zq (zAa HBD.o (zAa HB4.o hb5));have HPS:=zq (HPK.o.below HBK.o);clear hb5 HNP HX4 HY4 HH4 HSH4 HB4 HBD HTA HTK HSK HVA HPA HSH1 m HXD HYD HH1 HFZ HKI HKO HEF HEK;have HHK:=zq hho5;obtain⟨A,c,l,rfl,hrd,hok,hpr⟩:=hho5;have hll:l.length<=1000000:=by rw[zDW hpr];exact HKN.o
     have HRD:=zq hrd;have HOK:=zq hok;have HPR:=zq hpr;have HQS:Hid (∀x∈l,SzQ 10000000 x.q):=fun x hx=>by rw[hos_q hpr x hx];exact HFN.o _
     clear hrd hok hpr HFN HKN;go_wp2
     go_loopg[11,22] l.length (PrE w5 (longF V U i th S day k) (prH l))
     case atStart=>exact⟨0,_,by rw[bZ];omega,rfl,rfl,ze,aR _ _⟩
     case round =>
      obtain⟨j,lb,hjm,rfl,rfl,hle,I⟩:=hrel;rw[bZ]at hjm;have HJ:=zq hjm;have HLE:=zq hle;have HBJ:=zq I;clear hjm hle I
      by_cases hjl:j<l.length
      ·obtain⟨b2',o2,hA,hc2⟩:=HRD.o za
       subst hA;have hrg0:=ho_at hc2 hjl;have N:wr.rangeAt b2' (o2+j*4) (eHo l[j]):=fun q v hv=>zAe HBJ.o (hrg0 q v hv)
       have hkx:=HOK.o _ (aH hjl);have HSN:=zq (any_snoc hjl);have hqx:=HQS.o _ (aH hjl);generalize l[j]=x at *;obtain⟨pt,t,b,q⟩:=x;obtain⟨A3,c3,A4,c4,e3,e4,h3,h4⟩:=hkx;simp only at e3 e4 hqx;subst e3;subst e4;have HQX:=zq hqx;have x1:wr.cell? ⟨b2',o2+j*4+1,none⟩=some (.bool false):=N 1 _ rfl;have x2:wr.cell? ⟨b2',o2+j*4+1+1,none⟩=some (.slice A3 (zAc BT q.num.natAbs).length c3):=N 2 _ rfl;have x3:wr.cell? ⟨b2',o2+j*4+1+2,none⟩=some (.slice A4 (zAc BT q.den).length c4):=N 3 _ rfl;have HLQ:=zq (LongQ_c A3 A4 c3 c4 q wr (h3.below HBJ.o) (h4.below HBJ.o) (hqx.le za) (HPS.o.below HBJ.o));clear hrg0 N hqx h3 h4 hc2
       cases lb with
       |true =>
        have HE:Hid (true=(longF V U i th S day k || ((prH l).take (j+1)).any fun x=>longQ x.2)):=by
         show _=_
         rw[HSN.o,<-Bool.or_assoc,<-HLE.o];rfl
        clear HLQ;go_wp2
        go_roundg (gk-1)
        case measure=>have:=HJ.o;omega
        case rel=>exact⟨j+1,true,jb,zi,rfl,HE.o,HBJ.o⟩
       |false =>
        have HE:Hid (longQ q=(longF V U i th S day k || ((prH l).take (j+1)).any fun x=>longQ x.2)):=by
         show _=_
         rw[HSN.o,<-Bool.or_assoc,<-HLE.o];rfl
        (go_wp2_with fail);(with_reducible refine HLQ.o.mono ?_);rintro e w6⟨rfl,hb6⟩;have HBX:=zq (zAa HBJ.o hb6);clear x1 x2 x3 hb6 HLQ;go_wp2
        go_roundg (gk-1)
        case measure=>have:=HJ.o;omega
        case rel=>exact⟨j+1,_,jb,zi,rfl,HE.o,HBX.o⟩
      ·obtain rfl:j=l.length:=by have:=HJ.o;omega
       have HE:Hid (lb=longF V U i th S day (k+1)):=by
        show _=_
        have h1:=HLE.o;rw[bT (by rw[bZ];exact aK _),HPR.o,any_pairs]at h1;rw[HLS.o];exact h1
       have HHF:=zq (HHK.o.below HBJ.o);have HBF:=zq (zAa HBK.o HBJ.o);clear HLE;go_wp2
       go_roundg (n-(k+1))
       case measure=>have:=HK.o;omega
       case rel=>exact⟨k+1,_,rfl,zh,zi,by rw[HE.o],HHF.o,HBF.o⟩
    ·obtain rfl:k=n:=by have:=HK.o;omega
     obtain⟨w5,hw5⟩:∃w5,w5=wr:=⟨_,rfl⟩;subst hw5;obtain⟨A,c,l,rfl,hrd,hok,hpr⟩:=HHO.o;have hll:l.length<=1000000:=by rw[zDW hpr];exact keys_len HC.o i th S day k J
     have HRD:=zq hrd;have HOK:=zq hok;have HPR:=zq hpr;have HQS:Hid (∀x∈l,True):=fun _ _=>trivial
     clear hrd hok hpr x2 hsx X HHO;go_wp2
     go_loopg[23,24] l.length (PrF w5 (prH l))
     case atStart=>exact⟨0,_,[],rfl,by rw[bZ];omega,rfl,zAv.nil _ _ _ _ _,fun x hx=>(by cases hx),aK _,ze,aR _ _⟩
     case round =>
      obtain⟨j,v,lo,rfl,hjm,rfl,hown,hoko,hlo,hprl,I⟩:=hrel;rw[bZ]at hjm;have HJ:=zq hjm;have HOW:=zq hown;have HKO:=zq hoko;have HPL:=zq hprl;have HBJ:=zq I;clear hjm hown hoko hprl I
      by_cases hjl:j<l.length
      ·obtain⟨b2',o2,hA,hc2⟩:=HRD.o za
       subst hA;have hrg0:=ho_at hc2 hjl;have N:wr.rangeAt b2' (o2+j*4) (eHo l[j]):=fun q v hv=>zAe HBJ.o (hrg0 q v hv)
       have hkx:=HOK.o _ (aH hjl);have HSN:=zq (filter_snoc hjl);have hqx:=HQS.o _ (aH hjl);generalize l[j]=x at *;obtain⟨pt,t,b,q⟩:=x;obtain⟨A3,c3,A4,c4,e3,e4,h3,h4⟩:=hkx;simp only at e3 e4 hqx;subst e3;subst e4;have HQX:=zq hqx;have x1:wr.cell? ⟨b2',o2+j*4+1,none⟩=some (.bool false):=N 1 _ rfl;have x2:wr.cell? ⟨b2',o2+j*4+1+1,none⟩=some (.slice A3 (zAc BT q.num.natAbs).length c3):=N 2 _ rfl;have x3:wr.cell? ⟨b2',o2+j*4+1+2,none⟩=some (.slice A4 (zAc BT q.den).length c4):=N 3 _ rfl;have HNT:Hid (NumT w5 (lmV A3 c3 q.num.natAbs) (lmV A4 c4 q.den) q):=⟨A3,c3,A4,c4,rfl,rfl,h3,h4⟩;have HRG:=zq N;have hiz:=isZero_c false A3 A4 c3 c4 q.num.natAbs q.den wr;rw[num_zero]at hiz;obtain⟨zb,hzb⟩:∃zb,zb=decide (q=0):=⟨_,rfl⟩;rw[<-hzb]at hiz;have HIZ:=zq hiz;have HZB:=zq hzb;clear hrg0 N h3 h4 hc2 hiz hzb hqx HQX;(go_wp2_with fail);(with_reducible refine HIZ.o.mono ?_);rintro e w6⟨rfl,hb6⟩;have HB6:=zq (zAa HBJ.o hb6);have HOW6:=zq (HOW.o.below hb6);have hrg6:w6.rangeAt b2' (o2+j*4) (eHo ⟨pt,lmV A3 c3 q.num.natAbs,lmV A4 c4 q.den,q⟩):=fun i v hv=>zAe hb6 (HRG.o i v hv)
       have hWr:w5.heap.size<=w6.heap.size:=HB6.o.size;clear x1 x2 x3 hb6 HIZ HRG HOW
       cases zb with
       |true =>
        have HE:Hid (prH lo=((prH l).take (j+1)).filter fun x=>decide (x.2≠0)):=by
         show _=_
         have hq0:q=0:=fE HZB.o.symm;rw[HSN.o,HPL.o,aF hq0,bV]
        clear hrg6;go_wp2
        go_roundg (gk-1)
        case measure=>have:=HJ.o;omega
        case rel=>exact⟨j+1,_,lo,rfl,jb,zi,HOW6.o,HKO.o,za,HE.o,HB6.o⟩
       |false =>
        have HE:Hid (prH (lo++[⟨pt,lmV A3 c3 q.num.natAbs,lmV A4 c4 q.den,q⟩])=((prH l).take (j+1)).filter fun x=>decide (x.2≠0)):=by
         show _=_
         have hq0:¬q=0:=of_decide_eq_false HZB.o.symm;rw[HSN.o,prH_app,HPL.o,aO hq0];rfl
        (go_upto_region 38 with fail);(iterate 14 go_step);refine fG _ _ zk b2' (o2+j*4) zk (eHo ⟨pt,lmV A3 c3 q.num.natAbs,lmV A4 c4 q.den,q⟩) _ hrg6 Tryz.underlying206 rfl zc ?_
        go_wp2_with (at_builtin;refine zAT _ _ _ elHo rfl rfl w5.heap.size v lo rfl (HOW6.o.alloc _) w6.heap.size 1 (⟨pt,lmV A3 c3 q.num.natAbs,lmV A4 c4 q.den,q⟩:Ho) rfl (aJ _ _) rfl (oneHo HNT.o) zn za zg ?_;intro v3 w7 P hg7 hb7)
        have HO7:=zq P;have HB7:=zq ((HB6.o.alloc hWr _).trans hb7);clear P hg7 hb7;go_wp2
        go_roundg (gk-1)
        case measure=>have:=HJ.o;omega
        case rel =>
         refine⟨j+1,_,lo++[⟨pt,lmV A3 c3 q.num.natAbs,lmV A4 c4 q.den,q⟩],rfl,jb,zi,HO7.o,fun y hy=>?_,by rw[eA];simp;omega,HE.o,HB7.o⟩
         rcases List.mem_append.1 hy with h|h
         ·exact HKO.o y h
         ·rw[List.mem_singleton.1 h];exact HNT.o
      ·obtain rfl:j=l.length:=by have:=HJ.o;omega
       have HE:Hid (prH lo=zCN (holL (zBk V U i th S day k) (zAs V U i th S day k)) (zAs V U i th S day k)):=by
        show _=_
        rw[HPL.o,bT (by rw[bZ];exact aK _),HPR.o,filter_pairs]
       obtain⟨A5,c5,rfl,hrd5⟩:=HOW.o.rdk;have HR5:=zq hrd5;have HK5:=zq (HKO.o.below HBJ.o);have HBF:=zq (zAa HB.o (zAa HBW.o HBJ.o));clear hrd5;go_wp2;go_ret2
       exact⟨A5,c5,_,rfl,⟨A5,c5,lo,rfl,HR5.o,HK5.o,HE.o⟩,HBF.o⟩
end Go.Proofs.YtbbchlpccgkikaaGreatDoor
