/- Parts of the proof, joined: The reference's Shares. The reference's sum of all parts. The referenc. -/
import Derived.Test.YtbbchlpccgkikaaGreatDoorSb30
import Derived.Lib.MinMax
set_option maxRecDepth 100000
set_option maxHeartbeats 8000000
namespace Go.Proofs.YtbbchlpccgkikaaGreatDoor
open Go.RowKit Dw
theorem ho_q{l:List Ho}{L:List BA}{f:zBq}(h:prH l=zCN L f){j:Nat}(hj:j<l.length):∃h2:j<L.length,(l[j]).q=f L[j]/\(l[j]).pt=L[j]:=by
 have hlen:=zDW h;have h2:j<L.length:=za;have e:=bE (fun x:List (BA×Rat)=>x[j]?) h;simp only[prH,zCN,List.getElem?_map,List.getElem?_eq_getElem hj,List.getElem?_eq_getElem h2,aP,aQ,Prod.mk.injEq]at e;exact⟨h2,e.2.trans zk,e.1⟩
theorem natAbs_q(q:Rat):decide (q.num.natAbs=0)=decide (q=0):=by
 rw[bU,fF,fF]
 constructor
 ·intro h;exact Rat.num_eq_zero.1 za
 ·rintro rfl;rfl
theorem hold_holL{K:List BA}{f:zBq}(h:HoldOk K f):HoldOk (holL K f) f:=
 ⟨h.pos,fun _ hp=>bY fun J=>hp ((holL_mem h).2 J)⟩
def BhR(W:World)(L:List BA)(F:BA->Bool)(n m:Nat)(iv:Value)(wr:World):Prop:=
 ∃j:Nat,j+m=n/\iv=.int .i64 (j:Nat)/\(L.take j).any F=false/\Below W.heap.size W wr
theorem breachR_c(RA:OA)(rc:Nat)(V:List Rg)(UA:OA)(O:Nat)(us:List BA)(DA:OA)(dc:Nat)(U:List De)(k i:Nat)(pl S:BA)(day:Int)(w:World)(hr:Rgs w RA V)(hd:Des w DA U)(hc:zBY V us U=0)(hi:i<V.length)(hpl:(V[i]).nm=pl)(hk:k<U.length)(hdc:U.length<=dc)(hgv:zAg (U[k]).kd=true)(hP:POK w): Calls Tryz.prog 58 #[.agg (tiC RA rc V UA O us DA dc U),.int .i64 (k:Int),.agg (whrC pl S day)] w (zAf (.bool (brB V U i S day k U[k])) w):=by
 have hc2:=zDn hc k;have hkl:(U.take k).length=k:=yc;obtain⟨hcr,_,hdl⟩:=zBd hc;have hmem:=aH hk;have hsh:=zCA hc _ hmem;have hks:=zCa hc i (U[k]).th S day k;have hkn:=keys_len hc i (U[k]).th S day k za;have hks2:=zCa hc2 i (U[k]).th S day k;have hkn2:=keys_len hc2 i (U[k]).th S day k za;have HVA:=zq (fun(u:World)(hu:Below w.heap.size w u)=>validR_c RA rc V UA O us DA dc U k i pl S day u (hr.below hu) (hd.below hu) (zCi hcr) hi hpl hk hdl (zCS hc) hgv hsh.2 hsh.1);have HPA:=zq (fun(u:World)(hu:Below w.heap.size w u)=>partsR_c RA rc V UA O us DA dc U i k (U[k]).th pl S day u (hr.below hu) (hd.below hu) hc hi hpl za (hP.below hu));have HPB:=zq (fun(u:World)(hu:Below w.heap.size w u)=>partsR_c RA rc V UA O us DA dc (U.take k) i k (U[k]).th pl S day u (hr.below hu) ((hd.cut k).below hu) hc2 hi hpl za (hP.below hu));have HMU:=zq (fun(ho:BA)(u:World)(hu:Below w.heap.size w u)=>mayUse_c RA rc V UA O us DA dc (U.take k) i (U[k]).th (U[k]).fr ho pl S day u (hr.below hu) ((hd.cut k).below hu) (zCi hcr) hi hpl za (zCS hc2) (zCA hc2) (to_ne hc2));have hT:tiC RA rc V UA O us DA dc (U.take k)=#[.slice RA V.length rc,.slice UA us.length O,.slice DA k dc]:=by unfold tiC;rw[hkl]
 rw[hkl,hT]at HMU;rw[hT]at HPB;clear hT;obtain⟨b,o,hA,hb0,hc0⟩:=hd za;subst hA;have N:=(hc0 k hk).1;clear hc0 hd hc hc2 hcr hmem hsh hgv hP hr hi hpl;generalize C:brB V U i S day k U[k]=res;rw[brB_bz]at C;unfold bzB at C;have HR:=zq C;clear C;generalize U[k]=d at *;have HKS:=zq hks;have HKN:=zq hkn;have HKS2:=zq hks2;have HKN2:=zq hkn2;clear hks hkn hks2 hkn2;have hbw:Below w.heap.size w ((w.alloc (.cells (tiC RA rc V UA O us (some ⟨b,o,none⟩) dc U) 26)).alloc (.cells (whrC pl S day) 135)):=((aR _ _).alloc (aK _) _).alloc ze _;have HX:Hid (Bx ((w.alloc (.cells (tiC RA rc V UA O us (some ⟨b,o,none⟩) dc U) 26)).alloc (.cells (whrC pl S day) 135)) w.heap.size (tiC RA rc V UA O us (some ⟨b,o,none⟩) dc U) 26):=(Bx.new _ _ _).alloc _;have HY:Hid (Bx ((w.alloc (.cells (tiC RA rc V UA O us (some ⟨b,o,none⟩) dc U) 26)).alloc (.cells (whrC pl S day) 135)) (w.heap.size+1) (whrC pl S day) 135):=Bx.new1 _ _ _ _;obtain⟨W,hW⟩:∃W,W=(w.alloc (.cells (tiC RA rc V UA O us (some ⟨b,o,none⟩) dc U) 26)).alloc (.cells (whrC pl S day) 135):=⟨_,rfl⟩;rw[<-hW]at hbw HX HY;have HB:=zq hbw;have N:W.rangeAt b (o+k*16) (deC d).toList:=fun q v hv=>zAe hbw (N q v hv)
 clear hbw
 go_enter Tryz.func58,Tryz.ntmps58;(go_upto_region 1 with fail);rw[<-hW];clear hW;have x2:=HX.o.c 2 rfl;have hsx:=HX.o.lt;(iterate 14 go_step);refine fG _ _ zk b (o+k*16) zk (deC d).toList _ N Tryz.underlying126 rfl zc ?_;clear N;(go_upto_region 2 with fail);obtain⟨wd,hwd⟩:∃wd,wd=W.alloc (.cells (deC d) 126):=⟨_,rfl⟩;rw[<-hwd];have hbd:Below W.heap.size W wd:=zm;have m:Hid (Bx wd W.heap.size (deC d) 126):=zo;have HBD:=zq (zAa HB.o hbd);have X:=zq (HX.o.below hbd);have HY1:=zq (HY.o.below hbd);have HV:=zq (HVA.o wd HBD.o);clear hwd hbd HX HY HB x2 hsx;(iterate 2 go_step);refine fG _ _ zk w.heap.size 0 zk (tiC RA rc V UA O us (some ⟨b,o,none⟩) dc U).toList _ (zBt X.o) Tryz.underlying26 rfl zc ?_;obtain⟨y0,y1,y2⟩:=HY1.o.t;have hsy:=HY1.o.lt;(go_wp2_with fail);(with_reducible refine HV.o.mono ?_);rintro e wv⟨rfl,hbv⟩;have HBV:=zq (zAa HBD.o hbv);have HDV:=zq (m.o.below hbv);have HXV:=zq (X.o.below hbv);have HYV:=zq (HY1.o.below hbv);clear hbv HV HVA HBD m X HY1 y0 y1 y2 hsy
 cases hv:vB V U i S day d with
 |false =>
  have HF:Hid (res=false):=by show _=_;rw[<-HR.o,hv];rfl
  clear hv;go_wp2;go_ret
  exact zAf.mk yb HBV.o
 |true =>
 have HR1:=zq HR.o;rw[hv,eL]at HR1;clear hv HR;have d2:=HDV.o.c 2 rfl;have d3:=HDV.o.c 3 rfl;have hsd:=HDV.o.lt
 by_cases h2:d.kd=2
 ·have e1:(d.kd == 2)=true:=by simpa using h2
  have HR2:Hid (decide (zAs V U i d.th S day k d.fr=0)=res):=by show _=_;rw[<-HR1.o,aF h2]
  have HP:=zq (HPA.o wv HBV.o);clear h2 HR1 HPA HPB HMU HKS2 HKN2;(go_upto_region 5 with fail);(iterate 2 go_step);refine fG _ _ zk w.heap.size 0 zk (tiC RA rc V UA O us (some ⟨b,o,none⟩) dc U).toList _ (zBt HXV.o) Tryz.underlying26 rfl zc ?_;obtain⟨y0,y1,y2⟩:=HYV.o.t;have hsy:=HYV.o.lt;(go_wp2_with fail);(with_reducible refine HP.o.mono ?_);rintro e w6⟨A,c,nn,rfl,hho,hb6⟩;have HB6:=zq (zAa HBV.o hb6);have HD6:=zq (HDV.o.below hb6);have HPO:=zq (partS_c _ _ _ d.fr w6 hho (hold_holL HKS.o.2.1) (dX (eH _ _) HKN.o));clear hb6 hho HP HBV HDV HXV HYV d2 d3 hsd y0 y1 y2 hsy e1 HKS HKN;generalize zAs V U i d.th S day k d.fr=q at *;have d4:=HD6.o.c 4 rfl;have hsd:=HD6.o.lt;(go_wp2_with fail);(with_reducible refine HPO.o.mono ?_);rintro e w7⟨A5,c5,A6,c6,rfl,_,_,hb7⟩;have HB7:=zq (zAa HB6.o hb7);clear hb7 HPO HB6 HD6 d4 hsd;(go_wp2_with fail);(with_reducible refine(isZero_c false A5 A6 c5 c6 q.num.natAbs q.den _).mono ?_);rintro e w8⟨rfl,hb8⟩;have HB8:=zq (zAa HB7.o hb8);have HQ:=zq (natAbs_q q);clear hb8 HB7;generalize decide (q.num.natAbs=0)=vb at *;go_wp2;go_ret
  exact zAf.mk (by first|(rw[<-HR2.o,HQ.o];rfl)|rw[<-HR2.o,HQ.o]) HB8.o
 ·have e1:(d.kd == 2)=false:=by simpa using h2
  have HR2:Hid ((decide (zAs V (U.take k) i d.th S day k d.fr=0)&&(holL (zBk V (U.take k) i d.th S day k) (zAs V (U.take k) i d.th S day k)).all fun h=>!mayF V (U.take k) i S day d.th d.fr h)=res):=by show _=_;rw[<-HR1.o,aO h2]
  obtain⟨x0,x1,x2⟩:=HXV.o.t;have hsx:=HXV.o.lt;have hct:=fun W=>run_cutToD (some ⟨b,o,none⟩) U.length dc k za W
  clear h2 HR1 HPA HKS HKN;go_upto_region 7 with fail
  go_region_held3 (fun w'=>w'.cell? ⟨w.heap.size,0,none⟩=some (.slice RA V.length rc)/\w'.cell? ⟨w.heap.size,1,none⟩=some (.slice UA us.length O)/\w'.cell? ⟨w.heap.size,2,none⟩=some (.slice (some ⟨b,o,none⟩) U.length dc))
   ((refine⟨?_,?_,?_⟩<;>first|with_reducible assumption|go_simp))
   (fail)
  obtain⟨wt,hwt⟩:∃wt,wt=(wv.alloc (.cells #[.slice RA V.length rc,.slice UA us.length O,.slice (some ⟨b,o,none⟩) k dc] 26)).drew:=⟨_,rfl⟩;rw[<-hwt];have hbt:Below wv.heap.size wv wt:=by rw[hwt];exact zAb ((aR _ _).alloc (aK _) _) 1
  have HT:Hid (Bx wt wv.heap.size #[.slice RA V.length rc,.slice UA us.length O,.slice (some ⟨b,o,none⟩) k dc] 26):=by show Bx _ _ _ _;rw[hwt];exact(Bx.new _ _ _).drew
  obtain⟨bt,hbte⟩:∃bt,bt=wv.heap.size:=⟨_,rfl⟩;rw[<-hbte]at HT ⊢;have HBT:=zq (zAa HBV.o hbt);have HDT:=zq (HDV.o.below hbt);have HYT:=zq (HYV.o.below hbt);have HP:=zq (HPB.o wt HBT.o);clear hwt hbt hbte HBV HDV HXV HYV HPB x0 x1 x2 hsx hct d2 d3 hsd e1;(go_upto_region 8 with fail);(iterate 2 go_step);refine fG _ _ zk bt 0 zk (#[.slice RA V.length rc,.slice UA us.length O,.slice (some ⟨b,o,none⟩) k dc]:Array Value).toList _ (zBt HT.o) Tryz.underlying26 rfl zc ?_;have d3:=HDT.o.c 3 rfl;have hsd:=HDT.o.lt;obtain⟨y0,y1,y2⟩:=HYT.o.t;have hsy:=HYT.o.lt;(go_wp2_with fail);(with_reducible refine HP.o.mono ?_);rintro e w6⟨A,c,nn,rfl,hho,hb6⟩;have HB6:=zq (zAa HBT.o hb6);have HD6:=zq (HDT.o.below hb6);have HY6:=zq (HYT.o.below hb6);have HT6:=zq (HT.o.below hb6);have hkn:(holL (zBk V (U.take k) i d.th S day k) (zAs V (U.take k) i d.th S day k)).length<=1000000:=dX (eH _ _) HKN2.o;have HPO:=zq (partS_c _ _ _ d.fr w6 hho (hold_holL HKS2.o.2.1) hkn);have HHO:=zq hho;clear hb6 hho HP HBT HDT HYT HT d3 hsd y0 y1 y2 hsy HKS2 HKN2;obtain⟨f,hf⟩:∃f,f=zAs V (U.take k) i d.th S day k:=⟨_,rfl⟩;rw[<-hf]at HR2 HHO HPO hkn;obtain⟨L,hL⟩:∃L,L=holL (zBk V (U.take k) i d.th S day k) f:=⟨_,rfl⟩;rw[<-hL]at HR2 HHO hkn;clear hf hL;have d4:=HD6.o.c 4 rfl;have hsd:=HD6.o.lt;(go_wp2_with fail);(with_reducible refine HPO.o.mono ?_);rintro e w7⟨A5,c5,A6,c6,rfl,_,_,hb7⟩;have HB7:=zq (zAa HB6.o hb7);have HW7:=zq hb7;clear hb7 HPO d4 hsd;(go_wp2_with fail);(with_reducible refine(isZero_c false A5 A6 c5 c6 (f d.fr).num.natAbs (f d.fr).den _).mono ?_);rintro e w8⟨rfl,hb8⟩;have HB8:=zq (zAa HB7.o hb8);have HW8:=zq (zAa HW7.o hb8);clear hb8 HB7 HW7;have hzq:=natAbs_q (f d.fr);obtain⟨z,hz⟩:∃z,z=decide ((f d.fr).num.natAbs=0):=⟨_,rfl⟩;rw[<-hz]at hzq ⊢;clear hz
  by_cases hq:f d.fr=0
  case neg =>
   have HF:Hid (res=false):=by show _=_;rw[<-HR2.o,aE hq,eK]
   rw[aE hq]at hzq;subst hzq;clear hq;go_wp2;go_ret
   exact zAf.mk yb HB8.o
  have HR3:Hid ((L.all fun h=>!mayF V (U.take k) i S day d.th d.fr h)=res):=by show _=_;rw[<-HR2.o,aD hq,eL]
  rw[aD hq]at hzq;subst hzq;clear hq HR2;obtain⟨A1,c1,l,he,hrd,hok,hpr⟩:=HHO.o
  injection he with he1 he2 he3
  subst he1 he2 he3;have hll:l.length=L.length:=zDW hpr;have HLL:=zq hll;have HRD:=zq hrd;have HPQ:=zq (fun j (h:j<l.length)=>ho_q hpr h);have hlb:l.length<=1000000:=za;have HD8:=zq (HD6.o.below HW8.o);have HY8:=zq (HY6.o.below HW8.o);have HT8:=zq (HT6.o.below HW8.o);clear hrd hok hpr HHO hll hkn HD6 HY6 HT6 HB6;go_wp2
  go_loopg[13] l.length (BhR w8 L (fun h=>mayF V (U.take k) i S day d.th d.fr h) l.length)
  case atStart=>exact⟨0,za,rfl,ze,aR _ _⟩
  case round =>
   obtain⟨j,hjm,rfl,hno,I⟩:=hrel;have HJ:=zq hjm;have HNO:=zq hno;have HBW:=zq I;have HB10:=zq (zAa HB8.o I);have HW10:=zq (zAa HW8.o I);clear hjm hno I
   by_cases hjl:j<l.length
   ·obtain⟨hj2,_,hpt⟩:=HPQ.o j hjl
    have HTK:Hid ((L.take (j+1)).any (fun h=>mayF V (U.take k) i S day d.th d.fr h)=mayF V (U.take k) i S day d.th d.fr L[j]):=by
     show _=_
     rw[aG hj2,bS,HNO.o];simp
    have HAY:Hid (mayF V (U.take k) i S day d.th d.fr L[j]=true->res=false):=fun h=>by
     rw[<-HR3.o,List.all_eq_false];exact⟨L[j],aH hj2,by rw[h];simp⟩
    rw[<-hpt]at HTK HAY;obtain⟨bl,ol,hA,hcl⟩:=HRD.o za;subst hA;have N:=ho_at hcl hjl;have c0:wr.cell? ⟨bl,ol+j*4,none⟩=some (.string (l[j]).pt):=zAe HW10.o (N 0 _ rfl);clear N hcl hpt;obtain⟨pt,hpt⟩:∃pt,pt=(l[j]).pt:=⟨_,rfl⟩;rw[<-hpt]at c0 HTK HAY;clear hpt;have HDR:=zq (HD8.o.below HBW.o);have HYR:=zq (HY8.o.below HBW.o);have HTR:=zq (HT8.o.below HBW.o)
    have HVQ:Hid (∀d' os,Calls Tryz.prog 117 #[.agg #[.slice RA V.length rc,.slice UA us.length O,.slice (some ⟨b,o,none⟩) k dc],.string d.th,.string d.fr,.string pt,.agg (whrC pl S day),.int .i64 (k:Int)] (Sort.grow (redrawn wr d') os) (zAf (.bool (mayF V (U.take k) i S day d.th d.fr pt)) (Sort.grow (redrawn wr d') os))):=fun d' os =>
     HMU.o pt _ (zAa HB10.o (below_regrown wr d' os))
    have HLD:Hid (∀W',(∃p:Regrown,W'=Sort.grow (redrawn wr p.d) p.os)->W'.rangeAt bt 0 (#[.slice RA V.length rc,.slice UA us.length O,.slice (some ⟨b,o,none⟩) k dc]:Array Value).toList):=fun W' ⟨p,e⟩ i u hu=>by
     rw[e];exact cell_regrown (zBt HTR.o i u hu) p.d p.os
    have c0':=fun d' os=>cell_regrown c0 d' os
    have d3':=fun d' os=>cell_regrown (HDR.o.c 3 rfl) d' os
    have d4':=fun d' os=>cell_regrown (HDR.o.c 4 rfl) d' os
    have y0:=fun d' os=>cell_regrown (HYR.o.c 0 rfl) d' os
    have y1:=fun d' os=>cell_regrown (HYR.o.c 1 rfl) d' os
    have y2:=fun d' os=>cell_regrown (HYR.o.c 2 rfl) d' os
    clear c0;generalize mayF V (U.take k) i S day d.th d.fr pt=vb at *;(go_upto_region 14 with fail);refine wp_region_quiet_below zc zc ?_;refine quiet_load_ti zc _ zk bt 0 zk #[.slice RA V.length rc,.slice UA us.length O,.slice (some ⟨b,o,none⟩) k dc] rfl HLD.o ?_
    repeat(quiet_step(with_reducible exact Calls.regrown_of (HVQ.o _ _)))
    refine wpQuiet_nil ?_;intro _ hw';obtain⟨⟨dq,osq⟩,hw''⟩:=hw';subst hw'';have HBQ:=zq (zAa HBW.o (below_regrown wr dq osq));clear c0' d3' d4' y0 y1 y2 HLD HVQ HDR HYR HTR HB10 HW10 HBW;generalize Sort.grow (redrawn wr dq) osq=wq at *
    cases vb with
    |false =>
     go_wp2
     go_roundg (gk-1)
     case measure=>have:=HJ.o;omega
     case rel=>exact⟨j+1,ya,zi,HTK.o,HBQ.o⟩
    |true =>
     have HF:=zq (HAY.o rfl);go_wp2;go_ret
     exact zAf.mk yb (zAa HB8.o HBQ.o)
   ·have hte:L.take j=L:=bT (by have:=HLL.o;omega)
    have HF:Hid (res=true):=by
     show _=_
     have:=HNO.o;rw[hte]at this;rw[<-HR3.o,List.all_eq_not_any_not]
     simpa using this
    clear hte;go_wp2;go_ret
    exact zAf.mk yb HB10.o
def BiR1(W:World)(V:List Rg)(us:List BA)(U:List De)(m:Nat)(ov iv:Value)(wr:World):Prop:=
 ∃(j:Nat)(v:Value),v=ov/\j+m=U.length/\iv=.int .i64 (j:Nat)/\zAv encS 1 wr W.heap.size 9 v (brL V us U j)/\Below W.heap.size W wr
def BiR2(W:World)(D:List Int)(F:Int->Bool)(m:Nat)(fv iv:Value)(wr:World):Prop:=
 ∃(j:Nat),fv=.bool ((D.take j).any F)/\j+m=D.length/\iv=.int .i64 (j:Nat)/\Below W.heap.size W wr
def BiR3(W:World)(n0:Nat)(b0:Bool)(F:Nat->Bool)(m:Nat)(fv iv:Value)(wr:World):Prop:=
 ∃(j:Nat),fv=.bool (b0 || (List.range j).any F)/\j+m=n0/\iv=.int .i64 (j:Nat)/\Below W.heap.size W wr
def BiR4(W:World)(us:List BA)(b0:Bool)(F:BA->Bool)(m:Nat)(fv iv:Value)(wr:World):Prop:=
 ∃(j:Nat),fv=.bool (b0 || (us.take j).any F)/\j+m=us.length/\iv=.int .i64 (j:Nat)/\Below W.heap.size W wr
theorem any_snocD{α:Type}{l:List α}{F:α->Bool}{j:Nat}(h:j<l.length):(l.take (j+1)).any F=((l.take j).any F || F l[j]):=by
 rw[aG h,bS];simp
theorem range_snoc{F:Nat->Bool}{j:Nat}:(List.range (j+1)).any F=((List.range j).any F || F j):=by
 rw[eF,bS];simp
theorem any_same{α:Type}{l m:List α}{F:α->Bool}(h:∀x,x∈l↔x∈m):l.any F=m.any F:=by
 rw[bU,eS,eS];exact⟨fun⟨x,a,b⟩=>⟨x,(h x).1 a,b⟩,fun⟨x,a,b⟩=>⟨x,(h x).2 a,b⟩⟩
theorem leaf_nm{V:List Rg}{n:Nat}(h:n<(zAh V).length):∃hi:lfI V n<V.length,(allS V)[n]'(by unfold allS;rw[bZ];exact h)=(V[lfI V n]).nm:=by
 have e:lfI V n=(zAh V)[n]:=by unfold lfI;rw[List.getD_eq_getElem?_getD,List.getElem?_eq_getElem h];rfl
 have hm:=aH h
 have hi:(zAh V)[n]<V.length:=by
  unfold zAh at hm;exact List.mem_range.1 (List.mem_filter.1 hm).1
 refine⟨by rw[e];exact hi,?_⟩
 unfold allS;rw[cA];simp only[e];unfold nmAt;rw[List.getD_eq_getElem?_getD,List.getElem?_eq_getElem hi];rfl
theorem BreachesR_c(RA:OA)(rc:Nat)(V:List Rg)(UA:OA)(O:Nat)(us:List BA)(DA:OA)(dc:Nat)(U:List De)(w:World)(hr:Rgs w RA V)(hu:Strs w UA us)(hd:Des w DA U)(hz:∀i (h:i<V.length),(V[i]).nm.size<=9223372036854775807)(hz2:∀i (h:i<us.length),(us[i]).size<=9223372036854775807)(hdc:U.length<=dc)(hP:POK w): Calls Tryz.prog 17 #[.agg (tiC RA rc V UA O us DA dc U)] w (GivesBk (brA V us U) (zBY V us U) w):=by
 have HX:Hid (Bx (w.alloc (.cells (tiC RA rc V UA O us DA dc U) 26)) w.heap.size (tiC RA rc V UA O us DA dc U) 26):=Bx.new _ _ _;have HB:Hid (Below w.heap.size w (w.alloc (.cells (tiC RA rc V UA O us DA dc U) 26))):=(aR _ _).alloc (aK _) _;obtain⟨W,hW⟩:∃W,W=w.alloc (.cells (tiC RA rc V UA O us DA dc U) 26):=⟨_,rfl⟩;rw[<-hW]at HX HB;have HCK:=zq (CheckTR_c RA rc V UA O us DA dc U W (hr.below HB.o) (hu.below HB.o) (hd.below HB.o) hz hz2);have HDw:=zq hd;have HUw:=zq hu;have HRw:=zq hr;have HPw:=zq hP;clear hr hu hd hP
 go_enter Tryz.func17,Tryz.ntmps17;(go_upto_region 1 with fail);rw[<-hW];clear hW;(iterate 2 go_step);refine fG _ _ zk w.heap.size 0 zk (tiC RA rc V UA O us DA dc U).toList _ (zBt HX.o) Tryz.underlying26 rfl zc ?_;(go_wp2_with fail);(with_reducible refine HCK.o.mono ?_);rintro e w1⟨rfl,hb1⟩;have HB1:=zq (zAa HB.o hb1);have X:=zq (HX.o.below hb1);clear hb1 HCK HX HB
 by_cases hc:zBY V us U=0
 case neg =>
  have hcb:(zBY V us U != 0)=true:=by simpa using hc
  have HS:Hid (brA V us U=[]):=by show _=_;unfold brA;rw[aO hc]
  clear hc;exact tee
 have HC:=zq hc;have HS:Hid (brA V us U=brL V us U U.length):=by show _=_;unfold brA;rw[aF hc]
 obtain⟨hcr,hul,hdl⟩:=zBd HC.o;have HGR:=zq (zCi hcr)
 have HBR:=zq (fun(k i:Nat)(pl S:BA)(day:Int)(u:World)(hu:Below w.heap.size w u)(hi:i<V.length)(hpl:(V[i]).nm=pl)(hk:k<U.length)(hg:zAg (U[k]).kd=true) =>
  breachR_c RA rc V UA O us DA dc U k i pl S day u (HRw.o.below hu) (HDw.o.below hu) HC.o hi hpl hk hdc hg (HPw.o.below hu))
 have HDY:=zq (fun(u:World)(hu:Below w.heap.size w u)=>days_c RA rc V UA O us DA dc U 0 200001 u (HDw.o.below hu) hdl);have HAL:=zq (fun(u:World)(hu:Below w.heap.size w u)=>all_c RA rc V u HGR.o (HRw.o.below hu));rw[hc];clear hc hcr;have x2:=X.o.c 2 rfl;have hsx:=X.o.lt;go_wp2_with fail
 go_loopg[5,6] U.length (BiR1 w1 V us U)
 case atStart=>exact⟨0,_,rfl,za,rfl,zAv.nil _ _ _ _ _,aR _ _⟩
 clear x2 hsx
 case round =>
  obtain⟨k,ov,rfl,hkm,rfl,how,I⟩:=hrel;have HK:=zq hkm;have HO:=zq how;have HBK:=zq I;have hal:(brL V us U k).length<=200:=dX brL_len za;have HXK:=zq (X.o.below I);have x2:=HXK.o.c 2 rfl;have hsx:=HXK.o.lt;clear hkm how I
  by_cases Y:k<U.length
  ·obtain⟨b,o,hA,hb0,hc0⟩:=HDw.o za
   subst hA;have hp:=(hc0 k Y).1;have HBQ:=zq (fun(i:Nat)(pl S:BA)(day:Int)(u:World)(hu:Below w.heap.size w u)(hi:i<V.length)(hpl:(V[i]).nm=pl)(hg:zAg (U[k]).kd=true)=>HBR.o k i pl S day u hu hi hpl Y hg);have HES:=zq (brL_succ (V:=V) (us:=us) Y);have HKL:=zq Y;generalize U[k]=d at *;have HBW:=zq (zAa HB1.o HBK.o);have d2:=zAe HBW.o (hp 2 _ rfl);have HD0:Hid (w.cell? ⟨b,o+k*16,none⟩=some (.string d.id)):=hp 0 _ rfl;have hsb:b<wr.heap.size:=aB hb0 HBW.o.size;clear hp hc0;(go_wp2_with fail);(with_reducible refine(givesR_c d.kd _).mono ?_);rintro e w2⟨rfl,rfl⟩
   cases hg:zAg d.kd with
   |false =>
    have HN:Hid (zAv encS 1 wr w1.heap.size 9 ov (brL V us U (k+1))):=by show zAv _ _ _ _ _ _ _;rw[HES.o,hg,eK,aO ze,bV];exact HO.o
    clear hg;go_wp2
    go_roundg (gk-1)
    case measure=>have:=HK.o;omega
    case rel=>exact⟨k+1,ov,rfl,zh,zi,HN.o,HBK.o⟩
   |true =>
    have HES2:Hid (brL V us U (k+1)=brL V us U k++(if brkB V us U k d=true then [d.id] else [])):=by show _=_;rw[HES.o,hg,eL]
    have HBG:=zq (fun(i:Nat)(pl S:BA)(day:Int)(u:World)(hu:Below w.heap.size w u)(hi:i<V.length)(hpl:(V[i]).nm=pl)=>HBQ.o i pl S day u hu hi hpl hg);clear hg HBQ HES d2;(go_upto_region 10 with fail);(iterate 2 go_step);refine fG _ _ zk w.heap.size 0 zk (tiC RA rc V UA O us (some ⟨b,o,none⟩) dc U).toList _ (zBt HXK.o) Tryz.underlying26 rfl zc ?_;clear x2 hsx;(go_wp2_with fail);(with_reducible refine(HDY.o wr HBW.o).mono ?_);rintro e w3⟨Z,c2,D,rfl,hrd,hdy,hDl,hb3⟩;have HB3:=zq (zAa HBW.o hb3);have HW3:=zq (zAa HBK.o hb3);have HO3:=zq (HO.o.below hb3);have HX3:=zq (HXK.o.below hb3);have HRD:=zq hrd
    have HDB:Hid (D.any (fun x=>(List.range (zAh V).length).any fun n=>us.any fun u=>brB V U (lfI V n) u x k d)=brkB V us U k d):=by
     show _=_
     unfold brkB;refine any_same fun x=>?_
     rw[hdy.2 x,mem_dayL];unfold dayR dyP;rw[aN]
    clear hb3 hrd hdy HO HXK HBK;go_wp2_with fail
    go_loopg[7,37] D.length (BiR2 w3 D (fun x=>(List.range (zAh V).length).any fun n=>us.any fun u=>brB V U (lfI V n) u x k d))
    case atStart=>exact⟨0,rfl,za,rfl,aR _ _⟩
    case round =>
     obtain⟨j,rfl,hjm,rfl,I⟩:=hrel;have HJ:=zq hjm;have HBJ:=zq I;clear hjm I;obtain⟨b1,hb1⟩:∃b1,b1=(D.take j).any (fun x=>(List.range (zAh V).length).any fun n=>us.any fun u=>brB V U (lfI V n) u x k d):=⟨_,rfl⟩;rw[<-hb1];have HB1J:=zq hb1;clear hb1
     by_cases hlj:j<D.length
     ·obtain⟨b2,o2,hA2,_,hc2⟩:=HRD.o.at_ za
      subst hA2;have cx:=zAe HBJ.o (hc2 j hlj)
      have M:Hid ((D.take (j+1)).any (fun x=>(List.range (zAh V).length).any fun n=>us.any fun u=>brB V U (lfI V n) u x k d)=(b1 || (List.range (zAh V).length).any fun n=>us.any fun u=>brB V U (lfI V n) u D[j] k d)):=by
       show _=_
       rw[any_snocD hlj,HB1J.o]
      have HJL:=zq hlj;generalize D[j]=x at *;have HXJ:=zq (HX3.o.below HBJ.o);have HBJW:=zq (zAa HB3.o HBJ.o);have x0:=HXJ.o.c 0 rfl;have hsx:=HXJ.o.lt;clear hc2 HB1J;(go_wp2_with fail);(with_reducible refine(HAL.o wr HBJW.o).mono ?_);rintro e w4⟨A3,c3,rfl,hpl,hb4⟩;have HB4:=zq (zAa HBJ.o hb4);have HX4:=zq (HXJ.o.below hb4);have HPL:=zq hpl;have hal2:(allS V).length=(zAh V).length:=by unfold allS;rw[bZ]
      have hnl:(zAh V).length<=200:=dX (leafIdx_le V) HGR.o.len;obtain⟨nl,hnle⟩:∃nl,nl=(allS V).length:=⟨_,rfl⟩;rw[<-hnle];have HNL:Hid (nl=(zAh V).length):=by show _=_;rw[hnle,hal2]
      have hnl2:nl<=200:=by rw[hnle,hal2];exact hnl
      clear hpl hb4 cx x0 hsx hnle hal2 hnl HXJ HBJW HBJ;go_wp2_with fail
      go_loopg[7,45] nl (BiR3 w4 nl b1 (fun n=>us.any fun u=>brB V U (lfI V n) u x k d))
      case atStart=>exact⟨0,ze,za,rfl,aR _ _⟩
      case round =>
       obtain⟨n,rfl,hnm,rfl,I⟩:=hrel;have HN:=zq hnm;have HBN:=zq I;clear hnm I;obtain⟨b3,hb3⟩:∃b3,b3=(b1 || (List.range n).any (fun n=>us.any fun u=>brB V U (lfI V n) u x k d)):=⟨_,rfl⟩;rw[<-hb3];have HB3N:=zq hb3;clear hb3
       by_cases hln:n<nl
       ·have hln2:n<(zAh V).length:=by rw[<-HNL.o];exact hln
        obtain⟨hi,hnm⟩:=leaf_nm hln2;obtain⟨b4,o4,hA3,_,hc4⟩:=HPL.o.at_ (by unfold allS;rw[bZ];omega);subst hA3;have cp0:=hc4 n (by unfold allS;rw[bZ];exact hln2);rw[hnm]at cp0
        have HST2:Hid ((b1 || (List.range (n+1)).any (fun n=>us.any fun u=>brB V U (lfI V n) u x k d))=(b3 || us.any fun u=>brB V U (lfI V n) u x k d)):=by
         show _=_
         rw[range_snoc,<-Bool.or_assoc,HB3N.o]
        have HBG2:=zq (fun(S:BA)(day:Int)(u:World)(hu:Below w.heap.size w u)=>HBG.o (lfI V n) _ S day u hu hi rfl);generalize (V[lfI V n]).nm=pl at *;generalize lfI V n=i at *;have HXN:=zq (HX4.o.below HBN.o);have cp:=zAe HBN.o cp0;have x1:=HXN.o.c 1 rfl;have hsx:=HXN.o.lt;have HNL2:=zq hln;clear hc4 hnm HB3N cp0;go_wp2_with fail
        go_loopg[7,52] us.length (BiR4 w4 us b3 (fun u=>brB V U i u x k d))
        case atStart=>exact⟨0,ze,za,rfl,HBN.o⟩
        clear cp x1 hsx HXN
        case round =>
         obtain⟨q,rfl,hqm,rfl,I⟩:=hrel;have HQ:=zq hqm;have HBU:=zq I;clear hqm I;obtain⟨b5,hb5⟩:∃b5,b5=(b3 || (us.take q).any (fun u=>brB V U i u x k d)):=⟨_,rfl⟩;rw[<-hb5];have HB5:=zq hb5;clear hb5
         by_cases hlq:q<us.length
         ·obtain⟨bu,ou,hUA,_,hcu⟩:=HUw.o.at_ za
          subst hUA;have HBUW:=zq (zAa HB3.o (zAa HB4.o HBU.o));have cu:=zAe HBUW.o (hcu q hlq)
          have HST3:Hid ((b3 || (us.take (q+1)).any (fun u=>brB V U i u x k d))=(b5 || brB V U i us[q] x k d)):=by
           show _=_
           rw[any_snocD hlq,<-Bool.or_assoc,HB5.o]
          generalize us[q]=u at *;clear hcu HB5
          cases b5 with
          |true =>
           have HT:Hid ((b3 || (us.take (q+1)).any (fun u=>brB V U i u x k d))=true):=by show _=_;rw[HST3.o];rfl
           clear HST3;go_wp2
           go_roundg (gk-1)
           case measure=>have:=HQ.o;omega
           case rel=>exact⟨q+1,by rw[HT.o],by have:=HQ.o;omega,zi,HBU.o⟩
          |false =>
           have HXU:=zq (HX4.o.below HBU.o);obtain⟨x0,x1,x2⟩:=HXU.o.t;have hsx:=HXU.o.lt;have HBC:=zq (HBG2.o u x wr HBUW.o);(go_wp2_with fail);(with_reducible refine HBC.o.mono ?_);rintro e w6⟨rfl,hb6⟩;have HB6:=zq (zAa HBU.o hb6);have HT:Hid ((b3 || (us.take (q+1)).any (fun u=>brB V U i u x k d))=brB V U i u x k d):=by show _=_;rw[HST3.o];rfl
           clear hb6 HBC x0 x1 x2 hsx HXU cu HST3;generalize brB V U i u x k d=vb at *;go_wp2
           go_roundg (gk-1)
           case measure=>have:=HQ.o;omega
           case rel=>exact⟨q+1,by rw[HT.o],by have:=HQ.o;omega,zi,HB6.o⟩
         ·obtain rfl:q=us.length:=by have:=HQ.o;omega
          have HT:Hid ((b1 || (List.range (n+1)).any (fun n=>us.any fun u=>brB V U (lfI V n) u x k d))=b5):=by
           show _=_
           rw[HST2.o,HB5.o,aN]
          clear HB5 HST2;go_wp2
          go_roundg (nl-n-1)
          case measure=>have:=HN.o;omega
          case rel=>exact⟨n+1,by rw[HT.o],by have:=HNL2.o;omega,zi,HBU.o⟩
       ·obtain rfl:n=nl:=by have:=HN.o;omega
        have HT:Hid ((D.take (j+1)).any (fun x=>(List.range (zAh V).length).any fun n=>us.any fun u=>brB V U (lfI V n) u x k d)=b3):=by
         show _=_
         rw[M.o,HB3N.o,HNL.o]
        have HB5:=zq (zAa HB4.o HBN.o);clear HB3N M;go_wp2
        go_roundg (D.length-j-1)
        case measure=>have:=HJ.o;omega
        case rel=>exact⟨j+1,by rw[HT.o],by have:=HJL.o;omega,zi,HB5.o⟩
     ·obtain rfl:j=D.length:=by have:=HJ.o;omega
      have HBV:Hid (b1=brkB V us U k d):=by
       show _=_
       rw[HB1J.o,aN,HDB.o]
      have HXJ:=zq (HX3.o.below HBJ.o);have HOJ:=zq (HO3.o.below HBJ.o);have HBJ1:=zq (zAa HW3.o HBJ.o);clear HB1J HDB
      cases b1 with
      |false =>
       have HN:Hid (zAv encS 1 wr w1.heap.size 9 ov (brL V us U (k+1))):=by show zAv _ _ _ _ _ _ _;rw[HES2.o,<-HBV.o,aO ze,bV];exact HOJ.o
       go_wp2
       go_roundg (U.length-k-1)
       case measure=>have:=HK.o;omega
       case rel=>exact⟨k+1,ov,rfl,by have:=HKL.o;omega,zi,HN.o,HBJ1.o⟩
      |true =>
       have HS2:Hid (brL V us U (k+1)=brL V us U k++[d.id]):=by show _=_;rw[HES2.o,<-HBV.o,aF rfl]
       have x2:=HXJ.o.c 2 rfl;have hsx:=HXJ.o.lt;have d0:=zAe (zAa HB3.o HBJ.o) HD0.o;have hw1:w1.heap.size<=wr.heap.size:=HBJ1.o.size
       go_wp2_with (at_builtin;refine zAT _ _ _ elStr rfl rfl w1.heap.size ov (brL V us U k) rfl (HOJ.o.alloc _) wr.heap.size 1 d.id rfl (aJ _ _) rfl zr zn za zg ?_;intro v1 w4 E hg4 hb4)
       have HO6:Hid (zAv encS 1 w4 w1.heap.size 9 v1 (brL V us U (k+1))):=yr;have HB6:=zq ((HBJ1.o.alloc hw1 _).trans hb4);clear E hg4 hb4 x2 hsx d0;go_wp2
       go_roundg (U.length-k-1)
       case measure=>have:=HK.o;omega
       case rel=>exact⟨k+1,v1,rfl,by have:=HKL.o;omega,zi,HO6.o,HB6.o⟩
  ·obtain rfl:k=U.length:=by have:=HK.o;omega
   obtain⟨A,c,rfl,hst⟩:=HO.o.rd1;have M:=zq hst;clear hst;go_wp2;go_ret2
   exact⟨A,c,by rw[HS.o,HC.o];rfl,by rw[HS.o];exact M.o,zAa HB1.o HBK.o⟩
theorem meets1_c(RA:OA)(rc:Nat)(V:List Rg)(UA:OA)(O:Nat)(us:List BA)(DA:OA)(dc:Nat)(U:List De)(L k p1 p2:Nat)(u:BA)(w:World)(hl:LgIs RA rc V UA O us DA dc U w L)(hd:Des w DA U)(hk:k<U.length)(hul:(U[k]).us.length<=1000000)(h1:Bx w p1 #[.pointer (some ⟨L,0,none⟩)] 75)(h2:Bx w p2 #[.int .i64 (k:Int)] 3): Calls Tryz.prog 119 #[.string u,.pointer (some ⟨p1,0,none⟩),.pointer (some ⟨p2,0,none⟩)] w (zAf (.bool (zCU (U[k]).us u)) w):=by
 obtain⟨b,o,rfl,hb0,hc0⟩:=hd za;obtain⟨N,hok⟩:=hc0 k hk;clear hc0;obtain⟨r1,r2,g1,g2,AL,cL,vr,vi,ins,base,hlx,_⟩:=hl;generalize U[k]=d at *;have l2:=hlx.c 2 rfl;have hsl:=hlx.lt;have a0:=h1.c 0 rfl;have s1:=h1.lt;have b0:=h2.c 0 rfl;have s2:=h2.lt;have d11:=N 11 _ rfl
 have hcon:∀m,Calls Tryz.prog 12 #[.slice d.usA d.us.length d.usc,.string u] (w.drewN m) fun e w'=>e=.returned (.bool (zCU d.us u))/\w'=w.drewN m:=fun m =>
  (containsS_c d.usA d.usc d.us u (w.drewN m) hul (hok.uses.below (zAb (aR _ _) m))).mono fun e w' ⟨h1,h2⟩=>⟨h1,h2.symm⟩
 have HCON:=zq hcon;clear hcon hok N h1 h2 hlx
 go_enter Tryz.func119,Tryz.ntmps119;(go_upto_region 1 with fail);go_quiet((go_at_call 12;exact Calls.quiet_of_same (HCON.o _)))
 go_wp2;go_ret
 exact zAf.mk rfl (zAb (aR _ _) _)
theorem indexMe_c(A:OA)(c:Nat)(p1 p2:Nat)(l:List BA)(P:BA->Bool)(w:World)(J:l.length<=1000000)(h:Strs w A l)(hP:∀x∈l,∀u,Below w.heap.size w u->Calls Tryz.prog 119 #[.string x,.pointer (some ⟨p1,0,none⟩),.pointer (some ⟨p2,0,none⟩)] u (zAf (.bool (P x)) u)): Calls Tryz.prog 180 #[.slice A l.length c,.func (.func 119) #[] #[.pointer (some ⟨p1,0,none⟩),.pointer (some ⟨p2,0,none⟩)]] w (GivesPosB (l.any P) w):=by
 have HPW:=zq hP;have HLW:=zq h;clear hP h
 go_enter Tryz.func180,Tryz.ntmps180;go_wp2
 go_loopg[8] l.length (IdSBr w l P)
 case atStart=>exact⟨aR _ _,0,za,rfl,rfl⟩
 case round =>
  exact taf
theorem containsMe_c(A:OA)(c:Nat)(p1 p2:Nat)(l:List BA)(P:BA->Bool)(w:World)(J:l.length<=1000000)(h:Strs w A l)(hP:∀x∈l,∀u,Below w.heap.size w u->Calls Tryz.prog 119 #[.string x,.pointer (some ⟨p1,0,none⟩),.pointer (some ⟨p2,0,none⟩)] u (zAf (.bool (P x)) u)): Calls Tryz.prog 118 #[.slice A l.length c,.func (.func 119) #[] #[.pointer (some ⟨p1,0,none⟩),.pointer (some ⟨p2,0,none⟩)]] w (zAf (.bool (l.any P)) w):=by
 have HI:=zq (indexMe_c A c p1 p2 l P w J h hP);clear hP h
 go_enter Tryz.func118,Tryz.ntmps118;(go_wp2_with fail);(with_reducible refine HI.o.mono ?_);rintro e w1⟨z,rfl,hz,I⟩;have HZ:=zq hz;have HB:=zq I;clear hz I;go_wp2;go_ret
 exact zAf.mk (zBy HZ.o) HB.o
def MtR(W:World)(V:List Rg)(a b:De)(n m:Nat)(iv:Value)(wr:World):Prop:=
 ∃j:Nat,j+m=n/\iv=.int .i64 (j:Nat)/\(∀q,q<j->(zCE V a.ar (lfI V q)&&zCE V b.ar (lfI V q))=false)/\Below W.heap.size W wr
theorem meets_c(RA:OA)(rc:Nat)(V:List Rg)(UA:OA)(O:Nat)(us:List BA)(DA:OA)(dc:Nat)(U:List De)(L i k:Nat)(w:World)(hl:LgIs RA rc V UA O us DA dc U w L)(hd:Des w DA U)(hi:i<U.length)(hk:k<U.length)(hul:∀d∈U,d.us.length<=1000000)(hgi:zAg (U[i]).kd=true)(hgk:zAg (U[k]).kd=true)(hnl:(zAh V).length<=200)(hdl:U.length<=200): Calls Tryz.prog 59 #[.pointer (some ⟨L,0,none⟩),.int .i64 (i:Int),.int .i64 (k:Int)] w (zAf (.bool (zDK V U U[i] U[k])) w):=by
 have HM1:=zq (fun(p1 p2:Nat)(u:BA)(w':World)(I:Below w.heap.size w w')(h1:Bx w' p1 #[.pointer (some ⟨L,0,none⟩)] 75)(h2:Bx w' p2 #[.int .i64 (k:Int)] 3)=>meets1_c RA rc V UA O us DA dc U L k p1 p2 u w' (hl.below I) (hd.below I) hk (hul _ (aH hk)) h1 h2);have hui:=hul _ (aH hi);obtain⟨b,o,hA,hb0,hc0⟩:=hd za;subst hA;obtain⟨r1,r2,g1,g2,AL,cL,vr,vi,ins,base,hlx,_,hrn,hin,hin2,hin3⟩:=hl;obtain⟨rb,ro,rcap,hvr,c0,c1⟩:=run_at hrn hi;obtain⟨rb2,ro2,rcap2,hvr2,c2,c3⟩:=run_at hrn hk;rw[hvr]at hvr2
 injection hvr2 with hq1 _ hq2
 injection hq1 with hq1
 injection hq1 with hq3 hq4 _
 subst hq2 hq3 hq4;obtain⟨ib,io,icap,x,hvi,ci,hix⟩:=in_at hin hin2 hin3 hi;obtain⟨ib2,io2,icap2,y,hvi2,ck,hiy⟩:=in_at hin hin2 hin3 hk;rw[hvi]at hvi2
 injection hvi2 with hq1 _ hq2
 injection hq1 with hq1
 injection hq1 with hq3 hq4 _
 subst hq2 hq3 hq4;subst hvr hvi;have hri:=(hc0 i hi).1;have HOI:=zq (hc0 i hi).2;have d11:=hri 11 _ rfl;have HLX:=zq hlx;have HIX:=zq (fun(n i:Nat)(J:(zAh V)[n]?=some i)=>set_at hgi hix J);have HIY:=zq (fun(n i:Nat)(J:(zAh V)[n]?=some i)=>set_at hgk hiy J);clear hrn hin hin2 hin3 hc0 hri hgi hgk hix hiy;generalize C:zDK V U U[i] U[k]=res;have HR:=zq C;unfold zDK at C;have HR2:=zq C;clear C hul hd hlx;generalize U[i]=da at *;generalize U[k]=db at *;generalize (zBj U da).1=p1 at *;generalize (zBj U da).2=p2 at *;generalize (zBj U db).1=p3 at *;generalize (zBj U db).2=p4 at *;have hbw:Below w.heap.size w ((w.alloc (.cells #[.pointer (some ⟨L,0,none⟩)] 75)).alloc (.cells #[.int .i64 (k:Int)] 3)):=((aR _ _).alloc (aK _) _).alloc ze _;have HX:Hid (Bx ((w.alloc (.cells #[.pointer (some ⟨L,0,none⟩)] 75)).alloc (.cells #[.int .i64 (k:Int)] 3)) w.heap.size #[.pointer (some ⟨L,0,none⟩)] 75):=(Bx.new _ _ _).alloc _;have HY:Hid (Bx ((w.alloc (.cells #[.pointer (some ⟨L,0,none⟩)] 75)).alloc (.cells #[.int .i64 (k:Int)] 3)) (w.heap.size+1) #[.int .i64 (k:Int)] 3):=Bx.new1 _ _ _ _;obtain⟨W,hW⟩:∃W,W=(w.alloc (.cells #[.pointer (some ⟨L,0,none⟩)] 75)).alloc (.cells #[.int .i64 (k:Int)] 3):=⟨_,rfl⟩;rw[<-hW]at hbw HX HY;have HB:=zq hbw;have c0:=zAe hbw c0;have c1:=zAe hbw c1;have c2:=zAe hbw c2;have c3:=zAe hbw c3;have CI:=zq (zAe hbw ci);have CK:=zq (zAe hbw ck);have D11:=zq (zAe hbw d11);have HLW:=zq (HLX.o.below hbw);have l9:=HLW.o.c 9 rfl;have hsl:=HLW.o.lt;have a0:=HX.o.c 0 rfl;have s1:=HX.o.lt;have b0:=HY.o.c 0 rfl;have s2:=HY.o.lt;clear hbw ci ck d11
 go_enter Tryz.func59,Tryz.ntmps59;(go_upto_region 1 with fail);rw[<-hW];clear hW
 by_cases hmm:max p1 p3<min p2 p4
 case neg =>
  have e1:decide (min p2 p4<=max p1 p3)=true:=aD za;have HF:Hid (res=false):=by show _=_;rw[<-HR2.o,aE hmm];rfl
  clear hmm;go_quiet(fail);go_wp2;go_ret
  exact zAf.mk yb (zAb HB.o _)
 have e1:decide (min p2 p4<=max p1 p3)=false:=aE za;have HR3:Hid ((((List.range (zAh V).length).any fun n=>zCE V da.ar (lfI V n)&&zCE V db.ar (lfI V n))&&da.us.any fun u=>zCU db.us u)=res):=by show _=_;rw[<-HR2.o,aD hmm,eL]
 clear hmm HR2 HR;go_quiet(fail);generalize hwq:W.drewN _=wq;have hbq:Below W.heap.size W wq:=by rw[<-hwq];exact zAb (aR _ _) _
 have HBQ:=zq (zAa HB.o hbq);have HXQ:=zq (HX.o.below hbq);have HYQ:=zq (HY.o.below hbq);have HLQ:=zq (HLW.o.below hbq);have CIQ:=zq (zAe hbq CI.out);have CKQ:=zq (zAe hbq CK.out);have DQ:=zq (zAe hbq D11.out);clear hwq hbq HX HY HLW CI CK D11 HB c0 c1 c2 c3 l9 hsl a0 s1 b0 s2 e1;have l5:wq.cell? ⟨L,5,none⟩=some (.slice AL (zBW V (fun i=>!M V i) V.length).length cL):=HLQ.o.c 5 rfl;have hsl:=HLQ.o.lt;have a0:=HXQ.o.c 0 rfl;have s1:=HXQ.o.lt;obtain⟨nl,hnle⟩:∃nl,nl=(zBW V (fun i=>!M V i) V.length).length:=⟨_,rfl⟩;rw[<-hnle]at l5;have HNL:Hid (nl=(zAh V).length):=by show _=_;rw[hnle];unfold zBW zAh;rw[bZ]
 have hn2:nl<=200:=by rw[HNL.o];exact hnl
 clear hnle;go_wp2_with fail
 go_loopg[49] nl (MtR wq V da db nl)
 case atStart=>exact⟨0,za,rfl,fun q hq=>za,aR _ _⟩
 clear l5 hsl a0 s1
 case round =>
  obtain⟨n,hnm,rfl,hno,I⟩:=hrel;have HN:=zq hnm;have HNO:=zq hno;have HBN:=zq I;have HBW:=zq (zAa HBQ.o I);clear hnm hno I
  by_cases Y:n<nl
  ·have hln:n<(zAh V).length:=by rw[<-HNL.o];exact Y
   have hix:(zAh V)[n]?=some (lfI V n):=by
    unfold lfI;rw[List.getD_eq_getElem?_getD,List.getElem?_eq_getElem hln];rfl
   obtain⟨gx,cx,hxe,hlx,_,hcx⟩:=HIX.o n _ hix;obtain⟨gy,cy,hye,hly,_,hcy⟩:=HIY.o n _ hix;subst hxe hye;have q0:=zAe HBW.o hcx;have q1:=zAe HBW.o hcy;have ci:=zAe HBN.o CIQ.out;have ck:=zAe HBN.o CKQ.out;have HLN:=zq (HLQ.o.below HBN.o);have HXN:=zq (HXQ.o.below HBN.o);have HYN:=zq (HYQ.o.below HBN.o);have l10:=HLN.o.c 10 rfl;have hsl:=HLN.o.lt;have a0:=HXN.o.c 0 rfl;have s1:=HXN.o.lt;have b0:=HYN.o.c 0 rfl;have s2:=HYN.o.lt
   have HNX:Hid ((zCE V da.ar (lfI V n)&&zCE V db.ar (lfI V n))=false->∀q,q<n+1->(zCE V da.ar (lfI V q)&&zCE V db.ar (lfI V q))=false):=fun h q hq=>by
    by_cases e:q=n
    ·subst e;exact h
    ·exact HNO.o q za
   have HYS:Hid ((zCE V da.ar (lfI V n)&&zCE V db.ar (lfI V n))=true->res=da.us.any fun u=>zCU db.us u):=fun h=>by
    rw[<-HR3.o,List.any_eq_true.2 ⟨n,List.mem_range.2 hln,h⟩,eL]
   clear hix hcx hcy;generalize (inL V da.ar).length=gn at *;generalize (inL V db.ar).length=gm at *
   cases hla:zCE V da.ar (lfI V n)with
   |false =>
    rw[hla]at q0;have HN2:=zq (HNX.o (by rw[hla];rfl));clear hla HNX HYS;exact tb3
   |true =>
    rw[hla]at q0
    cases hlb:zCE V db.ar (lfI V n)with
    |false =>
     rw[hlb]at q1;have HN2:=zq (HNX.o (by rw[hlb,Bool.and_false]));clear hla hlb HNX HYS;exact tb3
    |true =>
     rw[hlb]at q1;have HY2:=zq (HYS.o (by rw[hla,hlb];rfl));clear hla hlb HNX HYS;(go_upto_region 6 with fail);go_quiet(fail);generalize hwz:World.drewN wr _=wz;have hbz:Below wr.heap.size wr wz:=by rw[<-hwz];exact zAb (aR _ _) _
     have HBZ:=zq (zAa HBW.o hbz);have HLZ:=zq (HLN.o.below hbz);have HXZ:=zq (HXN.o.below hbz);have HYZ:=zq (HYN.o.below hbz);have d11:=zAe hbz (zAe HBN.o DQ.out);have HCF:=zq (containsMe_c da.usA da.usc w.heap.size (w.heap.size+1) da.us (fun u=>zCU db.us u) wz hui (HOI.o.uses.below HBZ.o) fun x _ u hu=>HM1.o _ _ x u (zAa HBZ.o hu) (HXZ.o.below hu) (HYZ.o.below hu));clear hwz hbz q0 q1 ci ck l10 hsl a0 s1 b0 s2;have l2:=HLZ.o.c 2 rfl;have hsl:=HLZ.o.lt;have a0:=HXZ.o.c 0 rfl;have s1:=HXZ.o.lt;(go_wp2_with fail);(with_reducible refine HCF.o.mono ?_);rintro e w8⟨rfl,hb8⟩;have HB8:=zq (zAa HBZ.o hb8);clear hb8 HCF l2 hsl a0 s1 d11;go_wp2;go_ret
     exact zAf.mk (by first|(rw[HY2.o];rfl)|rw[HY2.o]) HB8.o
  ·obtain rfl:n=nl:=by have:=HN.o;omega
   have HF:Hid (res=false):=by
    show _=_
    rw[<-HR3.o]
    have:((List.range (zAh V).length).any fun n=>zCE V da.ar (lfI V n)&&zCE V db.ar (lfI V n))=false:=by
     rw[bC];intro q hq;rw[HNO.o q (by rw[HNL.o];exact List.mem_range.1 hq)];simp
    rw[this];rfl
   go_wp2;go_ret
   exact zAf.mk yb HBW.o
abbrev encP:BA×BA->List Value:=fun p=>[.string p.1,.string p.2]
theorem elPr:ElemT Tryz.prog 59 64 (.agg #[.string ⟨#[]⟩,.string ⟨#[]⟩]) 2 32:=⟨Tryz.underlying59,zc,rfl,zd⟩
theorem onePr(p:BA×BA):∀u∈encP p,u.oneCell'=true:=by simp[encP,Value.oneCell']
def coA(V:List Rg)(us:List BA)(U:List De):List (BA×BA):=if zBY V us U=0 then conL V U U.length else []
def GivesCf(l:List (BA×BA))(f:Int)(w:World)(e:Ending)(w':World):Prop:=
 ∃(A:OA)(c:Nat),e=.returned (.tuple #[.slice A l.length c,.int .i64 f])/\RdK encP w' A l/\Below w.heap.size w w'
def CfR1(W:World)(V:List Rg)(U:List De)(m:Nat)(ov iv:Value)(wr:World):Prop:=
 ∃(j:Nat)(v:Value),v=ov/\j+m=U.length/\iv=.int .i64 (j:Nat)/\zAv encP 2 wr W.heap.size 64 v (conL V U j)/\Below W.heap.size W wr
def CfR2(W:World)(V:List Rg)(U:List De)(i bi:Nat)(d:De)(m:Nat)(ov iv:Value)(wr:World):Prop:=
 ∃(k:Nat)(v:Value),v=ov/\k+m=U.length/\iv=.int .i64 (k:Nat)/\zAv encP 2 wr W.heap.size 64 v (conL V U i++conR V U i k)/\Below W.heap.size W wr/\Bx wr bi (deC d) 126
theorem bx_kept{α:Type}{enc:α->List Value}{k b0 b:Nat}{w w':World}{e T:TypeId}{v:Value}{l:List α}{cs:Array Value}(h:Bx w b cs T)(hown:zAv enc k w b0 e v l)(hg:w.grownBy w' v.ownBlock)(hne:T≠e):Bx w' b cs T:=
 (hg.block b h.lt fun e2=>by
  obtain⟨_,cs2,hc2⟩:=zBc hown e2.symm;exact zAF h hc2 hne rfl).trans h
theorem rdk_pr(w:World)(p:BA×BA)(T:TypeId):RdK encP (w.alloc (.cells #[.string p.1,.string p.2] T)) (some ⟨w.heap.size,0,none⟩) [p]:=fun _=>⟨w.heap.size,0,rfl,fun j v hv=>by
 rw[cO,bK _ w.heap.size j _ _ _ (aJ _ _)]
 match j,hv with
 |0,hv=>exact hv
 |1,hv=>exact hv⟩
theorem Conflicts_c(RA:OA)(rc:Nat)(V:List Rg)(UA:OA)(O:Nat)(us:List BA)(DA:OA)(dc:Nat)(U:List De)(w:World)(hr:Rgs w RA V)(hu:Strs w UA us)(hd:Des w DA U)(hz:∀i (h:i<V.length),(V[i]).nm.size<=9223372036854775807)(hz2:∀i (h:i<us.length),(us[i]).size<=9223372036854775807)(hdc:U.length<=dc): Calls Tryz.prog 18 #[.agg (tiC RA rc V UA O us DA dc U)] w (GivesCf (coA V us U) (zBY V us U) w):=by
 have HX:Hid (Bx (w.alloc (.cells (tiC RA rc V UA O us DA dc U) 26)) w.heap.size (tiC RA rc V UA O us DA dc U) 26):=Bx.new _ _ _;have HB:Hid (Below w.heap.size w (w.alloc (.cells (tiC RA rc V UA O us DA dc U) 26))):=(aR _ _).alloc (aK _) _;obtain⟨W,hW⟩:∃W,W=w.alloc (.cells (tiC RA rc V UA O us DA dc U) 26):=⟨_,rfl⟩;rw[<-hW]at HX HB;have HOP:Hid (Calls Tryz.prog 31 #[.agg (tiC RA rc V UA O us DA dc U),.slice none 0 0] W (GivesOp (openF V us U []) RA rc V UA O us DA dc U W)):=(open_c RA rc V UA O us DA dc U none 0 [] W (hr.below HB.o) (hu.below HB.o) (hd.below HB.o) hz hz2 Rd1.nil (fun i h=>absurd h ze) ze hdc);have HDw:=zq hd;clear hr hu hd
 go_enter Tryz.func18,Tryz.ntmps18;(go_upto_region 1 with fail);rw[<-hW];clear hW;(iterate 2 go_step);refine fG _ _ zk w.heap.size 0 zk (tiC RA rc V UA O us DA dc U).toList _ (zBt HX.o) Tryz.underlying26 rfl zc ?_;(go_wp2_with fail);(with_reducible refine HOP.o.mono ?_);rintro e w1⟨P,rfl,hb1,hp0,hp1⟩;have HB1:=zq (zAa HB.o hb1);have X:=zq (HX.o.below hb1);have HP0:=zq hp0;have HP1:=zq hp1;clear hb1 hp0 hp1 HOP HX HB
 by_cases hc:zBY V us U=0
 case neg =>
  have hof:openF V us U []=zBY V us U:=by unfold openF;rw[aF hc]
  have hcb:(zBY V us U != 0)=true:=by simpa using hc
  have HS:Hid (coA V us U=[]):=by show _=_;unfold coA;rw[aO hc]
  rw[hof];clear hc hof HP0 HP1;exact tdl
 have hof:openF V us U []=0:=by unfold openF;rw[aO (show ¬(zBY V us U≠0) by rw[hc];simp)];rfl
 have HC:=zq hc;rw[hof];obtain⟨L,rfl,hlg⟩:=HP1.o hof;have HLG:=zq hlg;have HS:Hid (coA V us U=conL V U U.length):=by show _=_;unfold coA;rw[aF hc]
 obtain⟨hcr,_,hdl⟩:=zBd HC.o;have hnl:(zAh V).length<=200:=dX (leafIdx_le V) (zCi hcr).len;have hus:∀d∈U,d.us.length<=1000000:=fun d hd=>dX (zCA HC.o d hd).2 zd
 have HMT:=zq (fun(i k:Nat)(u:World)(hu:Below w1.heap.size w1 u)(hi:i<U.length)(hk:k<U.length)(hgi:zAg (U[i]).kd=true)(hgk:zAg (U[k]).kd=true)=>meets_c RA rc V UA O us DA dc U L i k u (hlg.below hu) (HDw.o.below (zAa HB1.o hu)) hi hk hus hgi hgk hnl hdl);rw[hc];clear hc hof HP0 HP1 hlg HLG hcr hus;have x2:=X.o.c 2 rfl;have hsx:=X.o.lt;go_wp2_with fail
 go_loopg[6,22] U.length (CfR1 w1 V U)
 case atStart=>exact⟨0,_,rfl,za,rfl,zAv.nil _ _ _ _ _,aR _ _⟩
 clear x2 hsx
 case round =>
  obtain⟨i,ov,rfl,him,rfl,how,I⟩:=hrel;have HI:=zq him;have HO:=zq how;have HBI:=zq I;have hcl:(conL V U i).length<=200*200:=dX (conL_len i) (dU za hdl);clear him how I
  by_cases Y:i<U.length
  ·obtain⟨b,o,hA,hb0,hc0⟩:=HDw.o za
   subst hA;have hp:=(hc0 i Y).1;have HC0:=zq hc0;have HMI:=zq (fun(k:Nat)(u:World)(hu:Below w1.heap.size w1 u)(hk:k<U.length)=>HMT.o i k u hu Y hk);have HGI:=zq (getD_at Y);have HLI:=zq Y;generalize U[i]=da at *;have N:wr.rangeAt b (o+i*16) (deC da).toList:=fun q v hv=>zAe (zAa HB1.o HBI.o) (hp q v hv)
   clear hp hc0;(go_upto_region 7 with fail);(iterate 8 go_step);refine fG _ _ zk b (o+i*16) zk (deC da).toList _ N Tryz.underlying126 rfl zc ?_;clear N;(go_upto_region 8 with fail);obtain⟨wd,hwd⟩:∃wd,wd=wr.alloc (.cells (deC da) 126):=⟨_,rfl⟩;rw[<-hwd];have hbd:Below wr.heap.size wr wd:=zm;have m:Hid (Bx wd wr.heap.size (deC da) 126):=zo;have HBD:=zq (zAa HBI.o hbd);have HOD:=zq (HO.o.below hbd);obtain⟨bi,hbi⟩:∃bi,bi=wr.heap.size:=⟨_,rfl⟩;rw[<-hbi]at m ⊢;have x2:=(X.o.below HBD.o).c 2 rfl;have hsx:=(X.o.below HBD.o).lt;clear hwd hbd HO HBI hbi;go_wp2_with fail
   go_loopg[6,30] U.length (CfR2 w1 V U i bi da)
   case atStart=>exact⟨0,_,rfl,za,rfl,by rw[conR_zero,bV];exact HOD.o,HBD.o,m.o⟩
   clear x2 hsx HOD HBD m
   case round =>
    obtain⟨k,ov,rfl,hkm,rfl,how,I,hbx⟩:=hrel;have HK:=zq hkm;have HO:=zq how;have HBK:=zq I;have HDA:=zq hbx
    have hcr:(conL V U i++conR V U i k).length<=200*200+200:=by
     rw[eA];have:=@conR_len V U i k;omega
    clear hkm how I hbx
    by_cases hlk:k<U.length
    ·have hp:=(HC0.o k hlk).1
     have HMK:=zq (fun(u:World)(hu:Below w1.heap.size w1 u)=>HMI.o k u hu hlk);have hcs:confB V U i k=(decide (i<k)&&(sameB da U[k]&&zDK V U da U[k])):=by unfold confB;rw[HGI.o,getD_at hlk]
     have hrr:=@conR_succ V U i k;rw[HGI.o,getD_at hlk]at hrr;rw[hcs]at hrr;have HRR:=zq hrr;clear hcs hrr;generalize U[k]=db at *;have N:wr.rangeAt b (o+k*16) (deC db).toList:=fun q v hv=>zAe (zAa HB1.o HBK.o) (hp q v hv)
     clear hp;(go_upto_region 10 with fail);(iterate 8 go_step);refine fG _ _ zk b (o+k*16) zk (deC db).toList _ N Tryz.underlying126 rfl zc ?_;clear N;(go_upto_region 11 with fail);obtain⟨wd,hwd⟩:∃wd,wd=wr.alloc (.cells (deC db) 126):=⟨_,rfl⟩;rw[<-hwd];have hbd:Below wr.heap.size wr wd:=zm;have m:Hid (Bx wd wr.heap.size (deC db) 126):=zo;have HBD:=zq (zAa HBK.o hbd);have HOD:=zq (HO.o.below hbd);have HDD:=zq (HDA.o.below hbd)
     have HNO:Hid ((decide (i<k)&&(sameB da db&&zDK V U da db))=false->zAv encP 2 wd w1.heap.size 64 ov (conL V U i++conR V U i (k+1))):=fun h=>by
      rw[HRR.o,h,aO ze,bV];exact HOD.o
     clear hwd hbd HO HBK HDA;have a2:=HDD.o.c 2 rfl;have a3:=HDD.o.c 3 rfl;have a4:=HDD.o.c 4 rfl;have a8:=HDD.o.c 8 rfl;have hsa:=HDD.o.lt;have d2:=m.o.c 2 rfl;have d3:=m.o.c 3 rfl;have d4:=m.o.c 4 rfl;have d8:=m.o.c 8 rfl;have hsd:=m.o.lt
     by_cases h1:i<k
     case neg =>
      have q1:decide (i<k)=false:=aE h1;have HN:=zq (HNO.o (by rw[aE h1];rfl));clear h1 HNO;exact tct
     have q1:decide (i<k)=true:=aD h1
     by_cases h2:da.kd=3
     case neg =>
      have q2:(da.kd == 3)=false:=by simpa using h2
      have HN:=zq (HNO.o (by unfold sameB;rw[aE h2];simp));clear h1 h2 HNO;exact tct
     have q2:(da.kd == 3)=true:=by simpa using h2
     by_cases h3:db.kd=3
     case neg =>
      have q3:(db.kd == 3)=false:=jk;have HN:=zq (HNO.o (by unfold sameB;rw[aE h3];simp));clear h1 h2 h3 HNO;exact tct
     have q3:(db.kd == 3)=true:=jk
     by_cases h4:da.th=db.th
     case neg =>
      have q4:=zAp h4;have HN:=zq (HNO.o (by unfold sameB;rw[aE h4];simp));clear h1 h2 h3 h4 HNO;exact tct
     have q4:=zAn h4
     by_cases h5:da.fr=db.fr
     case neg =>
      have q5:=zAp h5;have HN:=zq (HNO.o (by unfold sameB;rw[aE h5];simp));clear h1 h2 h3 h4 h5 HNO;exact tct
     have q5:=zAn h5;have HSB:Hid (sameB da db=(da.ex || db.ex)):=yz;have HME:=zq (HMK.o wd HBD.o (by rw[h2];rfl) (by rw[h3];rfl));have HLT:Hid (decide (i<k)=true):=aD h1;clear h1 h2 h3 h4 h5;generalize hxa:da.ex=xa at *;generalize hxb:db.ex=xb at *
     by_cases hx:(xa || xb)=true
     case neg =>
      have hxf:(xa || xb)=false:=by simpa using hx
      have HN:=zq (HNO.o (by rw[HSB.o,hxf];simp));rw[Bool.or_eq_false_iff]at hxf;obtain⟨rfl,rfl⟩:=hxf;clear hx HNO HSB;exact tct
     have HM2:Hid ((decide (i<k)&&(sameB da db&&zDK V U da db))=zDK V U da db):=by show _=_;rw[HLT.o,HSB.o,hx];simp
     rw[HM2.o]at HNO HRR;clear HSB HLT HM2
     have hxx:xa=true\/(xa=false/\xb=true):=by
      cases xa with
      |true=>exact .inl rfl
      |false=>exact .inr ⟨rfl,by simpa using hx⟩
     clear hx
     rcases hxx with rfl|⟨rfl,rfl⟩
     all_goals
      (go_wp2_with fail);(with_reducible refine HME.o.mono ?_);rintro e wm⟨rfl,hbm⟩;have HBM:=zq (zAa HBD.o hbm);have HOM:=zq (HOD.o.below hbm);have HDM:=zq (HDD.o.below hbm);have HD2:=zq (m.o.below hbm);have HNM:Hid (zDK V U da db=false->zAv encP 2 wm w1.heap.size 64 ov (conL V U i++conR V U i (k+1))):=fun h=>(HNO.o h).below hbm
      clear hbm HME HNO HBD HOD HDD m a2 a3 a4 a8 hsa d2 d3 d4 d8 hsd q1 q2 q3 q4 q5
      cases hm:zDK V U da db with
      |false =>
       have HN:=zq (HNM.o hm);clear hm HNM;go_wp2
       go_roundg (gk-1)
       case measure=>have:=HK.o;omega
       case rel=>exact⟨k+1,ov,rfl,zh,zi,HN.o,HBM.o,HDM.o⟩
      |true =>
       have HR2:Hid (conR V U i (k+1)=conR V U i k++[(da.id,db.id)]):=by show _=_;rw[HRR.o,hm,aF rfl]
       have a0:=HDM.o.c 0 rfl;have hsa:=HDM.o.lt;have d0:=HD2.o.c 0 rfl;have hsd:=HD2.o.lt;have hw1:w1.heap.size<=wm.heap.size:=HBM.o.size;clear hm HNM
       go_wp2_with (at_builtin;refine zDG (k:=2) (enc:=encP) (fun _=>rfl) onePr _ _ _ elPr rfl rfl w1.heap.size ov (conL V U i++conR V U i k) rfl (HOM.o.alloc _) (some ⟨wm.heap.size,0,none⟩) 1 1 [(da.id,db.id)] rfl rfl (rdk_pr wm (da.id,db.id) _) (.inl ze) (by show(conL V U i++conR V U i k).length+1<=maxLen;unfold maxLen;omega) (by show((conL V U i++conR V U i k).length+1)*32<=_;omega) zg ?_;intro v1 w4 E hg4 hb4 _)
       have HO4:Hid (zAv encP 2 w4 w1.heap.size 64 v1 (conL V U i++conR V U i (k+1))):=by show zAv _ _ _ _ _ _ _;rw[HR2.o,<-dN];exact E
       have HD4:=zq (bx_kept (HDM.o.alloc _) (HOM.o.alloc _) hg4 zd);have HB4:=zq ((HBM.o.alloc hw1 _).trans hb4);clear E hg4 hb4 a0 hsa d0 hsd;go_wp2
       go_roundg (gk-1)
       case measure=>have:=HK.o;omega
       case rel=>exact⟨k+1,v1,rfl,zh,zi,HO4.o,HB4.o,HD4.o⟩
    ·exact ta8
  ·exact tbv
def voB(V:List Rg)(U:List De)(a b:De)(x:Int)(n:Nat)(u:BA):Bool:=vB V U (lfI V n) u x a&&vB V U (lfI V n) u x b
def TgR1(W:World)(D:List Int)(F:Int->Nat->BA->Bool)(nl:Nat)(us:List BA)(m:Nat)(iv:Value)(wr:World):Prop:=
 ∃j:Nat,j+m=D.length/\iv=.int .i64 (j:Nat)/\(∀q (h:q<D.length),q<j->∀n,n<nl->∀u∈us,F D[q] n u=false)/\Below W.heap.size W wr
def TgR2(W:World)(F:Nat->BA->Bool)(nl:Nat)(us:List BA)(m:Nat)(iv:Value)(wr:World):Prop:=
 ∃j:Nat,j+m=nl/\iv=.int .i64 (j:Nat)/\(∀n,n<j->∀u∈us,F n u=false)/\Below W.heap.size W wr
def TgR3(W:World)(F:BA->Bool)(us:List BA)(m:Nat)(iv:Value)(wr:World):Prop:=
 ∃j:Nat,j+m=us.length/\iv=.int .i64 (j:Nat)/\(∀q (h:q<us.length),q<j->F us[q]=false)/\Below W.heap.size W wr
theorem togetherR_c(RA:OA)(rc:Nat)(V:List Rg)(UA:OA)(O:Nat)(us:List BA)(DA:OA)(dc:Nat)(U:List De)(p1 p2:Nat)(w:World)(hr:Rgs w RA V)(hu:Strs w UA us)(hd:Des w DA U)(hc:zBY V us U=0)(hp1:p1<U.length)(hp2:p2<U.length)(hg1:zAg (U[p1]).kd=true)(hg2:zAg (U[p2]).kd=true): Calls Tryz.prog 60 #[.agg (tiC RA rc V UA O us DA dc U),.int .i64 (p1:Int),.int .i64 (p2:Int)] w (zAf (.bool (zDK V U U[p1] U[p2])) w):=by
 obtain⟨hcr,hul,hdl⟩:=zBd hc;have hm1:=aH hp1;have hm2:=aH hp2;have HGR:=zq (zCi hcr);have HVA:=zq (fun(i:Nat)(pl S:BA)(day:Int)(u:World)(hu:Below w.heap.size w u)(hi:i<V.length)(hpl:(V[i]).nm=pl)=>validR_c RA rc V UA O us DA dc U p1 i pl S day u (hr.below hu) (hd.below hu) (zCi hcr) hi hpl hp1 hdl (zCS hc) hg1 (zCA hc _ hm1).2 (zCA hc _ hm1).1);have HVB:=zq (fun(i:Nat)(pl S:BA)(day:Int)(u:World)(hu:Below w.heap.size w u)(hi:i<V.length)(hpl:(V[i]).nm=pl)=>validR_c RA rc V UA O us DA dc U p2 i pl S day u (hr.below hu) (hd.below hu) (zCi hcr) hi hpl hp2 hdl (zCS hc) hg2 (zCA hc _ hm2).2 (zCA hc _ hm2).1);have HDY:=zq (fun(u:World)(hu:Below w.heap.size w u)=>days_c RA rc V UA O us DA dc U 0 200001 u (hd.below hu) hdl);have HAL:=zq (fun(u:World)(hu:Below w.heap.size w u)=>all_c RA rc V u HGR.o (hr.below hu));have HMI:=zq (meet_iff hc hm1 hm2 hg1 hg2);have HUw:=zq hu;generalize U[p1]=da at *;generalize U[p2]=db at *;generalize C:zDK V U da db=res;rw[C]at HMI;clear hcr hm1 hm2 hr hd hc hg1 hg2 hu C;have hbw:Below w.heap.size w (w.alloc (.cells (tiC RA rc V UA O us DA dc U) 26)):=(aR _ _).alloc (aK _) _;have HX:Hid (Bx (w.alloc (.cells (tiC RA rc V UA O us DA dc U) 26)) w.heap.size (tiC RA rc V UA O us DA dc U) 26):=Bx.new _ _ _;obtain⟨W,hW⟩:∃W,W=w.alloc (.cells (tiC RA rc V UA O us DA dc U) 26):=⟨_,rfl⟩;rw[<-hW]at hbw HX;have HB:=zq hbw;clear hbw
 go_enter Tryz.func60,Tryz.ntmps60;(go_upto_region 1 with fail);rw[<-hW];clear hW;(iterate 2 go_step);refine fG _ _ zk w.heap.size 0 zk (tiC RA rc V UA O us DA dc U).toList _ (zBt HX.o) Tryz.underlying26 rfl zc ?_;(go_wp2_with fail);(with_reducible refine(HDY.o W HB.o).mono ?_);rintro e w3⟨Z,c2,D,rfl,hrd,hdy,hDl,hb3⟩;have HB3:=zq (zAa HB.o hb3);have HX3:=zq (HX.o.below hb3);have HRD:=zq hrd
 have HDM:Hid (∀x,x∈D↔dayR U x):=fun x=>by
  rw[hdy.2 x];unfold dayR dyP;rw[aN]
 have HYES:Hid (∀x∈D,∀n,n<(zAh V).length->∀u∈us,voB V U da db x n u=true->res=true):=fun x hx n J u hu h=>by
  unfold voB at h;rw[eE]at h;exact HMI.o.1 ⟨x,(HDM.o x).1 hx,n,J,u,hu,h⟩
 clear hb3 hrd hdy HX HB HDY;go_wp2_with fail
 go_loopg[17] D.length (TgR1 w3 D (voB V U da db) (zAh V).length us)
 case atStart=>exact⟨0,za,rfl,fun q _ hq=>za,aR _ _⟩
 case round =>
  obtain⟨j,hjm,rfl,hno,I⟩:=hrel;have HJ:=zq hjm;have HNO:=zq hno;have HBJ:=zq I;clear hjm hno I
  by_cases hlj:j<D.length
  ·obtain⟨b2,o2,hA2,_,hc2⟩:=HRD.o.at_ za
   subst hA2;have cx:=zAe HBJ.o (hc2 j hlj);have HJL:=zq hlj;have HY2:=zq (HYES.o _ (aH hlj));obtain⟨x,hx⟩:∃x,D[j]'hlj=x:=⟨_,rfl⟩;rw[hx]at cx HY2;have HXE:=zq hx;have HXJ:=zq (HX3.o.below HBJ.o);have HBJW:=zq (zAa HB3.o HBJ.o);have x0:=HXJ.o.c 0 rfl;have hsx:=HXJ.o.lt;clear hc2 hx;(go_wp2_with fail);(with_reducible refine(HAL.o wr HBJW.o).mono ?_);rintro e w4⟨A3,c3,rfl,hpl,hb4⟩;have HB4:=zq (zAa HBJ.o hb4);have HBW4:=zq (zAa HBJW.o hb4);have HX4:=zq (HXJ.o.below hb4);have HPL:=zq hpl;have hal2:(allS V).length=(zAh V).length:=by unfold allS;rw[bZ]
   have hnl:(zAh V).length<=200:=dX (leafIdx_le V) HGR.o.len;obtain⟨nl,hnle⟩:∃nl,nl=(allS V).length:=⟨_,rfl⟩;rw[<-hnle];have HNL:Hid (nl=(zAh V).length):=by show _=_;rw[hnle,hal2]
   have hnl2:nl<=200:=by rw[hnle,hal2];exact hnl
   clear hpl hb4 cx x0 hsx hnle hal2 hnl HXJ HBJW HBJ;go_wp2_with fail
   go_loopg[25] nl (TgR2 w4 (voB V U da db x) nl us)
   case atStart=>exact⟨0,za,rfl,fun q hq=>za,aR _ _⟩
   case round =>
    obtain⟨n,hnm,rfl,hno,I⟩:=hrel;have HN:=zq hnm;have HNO2:=zq hno;have HBN:=zq I;clear hnm hno I
    by_cases hln:n<nl
    ·have hln2:n<(zAh V).length:=by rw[<-HNL.o];exact hln
     obtain⟨hi,hnm⟩:=leaf_nm hln2;obtain⟨b4,o4,hA3,_,hc4⟩:=HPL.o.at_ (by unfold allS;rw[bZ];omega);subst hA3;have cp0:=hc4 n (by unfold allS;rw[bZ];exact hln2);rw[hnm]at cp0;have HY3:=zq (HY2.o n hln2);have HV1:=zq (fun(S:BA)(day:Int)(u:World)(hu:Below w.heap.size w u)=>HVA.o (lfI V n) _ S day u hu hi rfl);have HV2:=zq (fun(S:BA)(day:Int)(u:World)(hu:Below w.heap.size w u)=>HVB.o (lfI V n) _ S day u hu hi rfl);generalize (V[lfI V n]).nm=pl at *;have HXN:=zq (HX4.o.below HBN.o);have cp:=zAe HBN.o cp0;have x1:=HXN.o.c 1 rfl;have hsx:=HXN.o.lt;have HNL2:=zq hln;clear hc4 hnm cp0 hln2;go_wp2_with fail
     go_loopg[32] us.length (TgR3 w4 (voB V U da db x n) us)
     case atStart=>exact⟨0,za,rfl,fun q _ hq=>za,HBN.o⟩
     clear cp x1 hsx HXN
     case round =>
      obtain⟨q,hqm,rfl,hno,I⟩:=hrel;have HQ:=zq hqm;have HNO3:=zq hno;have HBU:=zq I;clear hqm hno I
      by_cases hlq:q<us.length
      ·obtain⟨bu,ou,hUA,_,hcu⟩:=HUw.o.at_ za
       subst hUA;have HBUW:=zq (zAa HBW4.o HBU.o);have cu:=zAe HBUW.o (hcu q hlq);have HY4:=zq (HY3.o us[q] (aH hlq))
       have HNX:Hid (voB V U da db x n us[q]=false->∀r (h:r<us.length),r<q+1->voB V U da db x n us[r]=false):=fun h r hr hrq=>by
        by_cases e:r=q
        ·subst e;exact h
        ·exact HNO3.o r hr za
       generalize us[q]=u at *;unfold voB at HY4 HNX;clear hcu;(go_upto_region 11 with fail);obtain⟨wx,hwx⟩:∃wx,wx=wr.alloc (.cells (whrC pl u x) 135):=⟨_,rfl⟩;rw[<-hwx];have hbx:Below wr.heap.size wr wx:=by rw[hwx];exact(aR _ _).alloc (aK _) _
       have HY:Hid (Bx wx wr.heap.size (whrC pl u x) 135):=by show Bx _ _ _ _;rw[hwx];exact Bx.new _ _ _
       have HBX:=zq (zAa HBU.o hbx);have HBXW:=zq (zAa HBUW.o hbx);have HXX:=zq (HX4.o.below HBX.o);clear hwx hbx cu HBUW;obtain⟨x0,x1,x2⟩:=HXX.o.t;have hsx:=HXX.o.lt;obtain⟨y0,y1,y2⟩:=HY.o.t;have hsy:=HY.o.lt;have HC1:=zq (HV1.o u x wx HBXW.o);(go_wp2_with fail);(with_reducible refine HC1.o.mono ?_);rintro e wv⟨rfl,hbv⟩;have HBV:=zq (zAa HBX.o hbv);have HBVW:=zq (zAa HBXW.o hbv);have HXV:=zq (HXX.o.below hbv);have HYV:=zq (HY.o.below hbv);clear hbv HC1 x0 x1 x2 hsx y0 y1 y2 hsy HXX HY HBX HBXW
       cases hv:vB V U (lfI V n) u x da with
       |false =>
        have HN2:=zq (HNX.o (by rw[hv];rfl));clear hv HNX HY4;go_wp2
        go_roundg (gk-1)
        case measure=>have:=HQ.o;omega
        case rel=>exact⟨q+1,by have:=HQ.o;omega,zi,HN2.o,HBV.o⟩
       |true =>
        have HC2:=zq (HV2.o u x wv HBVW.o);have HN2:Hid (vB V U (lfI V n) u x db=false->∀r (h:r<us.length),r<q+1->voB V U da db x n us[r]=false):=fun h=>HNX.o (by rw[h,Bool.and_false])
        have HY5:Hid (vB V U (lfI V n) u x db=true->res=true):=fun h=>HY4.o (by rw[hv,h];rfl)
        obtain⟨x0,x1,x2⟩:=HXV.o.t;have hsx:=HXV.o.lt;obtain⟨y0,y1,y2⟩:=HYV.o.t;have hsy:=HYV.o.lt;clear hv HNX HY4;(go_wp2_with fail);(with_reducible refine HC2.o.mono ?_);rintro e wz⟨rfl,hbz⟩;have HBZ:=zq (zAa HBV.o hbz);have HBZW:=zq (zAa HBVW.o hbz);clear hbz HC2 x0 x1 x2 hsx y0 y1 y2 hsy HXV HYV HBV HBVW
        cases hz:vB V U (lfI V n) u x db with
        |false =>
         have HN3:=zq (HN2.o hz);clear hz HN2 HY5;go_wp2
         go_roundg (gk-1)
         case measure=>have:=HQ.o;omega
         case rel=>exact⟨q+1,by have:=HQ.o;omega,zi,HN3.o,HBZ.o⟩
        |true =>
         have HY6:=zq (HY5.o hz);clear hz HN2 HY5;go_wp2;go_ret
         exact zAf.mk (by first|(rw[HY6.o];rfl)|rw[HY6.o]) HBZW.o
      ·obtain rfl:q=us.length:=by have:=HQ.o;omega
       have HN4:Hid (∀r,r<n+1->∀u∈us,voB V U da db x r u=false):=fun r hr u hu=>by
        by_cases e:r=n
        ·subst e
         obtain⟨y,hy,rfl⟩:=bD hu;exact HNO3.o y hy hy
        ·exact HNO2.o r za u hu
       go_wp2
       go_roundg (nl-n-1)
       case measure=>have:=HN.o;omega
       case rel=>exact⟨n+1,by have:=HNL2.o;omega,zi,HN4.o,HBU.o⟩
    ·obtain rfl:n=nl:=by have:=HN.o;omega
     have HN4:Hid (∀q (h:q<D.length),q<j+1->∀n,n<(zAh V).length->∀u∈us,voB V U da db D[q] n u=false):=fun q hq hqj n J u hu=>by
      by_cases e:q=j
      ·subst e
       rw[HXE.o];exact HNO2.o n (by rw[HNL.o];exact J) u hu
      ·exact HNO.o q hq za n J u hu
     have HB5:=zq (zAa HB4.o HBN.o);go_wp2
     go_roundg (D.length-j-1)
     case measure=>have:=HJ.o;omega
     case rel=>exact⟨j+1,by have:=HJL.o;omega,zi,HN4.o,HB5.o⟩
  ·obtain rfl:j=D.length:=by have:=HJ.o;omega
   have HF:Hid (res=false):=by
    show _=_
    cases hq:res with
    |false=>rfl
    |true =>
     obtain⟨x,hx,n,J,u,hu,h1,h2⟩:=HMI.o.2 hq;obtain⟨q,hql,rfl⟩:=bD ((HDM.o x).2 hx);have:=HNO.o q hql hql n J u hu;unfold voB at this;rw[h1,h2]at this
     cases this
   go_wp2;go_ret
   exact zAf.mk yb (zAa HB3.o HBJ.o)
theorem zDB(w:World)(g:Nat)(cs:Array Value):w.grownBy (w.setRow g cs) (some g):=
 ⟨rfl,rfl,rfl,ze,fun i _ hne=>setRow_other _ _ _ _ fun e=>hne (by rw[e])⟩
def CkR2(W:World)(V:List Rg)(U:List De)(i:Nat)(m:Nat)(ov iv:Value)(wr:World):Prop:=
 ∃(k:Nat)(v:Value),v=ov/\k+m=U.length/\i<k/\iv=.int .i64 (k:Nat)/\zAv encP 2 wr W.heap.size 64 v (conL V U i++conR V U i k)/\Below W.heap.size W wr
theorem ConflictsR_c(RA:OA)(rc:Nat)(V:List Rg)(UA:OA)(O:Nat)(us:List BA)(DA:OA)(dc:Nat)(U:List De)(w:World)(hr:Rgs w RA V)(hu:Strs w UA us)(hd:Des w DA U)(hz:∀i (h:i<V.length),(V[i]).nm.size<=9223372036854775807)(hz2:∀i (h:i<us.length),(us[i]).size<=9223372036854775807): Calls Tryz.prog 19 #[.agg (tiC RA rc V UA O us DA dc U)] w (GivesCf (coA V us U) (zBY V us U) w):=by
 have HX:Hid (Bx (w.alloc (.cells (tiC RA rc V UA O us DA dc U) 26)) w.heap.size (tiC RA rc V UA O us DA dc U) 26):=Bx.new _ _ _;have HB:Hid (Below w.heap.size w (w.alloc (.cells (tiC RA rc V UA O us DA dc U) 26))):=(aR _ _).alloc (aK _) _;obtain⟨W,hW⟩:∃W,W=w.alloc (.cells (tiC RA rc V UA O us DA dc U) 26):=⟨_,rfl⟩;rw[<-hW]at HX HB;have HCK:=zq (CheckTR_c RA rc V UA O us DA dc U W (hr.below HB.o) (hu.below HB.o) (hd.below HB.o) hz hz2);have HDw:=zq hd;have HUw:=zq hu;have HRw:=zq hr;clear hr hu hd
 go_enter Tryz.func19,Tryz.ntmps19;(go_upto_region 1 with fail);rw[<-hW];clear hW;(iterate 2 go_step);refine fG _ _ zk w.heap.size 0 zk (tiC RA rc V UA O us DA dc U).toList _ (zBt HX.o) Tryz.underlying26 rfl zc ?_;(go_wp2_with fail);(with_reducible refine HCK.o.mono ?_);rintro e w1⟨rfl,hb1⟩;have HB1:=zq (zAa HB.o hb1);have X:=zq (HX.o.below hb1);clear hb1 HCK HX HB
 by_cases hc:zBY V us U=0
 case neg =>
  have hcb:(zBY V us U != 0)=true:=by simpa using hc
  have HS:Hid (coA V us U=[]):=by show _=_;unfold coA;rw[aO hc]
  clear hc;exact tdl
 have HC:=zq hc;have HS:Hid (coA V us U=conL V U U.length):=by show _=_;unfold coA;rw[aF hc]
 obtain⟨_,_,hdl⟩:=zBd HC.o;have HTG:=zq (fun(i k:Nat)(u:World)(hu:Below w.heap.size w u)(hi:i<U.length)(hk:k<U.length)(hgi:zAg (U[i]).kd=true)(hgk:zAg (U[k]).kd=true)=>togetherR_c RA rc V UA O us DA dc U i k u (HRw.o.below hu) (HUw.o.below hu) (HDw.o.below hu) HC.o hi hk hgi hgk);rw[hc];clear hc;have x2:=X.o.c 2 rfl;have hsx:=X.o.lt;go_wp2_with fail
 go_loopg[5,6] U.length (CfR1 w1 V U)
 case atStart=>exact⟨0,_,rfl,za,rfl,zAv.nil _ _ _ _ _,aR _ _⟩
 clear x2 hsx
 case round =>
  obtain⟨i,ov,rfl,him,rfl,how,I⟩:=hrel;have HI:=zq him;have HO:=zq how;have HBI:=zq I;have hcl:(conL V U i).length<=200*200:=dX (conL_len i) (dU za hdl);have HXI:=zq (X.o.below I);have x2:=HXI.o.c 2 rfl;have hsx:=HXI.o.lt;clear him how I
  by_cases Y:i<U.length
  ·obtain⟨b,o,hA,hb0,hc0⟩:=HDw.o za
   subst hA;have HC0:=zq hc0;have HMI:=zq (fun(k:Nat)(u:World)(hu:Below w.heap.size w u)(hk:k<U.length)=>HTG.o i k u hu Y hk);have HGI:=zq (getD_at Y);have HLI:=zq Y;have HPI:=zq (hc0 i Y).1;generalize U[i]=da at *;clear hc0;go_wp2
   go_loopg[5,7] (U.length-(i+1)) (CkR2 w1 V U i)
   case atStart=>exact⟨i+1,_,rfl,za,za,zi,by rw[conR_up (aK _),bV];exact HO.o,HBI.o⟩
   clear x2 hsx HO HBI HXI
   case round =>
    obtain⟨k,ov,rfl,hkm,hik,rfl,how,I⟩:=hrel;have HK:=zq hkm;have HIK:=zq hik;have HO:=zq how;have HBK:=zq I
    have hcr:(conL V U i++conR V U i k).length<=200*200+200:=by
     rw[eA];have:=@conR_len V U i k;omega
    have HXK:=zq (X.o.below I);have x2:=HXK.o.c 2 rfl;have hsx:=HXK.o.lt;clear hkm hik how I
    by_cases hlk:k<U.length
    ·have HMK:=zq (fun(u:World)(hu:Below w.heap.size w u)=>HMI.o k u hu hlk)
     have hp:=(HC0.o k hlk).1;have hcs:confB V U i k=(sameB da U[k]&&zDK V U da U[k]):=by unfold confB;rw[HGI.o,getD_at hlk,aD HIK.o,eL]
     have hrr:=@conR_succ V U i k;rw[HGI.o,getD_at hlk]at hrr;rw[hcs]at hrr;have HRR:=zq hrr;clear hcs hrr;generalize U[k]=db at *;have HBW:=zq (zAa HB1.o HBK.o);have hsb:b<wr.heap.size:=aB hb0 HBW.o.size;have HRI:Hid (wr.rangeAt b (o+i*16) (deC da).toList):=fun q v hv=>zAe HBW.o (HPI.o q v hv)
     have HRK:Hid (wr.rangeAt b (o+k*16) (deC db).toList):=fun q v hv=>zAe HBW.o (hp q v hv)
     have KL:Hid (∀w',Below wr.heap.size wr w'->w'.cell? ⟨w.heap.size,2,none⟩=some (.slice (some ⟨b,o,none⟩) U.length dc)/\True):=fun w' I=>⟨(I.cell (p:=⟨w.heap.size,2,none⟩) hsx).trans x2,trivial⟩
     clear hp;go_upto_region 11 with fail
     go_cut[8,9] (fun p1 p2 wx=>∃b1 b2:Nat,p1=.pointer (some ⟨b1,0,none⟩)/\p2=.pointer (some ⟨b2,0,none⟩)/\Bx wx b1 (deC da) 126/\Bx wx b2 (deC db) 126/\Below wr.heap.size wr wx)
     case first =>
      refine eU (S:=fun w'=>Below wr.heap.size wr w') zc ?_ (fun a=>?_)
      ·exact zAb (aR _ _) 1
      refine Dw.tk 0 ?_ rfl ?_ zj ?_
      rotate_left 1
      ·(intro w9 _;go_simp;try with_reducible rfl)
      simp only[eZ,dS,Act.put,dP,eX,dL];refine Dw.tk 1 ?_ rfl ?_ zj ?_
      rotate_left 1
      ·(intro w9 hSw;have e0:=(KL.out _ hSw).1;go_simp;try with_reducible rfl)
      simp only[Dw.lay,Act.put];refine Dw.tk 2 ?_ rfl ?_ zj ?_
      rotate_left 1
      ·(intro w9 _;go_simp;try with_reducible rfl)
      simp only[Dw.lay,Act.put];refine Dw.tk 3 ?_ rfl ?_ zj ?_
      rotate_left 1
      ·(intro w9 _;go_simp;try with_reducible rfl)
      simp only[Dw.lay,Act.put];refine eW (i:=4) (v:=deV da) rfl zc zc zc (fun _ _ _ h=>h) ?_ zj ?_
      ·exact zDx zc (.tmp 34) rfl b (o+i*16) zc da (fun w' hSw q v hv=>zAe hSw (HRI.o q v hv))
      simp only[Dw.lay,Act.put];refine Dw.tk 5 ?_ rfl ?_ zj ?_
      rotate_left 1
      ·(intro w9 _;go_simp;try with_reducible rfl)
      simp only[Dw.lay,Act.put];refine Dw.tk 6 ?_ rfl ?_ zj ?_
      rotate_left 1
      ·(intro w9 hSw;have e0:=(KL.out _ hSw).1;go_simp;try with_reducible rfl)
      simp only[Dw.lay,Act.put];refine Dw.tk 7 ?_ rfl ?_ zj ?_
      rotate_left 1
      ·(intro w9 _;go_simp;try with_reducible rfl)
      simp only[Dw.lay,Act.put];refine Dw.tk 8 ?_ rfl ?_ zj ?_
      rotate_left 1
      ·(intro w9 _;go_simp;try with_reducible rfl)
      simp only[Dw.lay,Act.put];refine eW (i:=9) (v:=deV db) rfl zc zc zc (fun _ _ _ h=>h) ?_ zj ?_
      ·exact zDx zc (.tmp 39) rfl b (o+k*16) zc db (fun w' hSw q v hv=>zAe hSw (HRK.o q v hv))
      simp only[Dw.lay,Act.put];have hbw0:Below wr.heap.size wr wr.drew:=zAb (aR _ _) 1;generalize wr.drew=w0 at a hbw0 ⊢;refine wpAnyH_ready (rs:=[10,11]) zc ze ?_;refine fA rfl (fun K hK=>?_) (fA rfl (fun K hK=>?_) (AllReadyH.nil))
      ·clear a
       go_simp;obtain⟨bw0a,hbq⟩:∃q,q=w0.heap.size:=⟨_,rfl⟩;generalize hw:World.alloc w0 (Obj.cells _ _)=w0a;have hxw0a10:∃zs:Array Value,zs.size=16/\Bx w0a w0.heap.size zs 126:=jg;have hbw0a:Below wr.heap.size wr w0a:=by rw[<-hw];exact hbw0.alloc hbw0.size _
       have hgebw0a:wr.heap.size<=w0.heap.size:=hbw0.size;rw[<-hbq]at hxw0a10 hgebw0a ⊢;clear hw hbq;refine hK.out _ _ hbw0a (fun a=>?_);clear hK K
       try simp only[Dw.lay,Act.put]
       refine wpAnyH_ready (rs:=[11]) zc ze ?_;refine fA rfl (fun K hK=>?_) (AllReadyH.nil)
       ·clear a
        go_simp;obtain⟨bw0ab,hbq⟩:∃q,q=w0a.heap.size:=⟨_,rfl⟩;generalize hw:World.alloc w0a (Obj.cells _ _)=w0ab;have hxw0ab11:∃zs:Array Value,zs.size=16/\Bx w0ab w0a.heap.size zs 126:=jg;have hbw0ab:Below wr.heap.size wr w0ab:=by rw[<-hw];exact hbw0a.alloc hbw0a.size _
        have hxw0ab10:∃zs:Array Value,zs.size=16/\Bx w0ab bw0a zs 126:=by obtain⟨zs,h1,h2⟩:=hxw0a10;exact⟨zs,h1,by rw[<-hw];exact h2.alloc _⟩
        have hgebw0ab:wr.heap.size<=w0a.heap.size:=hbw0a.size;have hne10:bw0a≠w0a.heap.size:=by obtain⟨zs,h1,h2⟩:=hxw0a10;exact Nat.ne_of_lt h2.lt
        rw[<-hbq]at hxw0ab11 hgebw0ab hne10 ⊢;clear hw hbq;refine hK.out _ _ hbw0ab (fun a=>?_);clear hK K
        try simp only[Dw.lay,Act.put]
        refine wpAnyH_ready (rs:=[12]) zc ze ?_;refine fA rfl (fun K hK=>?_) (AllReadyH.nil)
        ·clear a
         rw[aF zc];obtain⟨zs,hzl,hzb⟩:=hxw0ab10;have hg:=zDB w0ab bw0a (deC da);have hs:=setRow_heap w0ab bw0a zs (deC da) 126 (0,0) hzb;refine wp_store_row 126 (.tmp 8) (.tmp 35) rfl bw0a (deC da) rfl rfl 126 zs hzb zc hzl zr ?_;generalize World.setRow w0ab bw0a (deC da)=w0abc at hg hs ⊢;have hxw0abc10:Bx w0abc bw0a (deC da) 126:=hs;have hbw0abc:Below wr.heap.size wr w0abc:=hbw0ab.grown hg hbw0ab.size (fun q hq=>by injection hq with hq;rw[<-hq];exact hgebw0a);have hxw0abc11:∃zs:Array Value,zs.size=16/\Bx w0abc bw0ab zs 126:=by obtain⟨z2,h1,h2⟩:=hxw0ab11;exact⟨z2,h1,(hg.block bw0ab h2.lt (fun e=>hne10 (by injection e with e;exact e.symm))).trans h2⟩
         clear hg hs;refine hK.out _ _ hbw0abc (fun a=>?_);clear hK K
         try simp only[eZ,dM,dS,Act.put]
         refine wpAnyH_ready (rs:=[13]) zc ze ?_;refine fA rfl (fun K hK=>?_) (AllReadyH.nil)
         ·clear a
          rw[aF zc];obtain⟨zs,hzl,hzb⟩:=hxw0abc11;have hg:=zDB w0abc bw0ab (deC db);have hs:=setRow_heap w0abc bw0ab zs (deC db) 126 (0,0) hzb;refine wp_store_row 126 (.tmp 9) (.tmp 40) rfl bw0ab (deC db) rfl rfl 126 zs hzb zc hzl zr ?_;generalize World.setRow w0abc bw0ab (deC db)=w0abcd at hg hs ⊢;have hxw0abcd11:Bx w0abcd bw0ab (deC db) 126:=hs;have hbw0abcd:Below wr.heap.size wr w0abcd:=hbw0abc.grown hg hbw0abc.size (fun q hq=>by injection hq with hq;rw[<-hq];exact hgebw0ab);have hxw0abcd10:Bx w0abcd bw0a (deC da) 126:=(hg.block bw0a hxw0abc10.lt (fun e=>hne10 (by injection e with e))).trans hxw0abc10;clear hg hs;refine hK.out _ _ hbw0abcd (fun a=>?_);clear hK K
          try simp only[eZ,dM,dS,Act.put]
          refine wpAnyH_done zc ?_ _;clear a;go_wp2;go_meet;exact⟨bw0a,bw0ab,rfl,rfl,hxw0abcd10,hxw0abcd11,hbw0abcd⟩
      ·clear a
       go_simp;obtain⟨bw0b,hbq⟩:∃q,q=w0.heap.size:=⟨_,rfl⟩;generalize hw:World.alloc w0 (Obj.cells _ _)=w0b;have hxw0b11:∃zs:Array Value,zs.size=16/\Bx w0b w0.heap.size zs 126:=jg;have hbw0b:Below wr.heap.size wr w0b:=by rw[<-hw];exact hbw0.alloc hbw0.size _
       have hgebw0b:wr.heap.size<=w0.heap.size:=hbw0.size;rw[<-hbq]at hxw0b11 hgebw0b ⊢;clear hw hbq;refine hK.out _ _ hbw0b (fun a=>?_);clear hK K
       try simp only[Dw.lay,Act.put]
       refine wpAnyH_ready (rs:=[10]) zc ze ?_;refine fA rfl (fun K hK=>?_) (AllReadyH.nil)
       ·clear a
        go_simp;obtain⟨bw0ba,hbq⟩:∃q,q=w0b.heap.size:=⟨_,rfl⟩;generalize hw:World.alloc w0b (Obj.cells _ _)=w0ba;have hxw0ba10:∃zs:Array Value,zs.size=16/\Bx w0ba w0b.heap.size zs 126:=jg;have hbw0ba:Below wr.heap.size wr w0ba:=by rw[<-hw];exact hbw0b.alloc hbw0b.size _
        have hxw0ba11:∃zs:Array Value,zs.size=16/\Bx w0ba bw0b zs 126:=by obtain⟨zs,h1,h2⟩:=hxw0b11;exact⟨zs,h1,by rw[<-hw];exact h2.alloc _⟩
        have hgebw0ba:wr.heap.size<=w0b.heap.size:=hbw0b.size;have hne11:bw0b≠w0b.heap.size:=by obtain⟨zs,h1,h2⟩:=hxw0b11;exact Nat.ne_of_lt h2.lt
        rw[<-hbq]at hxw0ba10 hgebw0ba hne11 ⊢;clear hw hbq;refine hK.out _ _ hbw0ba (fun a=>?_);clear hK K
        try simp only[Dw.lay,Act.put]
        refine wpAnyH_ready (rs:=[12]) zc ze ?_;refine fA rfl (fun K hK=>?_) (AllReadyH.nil)
        ·clear a
         rw[aF zc];obtain⟨zs,hzl,hzb⟩:=hxw0ba10;have hg:=zDB w0ba bw0ba (deC da);have hs:=setRow_heap w0ba bw0ba zs (deC da) 126 (0,0) hzb;refine wp_store_row 126 (.tmp 8) (.tmp 35) rfl bw0ba (deC da) rfl rfl 126 zs hzb zc hzl zr ?_;generalize World.setRow w0ba bw0ba (deC da)=w0bac at hg hs ⊢;have hxw0bac10:Bx w0bac bw0ba (deC da) 126:=hs;have hbw0bac:Below wr.heap.size wr w0bac:=hbw0ba.grown hg hbw0ba.size (fun q hq=>by injection hq with hq;rw[<-hq];exact hgebw0ba);have hxw0bac11:∃zs:Array Value,zs.size=16/\Bx w0bac bw0b zs 126:=by obtain⟨z2,h1,h2⟩:=hxw0ba11;exact⟨z2,h1,(hg.block bw0b h2.lt (fun e=>hne11 (by injection e with e))).trans h2⟩
         clear hg hs;refine hK.out _ _ hbw0bac (fun a=>?_);clear hK K
         try simp only[eZ,dM,dS,Act.put]
         refine wpAnyH_ready (rs:=[13]) zc ze ?_;refine fA rfl (fun K hK=>?_) (AllReadyH.nil)
         ·clear a
          rw[aF zc];obtain⟨zs,hzl,hzb⟩:=hxw0bac11;have hg:=zDB w0bac bw0b (deC db);have hs:=setRow_heap w0bac bw0b zs (deC db) 126 (0,0) hzb;refine wp_store_row 126 (.tmp 9) (.tmp 40) rfl bw0b (deC db) rfl rfl 126 zs hzb zc hzl zr ?_;generalize World.setRow w0bac bw0b (deC db)=w0bacd at hg hs ⊢;have hxw0bacd11:Bx w0bacd bw0b (deC db) 126:=hs;have hbw0bacd:Below wr.heap.size wr w0bacd:=hbw0bac.grown hg hbw0bac.size (fun q hq=>by injection hq with hq;rw[<-hq];exact hgebw0b);have hxw0bacd10:Bx w0bacd bw0ba (deC da) 126:=(hg.block bw0ba hxw0bac10.lt (fun e=>hne11 (by injection e with e;exact e.symm))).trans hxw0bac10;clear hg hs;refine hK.out _ _ hbw0bacd (fun a=>?_);clear hK K
          try simp only[eZ,dM,dS,Act.put]
          refine wpAnyH_done zc ?_ _;clear a;go_wp2;go_meet;exact⟨bw0ba,bw0b,rfl,rfl,hxw0bacd10,hxw0bacd11,hbw0bacd⟩
     case rest =>
      obtain⟨b1,b2,rfl,rfl,hx1,hx2,hbx⟩:=hcut;have HDD:=zq hx1;have m:=zq hx2;have HBD:=zq (zAa HBK.o hbx);have HBDW:=zq (zAa HBW.o hbx);have HOD:=zq (HO.o.below hbx);have HXD:=zq (HXK.o.below hbx)
      have HNO:Hid ((sameB da db&&zDK V U da db)=false->zAv encP 2 wc w1.heap.size 64 ov (conL V U i++conR V U i (k+1))):=fun h=>by
       rw[HRR.o,h,aO ze,bV];exact HOD.o
      clear hx1 hx2 hbx HO HBK HXK HBW KL HRI HRK x2 hsx;have a2:=HDD.o.c 2 rfl;have a3:=HDD.o.c 3 rfl;have a4:=HDD.o.c 4 rfl;have a8:=HDD.o.c 8 rfl;have hsa:=HDD.o.lt;have d2:=m.o.c 2 rfl;have d3:=m.o.c 3 rfl;have d4:=m.o.c 4 rfl;have d8:=m.o.c 8 rfl;have hsd:=m.o.lt
      by_cases h2:da.kd=3
      case neg =>
       have q2:(da.kd == 3)=false:=by simpa using h2
       have HN:=zq (HNO.o (by unfold sameB;rw[aE h2];simp));clear h2 HNO;exact tck
      have q2:(da.kd == 3)=true:=by simpa using h2
      by_cases h3:db.kd=3
      case neg =>
       have q3:(db.kd == 3)=false:=jk;have HN:=zq (HNO.o (by unfold sameB;rw[aE h3];simp));clear h2 h3 HNO;exact tck
      have q3:(db.kd == 3)=true:=jk
      by_cases h4:da.th=db.th
      case neg =>
       have q4:=zAp h4;have HN:=zq (HNO.o (by unfold sameB;rw[aE h4];simp));clear h2 h3 h4 HNO;exact tck
      have q4:=zAn h4
      by_cases h5:da.fr=db.fr
      case neg =>
       have q5:=zAp h5;have HN:=zq (HNO.o (by unfold sameB;rw[aE h5];simp));clear h2 h3 h4 h5 HNO;exact tck
      have q5:=zAn h5;have HSB:Hid (sameB da db=(da.ex || db.ex)):=yz;have HME:=zq (HMK.o wc HBDW.o (by rw[h2];rfl) (by rw[h3];rfl));clear h2 h3 h4 h5;generalize hxa:da.ex=xa at *;generalize hxb:db.ex=xb at *
      by_cases hx:(xa || xb)=true
      case neg =>
       have hxf:(xa || xb)=false:=by simpa using hx
       have HN:=zq (HNO.o (by rw[HSB.o,hxf];simp));rw[Bool.or_eq_false_iff]at hxf;obtain⟨rfl,rfl⟩:=hxf;clear hx HNO HSB;exact tck
      have HM2:Hid ((sameB da db&&zDK V U da db)=zDK V U da db):=by show _=_;rw[HSB.o,hx];simp
      rw[HM2.o]at HNO HRR;clear HSB HM2
      have hxx:xa=true\/(xa=false/\xb=true):=by
       cases xa with
       |true=>exact .inl rfl
       |false=>exact .inr ⟨rfl,by simpa using hx⟩
      clear hx
      rcases hxx with rfl|⟨rfl,rfl⟩
      all_goals
       obtain⟨x0,x1,x2⟩:=HXD.o.t;have hsx:=HXD.o.lt;(go_wp2_with fail);(with_reducible refine HME.o.mono ?_);rintro e wm⟨rfl,hbm⟩;have HBM:=zq (zAa HBD.o hbm);have HOM:=zq (HOD.o.below hbm);have HDM:=zq (HDD.o.below hbm);have HD2:=zq (m.o.below hbm);have HNM:Hid (zDK V U da db=false->zAv encP 2 wm w1.heap.size 64 ov (conL V U i++conR V U i (k+1))):=fun h=>(HNO.o h).below hbm
       clear hbm HME HNO HBD HOD HDD m HXD HBDW x0 x1 x2 hsx a2 a3 a4 a8 hsa d2 d3 d4 d8 hsd q2 q3 q4 q5
       cases hm:zDK V U da db with
       |false =>
        have HN:=zq (HNM.o hm);clear hm HNM;go_wp2
        go_roundg (gk-1)
        case measure=>have:=HK.o;omega
        case rel=>exact⟨k+1,ov,rfl,zh,by have:=HIK.o;omega,zi,HN.o,HBM.o⟩
       |true =>
        have HR2:Hid (conR V U i (k+1)=conR V U i k++[(da.id,db.id)]):=by show _=_;rw[HRR.o,hm,aF rfl]
        have a0:=HDM.o.c 0 rfl;have hsa:=HDM.o.lt;have d0:=HD2.o.c 0 rfl;have hsd:=HD2.o.lt;have hw1:w1.heap.size<=wm.heap.size:=HBM.o.size;clear hm HNM
        go_wp2_with (at_builtin;refine zDG (k:=2) (enc:=encP) (fun _=>rfl) onePr _ _ _ elPr rfl rfl w1.heap.size ov (conL V U i++conR V U i k) rfl (HOM.o.alloc _) (some ⟨wm.heap.size,0,none⟩) 1 1 [(da.id,db.id)] rfl rfl (rdk_pr wm (da.id,db.id) _) (.inl ze) (by show(conL V U i++conR V U i k).length+1<=maxLen;unfold maxLen;omega) (by show((conL V U i++conR V U i k).length+1)*32<=_;omega) zg ?_;intro v1 w4 E hg4 hb4 _)
        have HO4:Hid (zAv encP 2 w4 w1.heap.size 64 v1 (conL V U i++conR V U i (k+1))):=by show zAv _ _ _ _ _ _ _;rw[HR2.o,<-dN];exact E
        have HB4:=zq ((HBM.o.alloc hw1 _).trans hb4);clear E hg4 hb4 a0 hsa d0 hsd;go_wp2
        go_roundg (gk-1)
        case measure=>have:=HK.o;omega
        case rel=>exact⟨k+1,v1,rfl,zh,by have:=HIK.o;omega,zi,HO4.o,HB4.o⟩
    ·exact ta8
  ·exact tbv
abbrev encV:Value->List Value:=fun v=>[v]
theorem elSets:ElemT Tryz.prog 104 108 (.slice none 0 0) 1 24:=⟨Tryz.underlying104,zc,rfl,zd⟩
def SlA(w:World)(B:OA)(aa:List (List Ar)):Prop:=
 ∃b o:Nat,B=some ⟨b,o,none⟩/\b<w.heap.size/\∀i (h:i<aa.length),∃Ai ci,w.cell? ⟨b,o+i,none⟩=some (.slice Ai (aa[i]).length ci)/\Ars w Ai aa[i]
theorem SlA.below{w w':World}{B:OA}{aa:List (List Ar)}(h:SlA w B aa)(I:Below w.heap.size w w'):SlA w' B aa:=by
 obtain⟨b,o,rfl,Y,hc⟩:=h;refine⟨b,o,rfl,aB Y I.size,fun i hi=>?_⟩;obtain⟨Ai,ci,h1,h2⟩:=hc i hi;exact⟨Ai,ci,(I.cell Y).trans h1,h2.below I⟩
def SetsOf(w:World)(l:List Rg)(aa:List (List Ar))(vs:List Value):Prop:=
 ∀(i:Nat)(v:Value),vs[i]?=some v->∃a,aa[i]?=some a/\∃gi ci,v=.slice (some ⟨gi,0,none⟩) (inL l a).length ci/\w.heap[gi]?=some (.cells (bArr (inL l a) (inL l a).length) 4 (0,0))
theorem SetsOf.keep{w w':World}{l:List Rg}{aa:List (List Ar)}{vs:List Value}(h:SetsOf w l aa vs)(hk:∀(g:Nat)(cs:Array Value),w.heap[g]?=some (.cells cs 4 (0,0))->w'.heap[g]?=w.heap[g]?):SetsOf w' l aa vs:=fun i v hv=>by
 obtain⟨a,ha,gi,ci,h1,h2⟩:=h i v hv;exact⟨a,ha,gi,ci,h1,(hk _ _ h2).trans h2⟩
theorem SetsOf.below{w w':World}{l:List Rg}{aa:List (List Ar)}{vs:List Value}(h:SetsOf w l aa vs)(I:Below w.heap.size w w'):SetsOf w' l aa vs:=
 h.keep fun _ _ hg=>I.block _ (zAj hg)
theorem SetsOf.push{w:World}{l:List Rg}{aa:List (List Ar)}{vs:List Value}(h:SetsOf w l aa vs){a:List Ar}{gi ci:Nat}(ha:aa[vs.length]?=some a)(hg:w.heap[gi]?=some (.cells (bArr (inL l a) (inL l a).length) 4 (0,0))): SetsOf w l aa (vs++[.slice (some ⟨gi,0,none⟩) (inL l a).length ci]):=fun i v hv=>by
 rcases Nat.lt_trichotomy i vs.length with h1|h1|h1
 ·rw[List.getElem?_append_left h1]at hv
  exact h i v hv
 ·subst h1
  simp at hv
  exact⟨a,ha,gi,ci,hv.symm,hg⟩
 ·rw[List.getElem?_append_right za,List.getElem?_eq_none zg]at hv
  cases hv
theorem six_cells{w:World}{s:Nat}{a0 a1 a2 a3 a4 a5:Value}{T:TypeId}(h:w.heap[s]?=some (.cells #[a0,a1,a2,a3,a4,a5] T (0,0))): w.cell? ⟨s,0,none⟩=some a0/\w.cell? ⟨s,1,none⟩=some a1/\w.cell? ⟨s,2,none⟩=some a2/\w.cell? ⟨s,3,none⟩=some a3/\w.cell? ⟨s,4,none⟩=some a4/\w.cell? ⟨s,5,none⟩=some a5:=
 ⟨by rw[bK w _ 0 _ _ _ h];rfl,by rw[bK w _ 1 _ _ _ h];rfl,by rw[bK w _ 2 _ _ _ h];rfl,by rw[bK w _ 3 _ _ _ h];rfl,by rw[bK w _ 4 _ _ _ h];rfl,by rw[bK w _ 5 _ _ _ h];rfl⟩
theorem six_free{w:World}{s:Nat}{cs:Array Value}{T:TypeId}(h:w.heap[s]?=some (.cells cs T (0,0))): w.frozen? ⟨s,0,none⟩=false/\w.frozen? ⟨s,1,none⟩=false/\w.frozen? ⟨s,2,none⟩=false/\w.frozen? ⟨s,3,none⟩=false/\w.frozen? ⟨s,4,none⟩=false/\w.frozen? ⟨s,5,none⟩=false:=
 ⟨dO w _ 0 _ _ h,dO w _ 1 _ _ h,dO w _ 2 _ _ h,dO w _ 3 _ _ h,dO w _ 4 _ _ h,dO w _ 5 _ _ h⟩
theorem below6{B:Nat}{w w':World}{s:Nat}(h:Below B w w')(hs:B<=s)(b0 b1 b2 b3 b4 b5:Value):Below B w ((((((w'.setCell ⟨s,0,none⟩ b0).setCell ⟨s,1,none⟩ b1).setCell ⟨s,2,none⟩ b2).setCell ⟨s,3,none⟩ b3).setCell ⟨s,4,none⟩ b4).setCell ⟨s,5,none⟩ b5):=
 (((((h.setCell (p:=⟨s,0,none⟩) hs _).setCell (p:=⟨s,1,none⟩) hs _).setCell (p:=⟨s,2,none⟩) hs _).setCell (p:=⟨s,3,none⟩) hs _).setCell (p:=⟨s,4,none⟩) hs _).setCell (p:=⟨s,5,none⟩) hs _
theorem z6{j:Nat}{v:Value}(h:(#[zAo,.map none,zAo,.map none,zAo,zAo]:Array Value)[j]?=some v):v=zAo\/v=.map none:=by
 match j,h with
 |0,h=>simp at h;exact .inl h.symm
 |1,h=>simp at h;exact .inr h.symm
 |2,h=>simp at h;exact .inl h.symm
 |3,h=>simp at h;exact .inr h.symm
 |4,h=>simp at h;exact .inl h.symm
 |5,h=>simp at h;exact .inl h.symm
 |j+6,h=>rw[Array.getElem?_eq_none ze]at h;cases h
theorem rd1_set0{α:Type}{f:α->Value}{w w':World}{A:OA}{L:List α}{s:Nat}{T:TypeId}(h:Rd1 f w A L)(hs:w.heap[s]?=some (.cells #[zAo,.map none,zAo,.map none,zAo,zAo] T (0,0)))(hk:∀x,x≠s->w'.heap[x]?=w.heap[x]?)(hf:∀x,f x≠zAo/\f x≠.map none):Rd1 f w' A L:=fun hl=>by
 obtain⟨b,o,rfl,hc⟩:=h hl;refine⟨b,o,rfl,fun i hi=>?_⟩
 have hne:b≠s:=fun e=>by
  subst e;have:=hc i hi;exact tdj
 rw[World.cell?_of_block (hk _ hne)];exact hc i hi
theorem rd2_set0{α:Type}{f f2:α->Value}{w w':World}{A:OA}{L:List α}{s:Nat}{T:TypeId}(h:Rd2 f f2 w A L)(hs:w.heap[s]?=some (.cells #[zAo,.map none,zAo,.map none,zAo,zAo] T (0,0)))(hk:∀x,x≠s->w'.heap[x]?=w.heap[x]?)(hf:∀x,f x≠zAo/\f x≠.map none):Rd2 f f2 w' A L:=fun hl=>by
 obtain⟨b,o,rfl,hc⟩:=h hl;refine⟨b,o,rfl,fun i hi=>?_⟩
 have hne:b≠s:=fun e=>by
  subst e;have:=(hc i hi).1;exact tdj
 rw[World.cell?_of_block (hk _ hne),World.cell?_of_block (hk _ hne)];exact hc i hi
theorem WR.set0{w w':World}{A:OA}{r1 r2 g1 g2:Nat}{AL:OA}{l:List Rg}{s:Nat}(h:WR w A r1 r2 g1 g2 AL l)(hs:w.heap[s]?=some (.cells #[zAo,.map none,zAo,.map none,zAo,zAo] 103 (0,0)))(hk:∀x,x≠s->w'.heap[x]?=w.heap[x]?)(hsz:w.heap.size<=w'.heap.size):WR w' A r1 r2 g1 g2 AL l:=by
 obtain⟨cs,hcs⟩:=h.h3;have hg2:g2≠s:=zAF hcs hs zd;refine⟨rd2_set0 h.rg hs hk (fun x=>ze),h.m1.keep (hk _ (zAk h.m1 hs).symm),rd1_set0 h.lv hs hk (fun x=>ze),h.m2.keep (hk _ (zAk h.m2 hs).symm),fun i hi=>?_,fun i hi=>?_,aB h.h1 hsz,aB h.h2 hsz,cs,(hk _ hg2).trans hcs⟩
 ·have hne:g1≠s:=fun e=>by
   subst e;have:=h.up i hi;rw[bK w g1 _ _ _ _ hs]at this
   rcases z6 this with h1|h1<;>simp at h1
  rw[World.cell?_of_block (hk _ hne)];exact h.up i hi
 ·obtain⟨Ai,ci,h1,h2⟩:=h.bl i hi
  exact⟨Ai,ci,by rw[World.cell?_of_block (hk _ hg2)];exact h1,rd1_set0 h2 hs hk (fun x=>ze)⟩
theorem size6(w:World)(s:Nat)(b0 b1 b2 b3 b4 b5:Value):w.heap.size<=((((((w.setCell ⟨s,0,none⟩ b0).setCell ⟨s,1,none⟩ b1).setCell ⟨s,2,none⟩ b2).setCell ⟨s,3,none⟩ b3).setCell ⟨s,4,none⟩ b4).setCell ⟨s,5,none⟩ b5).heap.size:=ze
theorem own_rd{w w':World}{base n c:Nat}{T:TypeId}{O:OA}{vs:List Value}(h:zAv encV 1 w base T (.slice O n c) vs)(hk:∀g,base<=g->w'.heap[g]?=w.heap[g]?):Rd1 id w' O vs:=by
 obtain⟨O',c',e,hr⟩:=(own_keepB h fun g h1 _=>hk g h1).rd1
 injection e with e1
 subst e1;exact hr
def zw:Value:=.agg #[zAo,.map none,zAo,.map none,zAo,zAo]
def areasF(l:List Rg)(aa:List (List Ar)):Int:=if zDM l≠0 then zDM l else ((aa.map (zDl l)).find? fun f=>decide (f≠0)).getD 0
def GivesAs(A:OA)(c:Nat)(l:List Rg)(aa:List (List Ar))(w:World)(e:Ending)(w':World):Prop:=
 Below w.heap.size w w'/\((areasF l aa≠0/\e=.returned (.tuple #[zw,zAo,.int .i64 (areasF l aa)])) \/
  (zDM l=0/\(∀i (h:i<aa.length),zDl l aa[i]=0)/\∃r1 r2 g1 g2 AL cL O co vs,e=.returned (.tuple #[wv A c r1 r2 g1 g2 AL cL l,.slice O aa.length co,.int .i64 0])/\WR w' A r1 r2 g1 g2 AL l /\
   vs.length=aa.length/\Rd1 id w' O vs/\SetsOf w' l aa vs))
def ArRel(W:World)(l:List Rg)(aa:List (List Ar))(m:Nat)(out i:Value)(wr:World):Prop:=
 ∃(k:Nat)(vs:List Value),k+m=aa.length/\i=.int .i64 k/\vs.length=k/\(∀j (h:j<aa.length),j<k->zDl l aa[j]=0)/\zAv encV 1 wr W.heap.size 108 out vs/\SetsOf wr l aa vs/\Below W.heap.size W wr
theorem areasF_R{l:List Rg}{aa:List (List Ar)}(h:zDM l≠0):areasF l aa=zDM l:=by rw[areasF,aF h]
theorem areasF_A{l:List Rg}{aa:List (List Ar)}(h:zDM l=0){k:Nat}(hk:k<aa.length)(hpre:∀j (h:j<aa.length),j<k->zDl l aa[j]=0)(hf:zDl l aa[k]≠0):areasF l aa=zDl l aa[k]:=by
 rw[areasF,aO (by simp[h])]
 have:(aa.map (zDl l)).find? (fun f=>decide (f≠0))=some (zDl l aa[k]):=by
  rw[List.find?_eq_some_iff_getElem];refine⟨by simpa using hf,k,by simpa using hk,ze,fun j hj=>?_⟩;simp[hpre j za hj]
 rw[this];rfl
theorem areas_c(A B:OA)(c cb:Nat)(l:List Rg)(aa:List (List Ar))(w:World)(h:Rgs w A l)(hz:∀i (h:i<l.length),(l[i]).nm.size<=9223372036854775807)(h2:SlA w B aa)(hn2:aa.length<=2): Calls Tryz.prog 38 #[.slice A l.length c,.slice B aa.length cb] w (GivesAs A c l aa w):=by
 have hwb:Below w.heap.size w (w.alloc (.cells #[zAo,.map none,zAo,.map none,zAo,zAo] 103)):=(aR _ _).alloc (aK _) _;have hblk:=aJ w (.cells #[zAo,.map none,zAo,.map none,zAo,zAo] 103);generalize C:zDM l=res;have HR:=zq C
 go_enter Tryz.func38,Tryz.ntmps38;(go_wp2_with fail);refine(CheckRegions_c _ _ _ _ (h.below hwb) hz).mono ?_;rintro e w1⟨rfl,hb1⟩;have hw1:Below w.heap.size w w1:=zAa hwb hb1;have hblk1:w1.heap[w.heap.size]?=some (.cells #[zAo,.map none,zAo,.map none,zAo,zAo] 103 (0,0)):=(hb1.block _ ze).trans hblk;have h1:=h.below hw1;have h21:=h2.below hw1;have HW1:=zq hw1;rw[C];clear hwb hblk hb1 h h2 hw1
 by_cases hr:res=0
 ·subst hr
  have g:=zCi C;clear C;(go_wp2_with fail);refine(newWorld_c A c l w1 g h1).mono ?_;rintro e w2⟨r1,r2,g1,g2,AL,cL,rfl,hwr2,D⟩;unfold wv;have hblk2:w2.heap[w.heap.size]?=some (.cells #[zAo,.map none,zAo,.map none,zAo,zAo] 103 (0,0)):=(D.block _ (zAj hblk1)).trans hblk1;have hsl2:=h21.below D;have hwb2:Below w.heap.size w w2:=zAa HW1.o D;clear D HW1 h1 h21 hblk1;go_wp2;generalize hW:w2.alloc (.cells #[.slice A l.length c,.map (some r1),.slice AL (zBW l (fun i=>!M l i) l.length).length cL,.map (some r2),.slice (some ⟨g1,0,none⟩) l.length l.length,.slice (some ⟨g2,0,none⟩) l.length l.length] 103)=W;have hWr:=aJ w2 (.cells #[.slice A l.length c,.map (some r1),.slice AL (zBW l (fun i=>!M l i) l.length).length cL,.map (some r2),.slice (some ⟨g1,0,none⟩) l.length l.length,.slice (some ⟨g2,0,none⟩) l.length l.length] 103);have hWb:Below w2.heap.size w2 W:=yy;rw[hW]at hWr;have hw2W:w2.heap.size<W.heap.size:=zAj hWr;have hblkW:W.heap[w.heap.size]?=some (.cells #[zAo,.map none,zAo,.map none,zAo,zAo] 103 (0,0)):=(hWb.block _ (zAj hblk2)).trans hblk2;have hwW:w.heap.size<W.heap.size:=zAj hblkW;obtain⟨s8,hs8⟩:∃s8,s8=w2.heap.size:=⟨_,rfl⟩;rw[<-hs8]at hWr hw2W ⊢;have HWR:=zq (hwr2.below hWb);have HSL:=zq (hsl2.below hWb);have HWb:=zq (hwb2.trans (hWb.mono hwb2.size));have HWr:=zq hWr;have HBk:=zq hblkW;clear hW hWr hWb hblkW hblk2 hwr2 hsl2 hwb2 hs8;clear w1 w2
  go_loopg[9,23] aa.length (ArRel W l aa)
  case atStart=>exact⟨0,[],za,rfl,rfl,fun j _ hj=>absurd hj za,zAv.nil _ _ _ _ _,fun i v hv=>by simp at hv,aR _ _⟩
  case round =>
   obtain⟨k,vs,hk,rfl,hvs,hpre,hown,hsets,N⟩:=hrel;have HK:=zq hk;have HP:=zq hpre;have HB:=zq N;have HV:=zq hvs;have hk1:k<=aa.length:=za;have hs8r:s8<wr.heap.size:=aB hw2W N.size;have hwr:w.heap.size<wr.heap.size:=aB hwW N.size;have hrow:wr.heap[s8]?=_:=(N.block _ hw2W).trans HWr.o;have hs0:wr.cell? ⟨s8,0,none⟩=some (.slice A l.length c):=by rw[bK _ s8 0 _ _ _ hrow];rfl
   have hs1:wr.cell? ⟨s8,1,none⟩=some (.map (some r1)):=by rw[bK _ s8 1 _ _ _ hrow];rfl
   have hs2:wr.cell? ⟨s8,2,none⟩=some (.slice AL (zBW l (fun i=>!M l i) l.length).length cL):=by rw[bK _ s8 2 _ _ _ hrow];rfl
   have hs3:wr.cell? ⟨s8,3,none⟩=some (.map (some r2)):=by rw[bK _ s8 3 _ _ _ hrow];rfl
   have hs4:wr.cell? ⟨s8,4,none⟩=some (.slice (some ⟨g1,0,none⟩) l.length l.length):=by rw[bK _ s8 4 _ _ _ hrow];rfl
   have hs5:wr.cell? ⟨s8,5,none⟩=some (.slice (some ⟨g2,0,none⟩) l.length l.length):=by rw[bK _ s8 5 _ _ _ hrow];rfl
   have HRow:=zq hrow;clear hk hpre N hvs hrow
   by_cases Y:k<aa.length
   ·obtain⟨b,o,rfl,I,hc⟩:=HSL.o.below HB.o
    obtain⟨Ai,ci,hci,hai⟩:=hc k Y;have hwrr:=HWR.o.below HB.o;clear hc;generalize hak:zDl l aa[k]=fk;have HAK:=zq hak;(go_wp2_with fail);refine(checkArea_c A Ai c r1 r2 g1 g2 AL cL ci l aa[k] wr g hwrr hai).mono ?_;rintro e w3⟨rfl,hb3⟩;rw[hak]
    by_cases hf:fk=0
    ·subst hf
     have ga:=goodA_of hak;have hrow3:w3.heap[s8]?=_:=(hb3.block _ hs8r).trans HRow.o;obtain⟨hs0',hs1',hs2',hs3',hs4',hs5'⟩:=six_cells hrow3;have hs8':s8<w3.heap.size:=zAj hrow3;have hwr3:=hwrr.below hb3;have hai3:=hai.below hb3;have hown3:=hown.below hb3;have hsets3:=hsets.below hb3;have hbel3:Below W.heap.size W w3:=zAa HB.o hb3;clear hs0 hs1 hs2 hs3 hs4 hs5 hrow3 hb3 hwrr hai hown hsets hak hci I hwr;(go_wp2_with fail);refine(in_c A Ai c r1 r2 g1 g2 AL cL ci l aa[k] w3 g ga hwr3 hai3).mono ?_;rintro e w4⟨gi,cgi,rfl,hgi,hb4⟩;have E:=hown3.below hb4;have hsets4:=hsets3.below hb4;have hbel4:Below W.heap.size W w4:=zAa hbel3 hb4;have hWle:W.heap.size<=w4.heap.size:=hbel4.size;clear hown3 hsets3 hbel3 hb4 hs0' hs1' hs2' hs3' hs4' hs5' hwr3 hai3 hs8';have hvl:vs.length+1<=2:=by have:=HV.o;omega
     have HSP:=zq (SetsOf.push (ci:=cgi) hsets4 (a:=aa[k]) (gi:=gi) (by rw[HV.o];simp[Y]) hgi)
     go_wp2_with (at_builtin;refine zAT _ _ _ elSets rfl rfl W.heap.size _ vs rfl (E.alloc _) w4.heap.size 1 (.slice (some ⟨gi,0,none⟩) (inL l aa[k]).length cgi) rfl (aJ _ _) rfl zr zn za zg ?_;intro v5 w5 hown5 hg5 hb5)
     have hkeep:∀(g:Nat)(cs:Array Value),w4.heap[g]?=some (.cells cs 4 (0,0))->w5.heap[g]?=w4.heap[g]?:=fun g cs hg =>
      (hg5.block _ (zAj (zBn hg)) fun e2=>by
       obtain⟨_,cs',hcs⟩:=zBc E e2.symm;exact zAF hg hcs zd rfl).trans ((zBn hg).trans hg.symm)
     have HO5:=zq hown5;have HS5:=zq (HSP.o.keep hkeep);have HB5:=zq ((hbel4.alloc hWle _).trans hb5);clear E hsets4 hbel4 hown5 hg5 hb5 hkeep hgi HSP;go_wp2
     go_roundg (gk-1)
     case measure=>have:=HK.o;omega
     case rel =>
      refine⟨k+1,_,zh,zi,by simp[HV.o],fun j hj hjk=>?_,HO5.o,HS5.o,HB5.o⟩
      rcases aI j k with h1|h1
      ·exact HP.o j hj h1
      ·obtain rfl:j=k:=by omega
       exact HAK.o
    ·have hfb:(fk != 0)=true:=by simpa using hf
     have hblk3:w3.heap[w.heap.size]?=_:=(hb3.block _ hwr).trans ((HB.o.block _ hwW).trans HBk.o);obtain⟨hd0,hd1,hd2,hd3,hd4,hd5⟩:=six_cells hblk3;obtain⟨hf0,hf1,hf2,hf3,hf4,hf5⟩:=six_free hblk3;have ha:areasF l aa=fk:=by rw[areasF_A HR.o Y HP.o (by rw[hak];exact hf)];exact hak
     have HA:=zq ha;have HB3:=zq (HWb.o.trans ((zAa HB.o hb3).mono (dD hwW)));clear hblk3 hs0 hs1 hs2 hs3 hs4 hs5 hb3 hwrr hai hown hsets hak hci I hwr ha;go_wp2;refine aC (v:=.tuple #[zw,zAo,.int .i64 fk]) ?_ rfl ?_
     ·simp[results,Tryz.results38,go_sem,zw,hd0,hd1,hd2,hd3,hd4,hd5]
     ·exact⟨below6 HB3.o (aK _) _ _ _ _ _ _,.inl ⟨by rw[HA.o];exact hf,by rw[HA.o]⟩⟩
   ·have hke:k=aa.length:=by omega
    have HKE:=zq hke;have hblk3:wr.heap[w.heap.size]?=_:=(HB.o.block _ hwW).trans HBk.o;obtain⟨hd0,hd1,hd2,hd3,hd4,hd5⟩:=six_cells hblk3;obtain⟨hf0,hf1,hf2,hf3,hf4,hf5⟩:=six_free hblk3;have HO:=zq hown;have HS:=zq hsets;have HB3:=zq (HWb.o.trans (HB.o.mono (dD hwW)));obtain⟨O,co,rfl,hrd⟩:=hown.rd1;have HD:=zq hrd;have HBL:=zq hblk3;clear hblk3 hown hsets hke hrd;go_wp2;refine aC (v:=.tuple #[wv A c r1 r2 g1 g2 AL cL l,.slice O aa.length co,.int .i64 0]) ?_ rfl ?_
    ·have e:vs.length=aa.length:=by rw[HV.o,HKE.o]
     simp[results,Tryz.results38,go_sem,wv,hd0,hd1,hd2,hd3,hd4,hd5,e]
    ·refine⟨below6 HB3.o (aK _) _ _ _ _ _ _,.inr ⟨HR.o,fun i hi=>HP.o i hi (by rw[HKE.o];exact hi),r1,r2,g1,g2,AL,cL,O,co,vs,rfl,?_,by rw[HV.o,HKE.o],?_,?_⟩⟩
     ·exact(HWR.o.below HB.o).set0 HBL.o (setCells6 _ _ _ _ _ _) (size6 _ _ _ _ _ _ _ _)
     ·exact own_rd HO.o fun g hg=>setCells6 _ _ _ _ _ _ _ (Nat.ne_of_gt (aB hwW hg))
     ·exact HS.o.keep fun g cs hg=>setCells6 _ _ _ _ _ _ _ (fun e=>by rw[e,HBL.o]at hg;injection hg with hg;injection hg with _ hg;exact absurd hg zd)
 ·have hrb:(res != 0)=true:=by simpa using hr
  have hd0:w1.cell? ⟨w.heap.size,0,none⟩=some zAo:=by rw[bK w1 _ 0 _ _ _ hblk1];rfl
  have hd1:w1.cell? ⟨w.heap.size,1,none⟩=some (.map none):=by rw[bK w1 _ 1 _ _ _ hblk1];rfl
  have hd2:w1.cell? ⟨w.heap.size,2,none⟩=some zAo:=by rw[bK w1 _ 2 _ _ _ hblk1];rfl
  have hd3:w1.cell? ⟨w.heap.size,3,none⟩=some (.map none):=by rw[bK w1 _ 3 _ _ _ hblk1];rfl
  have hd4:w1.cell? ⟨w.heap.size,4,none⟩=some zAo:=by rw[bK w1 _ 4 _ _ _ hblk1];rfl
  have hd5:w1.cell? ⟨w.heap.size,5,none⟩=some zAo:=by rw[bK w1 _ 5 _ _ _ hblk1];rfl
  have hf0:=dO w1 _ 0 _ _ hblk1;have hf1:=dO w1 _ 1 _ _ hblk1;have hf2:=dO w1 _ 2 _ _ hblk1;have hf3:=dO w1 _ 3 _ _ hblk1;have hf4:=dO w1 _ 4 _ _ hblk1;have hf5:=dO w1 _ 5 _ _ hblk1;clear hblk1 C;go_wp2;refine aC (v:=.tuple #[zw,zAo,.int .i64 res]) ?_ rfl ?_
  ·simp[results,Tryz.results38,go_sem,zw,hd0,hd1,hd2,hd3,hd4,hd5]
  ·have ha:areasF l aa=res:=by rw[areasF_R (by rw[HR.o];exact hr)];exact HR.o
   refine⟨(((((HW1.o.setCell (p:=⟨w.heap.size,0,none⟩) (aK _) _).setCell (p:=⟨w.heap.size,1,none⟩) (aK _) _).setCell (p:=⟨w.heap.size,2,none⟩) (aK _) _).setCell (p:=⟨w.heap.size,3,none⟩) (aK _) _).setCell (p:=⟨w.heap.size,4,none⟩) (aK _) _).setCell (p:=⟨w.heap.size,5,none⟩) (aK _) _,.inl ⟨by rw[ha];exact hr,by rw[ha]⟩⟩
def GivesS2(r:List BA×Int)(w:World)(e:Ending)(w':World):Prop:=
 ∃A c,e=.returned (.tuple #[.slice A r.1.length c,.int .i64 r.2])/\Strs w' A r.1/\Below w.heap.size w w'
theorem GivesS2.err{r:List BA×Int}{w w':World}{f:Int}(hr:r=([],f))(hw:Below w.heap.size w w'):GivesS2 r w (.returned (.tuple #[.slice none 0 0,.int .i64 f])) w':=by
 subst hr;exact⟨none,0,rfl,Rd1.nil,hw⟩
theorem GivesS2.ok{r:List BA×Int}{l:List BA}{w w':World}{f:Int}{A:OA}{c:Nat}(hr:r=(l,f))(hl:Strs w' A l)(hw:Below w.heap.size w w'):GivesS2 r w (.returned (.tuple #[.slice A l.length c,.int .i64 f])) w':=by
 subst hr;exact⟨A,c,rfl,hl,hw⟩
theorem areasF_1(l:List Rg)(a:List Ar):areasF l [a]=if zDM l≠0 then zDM l else zDl l a:=by
 unfold areasF
 by_cases h:zDM l=0
 ·by_cases h2:zDl l a=0
  ·simp[h,h2]
  ·simp[h,h2]
 ·simp[h]
def lvTo(l:List Rg)(a:List Ar)(k:Nat):List BA:=(((zAh l).take k).filter (zCE l a)).map (nmAt l)
theorem lvTo_succ{l:List Rg}{a:List Ar}{k:Nat}(h:k<(zAh l).length):lvTo l a (k+1)=lvTo l a k++if zCE l a (zAh l)[k] then [nmAt l (zAh l)[k]] else []:=by
 unfold lvTo;rw[aG h,eG,aA]
 congr 1
 cases hl:zCE l a (zAh l)[k]<;>simp[hl]
theorem lvTo_le(l:List Rg)(a:List Ar)(k:Nat):(lvTo l a k).length<=k:=by
 unfold lvTo;rw[bZ];refine dX (eH _ _) ?_;rw[bF];omega
def LvRel(W:World)(l:List Rg)(a:List Ar)(m:Nat)(out i:Value)(wr:World):Prop:=
 ∃k:Nat,k+m=(zAh l).length/\i=.int .i64 k/\zAv encS 1 wr W.heap.size 9 out (lvTo l a k)/\Below W.heap.size W wr
theorem Leaves_c(A Z:OA)(c c2:Nat)(l:List Rg)(a:List Ar)(w:World)(h:Rgs w A l)(h2:Ars w Z a)(hz:∀i (h:i<l.length),(l[i]).nm.size<=9223372036854775807): Calls Tryz.prog 11 #[.slice A l.length c,.slice Z a.length c2] w (GivesS2 (leavesS l a) w):=by
 have hwb:Below w.heap.size w (w.alloc (.cells #[.slice Z a.length c2] 41)):=(aR _ _).alloc (aK _) _
 have hsl:SlA (w.alloc (.cells #[.slice Z a.length c2] 41)) (some ⟨w.heap.size,0,none⟩) [a]:=
  ⟨w.heap.size,0,rfl,ze,fun i hi=>by
   have:i=0:=by simp at hi;omega
   subst this;exact⟨Z,c2,by rw[bK _ w.heap.size _ _ _ _ (aJ _ _)];rfl,h2.below hwb⟩⟩
 generalize C:leavesS l a=res;have HR:=zq C;clear C
 go_enter Tryz.func11,Tryz.ntmps11;(go_wp2_with fail);refine(areas_c A (some ⟨w.heap.size,0,none⟩) c 1 l [a] _ (h.below hwb) hz hsl ze).mono ?_;rintro e w1⟨hb1,⟨hf,rfl⟩|⟨hr,hc,r1,r2,g1,g2,AL,cL,O,co,vs,rfl,hwr,hvl,hrd,hsets⟩⟩
 ·have hw1:Below w.heap.size w w1:=zAa hwb hb1
  have hrs:res=([],areasF l [a]):=by
   rw[<-HR.o,leavesS];rw[areasF_1]at hf ⊢
   by_cases hq:zDM l=0
   ·rw[aO (by simp[hq])]at hf
    simp[hq,hf]
   ·simp[hq]
  have HS:=zq hrs;generalize areasF l [a]=f at *;have hfb:(f != 0)=true:=by simpa using hf
  have HB:=zq (hw1.alloc hw1.size (.cells #[zAo,.map none,zAo,.map none,zAo,zAo] 103));clear hrs hf hb1 hw1 hwb hsl h h2;unfold zw;go_wp2;go_ret2
  exact GivesS2.err HS.o HB.o
 ·have hw1:Below w.heap.size w w1:=zAa hwb hb1
  have g:=zCi hr;have J:=g.len;have ha0:zDl l a=0:=hc 0 ze
  have hrs:res=(zBv l a,0):=by
   rw[<-HR.o,leavesS];simp[hr,ha0]
  have HS:=zq hrs;clear hrs hb1 hwb hsl h h2 hc ha0 hr
  obtain⟨v0,hv0⟩:∃v0,vs=[v0]:=by
   match vs,hvl with
   |[v0],_=>exact⟨v0,rfl⟩
  subst hv0;obtain⟨a',ha',gi,ci,rfl,hgi⟩:=hsets 0 v0 rfl;have:a'=a:=by simpa using ha'.symm
  subst this;obtain⟨bo,oo,rfl,hbo,hco⟩:=hrd.at_ ze;have hco0:w1.cell? ⟨bo,oo,none⟩=some (.slice (some ⟨gi,0,none⟩) (inL l a').length ci):=hco 0 ze;clear hco hsets hvl ha' hrd;unfold wv;go_wp2;have hgl:(zBW l (fun i=>!M l i) l.length).length=(zAh l).length:=by rw[gath_len l a',inL,bZ]
  have hil:(zAh l).length<=200:=dX (leafTo_le l l.length) J;rw[hgl];have HGL:=zq hgl;clear hgl;generalize hW:w1.alloc (.cells #[.slice A l.length c,.map (some r1),.slice AL (zAh l).length cL,.map (some r2),.slice (some ⟨g1,0,none⟩) l.length l.length,.slice (some ⟨g2,0,none⟩) l.length l.length] 103)=W;have hWb:Below w1.heap.size w1 W:=yy;have HLV:=zq (hwr.lv.below hWb);have hgW:gi<W.heap.size:=aB (zAj hgi) hWb.size;have HGI:=zq ((hWb.block _ (zAj hgi)).trans hgi);have hboW:bo<W.heap.size:=aB hbo hWb.size;have hcoW:=(hWb.cell hbo).trans hco0;have HWb:=zq (zAa hw1 hWb);clear hW hWb hwr hgi hbo hco0 hw1;obtain⟨s6,hs6⟩:∃s6,s6=w1.heap.size:=⟨_,rfl⟩;rw[<-hs6];clear hs6;clear w1;have hinl:(inL l a').length=(zAh l).length:=by rw[inL,bZ]
  rw[hinl]at hcoW;have HIN:=zq hinl;clear hinl
  go_loopg[9,26] (zAh l).length (LvRel W l a')
  case atStart=>exact⟨0,za,rfl,zAv.nil _ _ _ _ _,aR _ _⟩
  case round =>
   obtain⟨k,hk,rfl,hown,N⟩:=hrel;have HK:=zq hk;have hk1:k<=(zAh l).length:=za;clear hk
   by_cases Y:k<(zAh l).length
   ·have hltG:k<(zBW l (fun i=>!M l i) l.length).length:=by rw[HGL.o];exact Y
    obtain⟨b,o,rfl,I,hc⟩:=HLV.o.at_ za;have hyl:=leafIdx_lt Y
    have hc0:wr.cell? ⟨b,o+k,none⟩=some (.string (nmAt l (zAh l)[k])):=by
     rw[N.cell I,hc k hltG,gath_get l hltG Y]
    have hbr:b<wr.heap.size:=aB I N.size;have hcor:=(N.cell hboW).trans hcoW;have hbor:bo<wr.heap.size:=aB hboW N.size;have hgr:gi<wr.heap.size:=aB hgW N.size
    have hcs:wr.cell? ⟨gi,k,none⟩=some (.bool (zCE l a' (zAh l)[k])):=by
     rw[N.cell hgW,bK _ gi k _ _ _ HGI.o,zDA _ _ (by rw[HIN.o];exact Y)];simp[inL,Y]
    have hle:=lvTo_le l a' k;have hwr:W.heap.size<=wr.heap.size:=N.size;have HSU:=zq (lvTo_succ (a:=a') Y);clear hc;generalize hx:nmAt l (zAh l)[k]=nm at *
    cases hq:zCE l a' (zAh l)[k]with
    |false =>
     rw[hq]at hcs;have HQ:=zq hq;have HO:=zq hown;have HB:=zq N;clear hq hown N hx;exact tcf
    |true =>
     rw[hq]at hcs;have HQ:=zq hq;clear hq hx
     go_wp2_with (at_builtin;refine zAT _ _ _ elStr rfl rfl W.heap.size _ (lvTo l a' k) rfl (hown.alloc _) wr.heap.size 1 nm rfl (aJ _ _) rfl zr zn za zg ?_;intro v1 w2 hown2 hg2 D)
     have HO:=zq hown2;have HB:=zq ((N.alloc hwr _).trans D);clear hown N hown2 hg2 D;exact tcf
   ·have hke:k=(zAh l).length:=by omega
    have e:lvTo l a' k=zBv l a':=by rw[hke,lvTo,aN];rfl
    rw[e]at hown;obtain⟨A',c',rfl,hrd⟩:=hown.rd1;have HB:=zq (zAa HWb.o N);have HD:=zq hrd;clear e hown hrd N hke;go_wp2;go_ret2
    exact GivesS2.ok HS.o HD.o HB.o
def sa:BA:=⟨#[97]⟩
theorem leaves_awake:leavesS [⟨sa,emp⟩] [⟨sa,false⟩]=([sa],0):=qb
theorem awake_c(w:World):Calls Tryz.prog 10 #[] w (zAf (.bool true) w):=by
 have hb1:Below w.heap.size w (w.alloc (.cells #[.string ⟨#[97]⟩,.string ⟨#[]⟩] 97)):=(aR _ _).alloc (aK _) _;have D:Below w.heap.size w ((w.alloc (.cells #[.string ⟨#[97]⟩,.string ⟨#[]⟩] 97)).alloc (.cells #[.string ⟨#[97]⟩,.bool false] 99)):=hb1.alloc hb1.size _
 have hr:Rgs ((w.alloc (.cells #[.string ⟨#[97]⟩,.string ⟨#[]⟩] 97)).alloc (.cells #[.string ⟨#[97]⟩,.bool false] 99)) (some ⟨w.heap.size,0,none⟩) [⟨sa,emp⟩]:=fun _ =>
  ⟨w.heap.size,0,rfl,fun i hi=>by
   have:i=0:=by simp at hi;omega
   subst this
   constructor
   ·rw[bK _ w.heap.size _ _ _ _ (zBn (aJ _ _))];rfl
   ·rw[bK _ w.heap.size _ _ _ _ (zBn (aJ _ _))];rfl⟩
 have ha:Ars ((w.alloc (.cells #[.string ⟨#[97]⟩,.string ⟨#[]⟩] 97)).alloc (.cells #[.string ⟨#[97]⟩,.bool false] 99)) (some ⟨w.heap.size+1,0,none⟩) [⟨sa,false⟩]:=fun _ =>
  ⟨w.heap.size+1,0,rfl,fun i hi=>by
   have:i=0:=by simp at hi;omega
   subst this;have J:=aJ (w.alloc (.cells #[.string ⟨#[97]⟩,.string ⟨#[]⟩] 97)) (.cells #[.string ⟨#[97]⟩,.bool false] 99);rw[show(w.alloc (.cells #[.string ⟨#[97]⟩,.string ⟨#[]⟩] 97)).heap.size=w.heap.size+1 by simp]at J
   constructor
   ·rw[bK _ (w.heap.size+1) _ _ _ _ J];rfl
   ·rw[bK _ (w.heap.size+1) _ _ _ _ J];rfl⟩
 have hl:=Leaves_c (some ⟨w.heap.size,0,none⟩) (some ⟨w.heap.size+1,0,none⟩) 1 1 [⟨sa,emp⟩] [⟨sa,false⟩] _ hr ha (fun i hi=>by
  have:i=0:=by simp at hi;omega
  subst this;show(sa.size:Nat)<=9223372036854775807
  decide)
 rw[leaves_awake]at hl
 go_enter Tryz.func10,Tryz.ntmps10;(go_wp2_with fail);refine hl.mono ?_;rintro e w1⟨A1,c1,rfl,hx,I⟩;have HB:=zq (D.trans (I.mono D.size));obtain⟨b,o,rfl,hbl,hc⟩:=hx.at_ ze;have hc0:w1.cell? ⟨b,o,none⟩=some (.string ⟨#[97]⟩):=hc 0 ze;clear hl hr ha hb1 D I hx hc;go_wp2;go_ret
 exact zAf.mk rfl HB.o
theorem eqPr(a b:BA)(w:World):(Op.equalIn 10000 64 (.agg #[.string a,.string b]) (.agg #[.string a,.string b])).run Tryz.prog w=.ok true w:=by
 have u3:=Tryz.underlying9;have a3:=Tryz.isAgg9;have z3:=Tryz.sizeOf9;have h1:=zAn (rfl:a=a);have h2:=zAn (rfl:b=b);rw[show(10000:Nat)=9999+1 from rfl,Op.equalIn];simp only[Sem.run_bind,eO Tryz.underlying64,Result.andThen_ok];simp only[Std.Legacy.Range.forIn_eq_forIn_range',Std.Legacy.Range.size,Nat.sub_zero,Nat.add_sub_cancel,Nat.div_one,List.range'_succ,List.range'_zero,List.forIn_cons,List.forIn_nil];go_simp
def EqP(w:World)(n m:Nat)(i:Value)(wr:World):Prop:=∃q,wr=w.drewN q/\∃k:Nat,k+m=n/\i=.int .i64 k
theorem equalP_c(A Z:OA)(c c2:Nat)(L:List (BA×BA))(w:World)(J:L.length<=1000000)(h:RdK encP w A L)(h2:RdK encP w Z L): Calls Tryz.prog 21 #[.slice A L.length c,.slice Z L.length c2] w (zAf (.bool true) w):=by
 go_enter Tryz.func21,Tryz.ntmps21;go_wp2
 go_loopg[13] L.length (EqP w L.length)
 case atStart=>exact⟨0,rfl,0,za,rfl⟩
 case round =>
  obtain⟨q,hw,k,hk,rfl⟩:=hrel;subst hw;have HK:=zq hk;clear hk
  by_cases Y:k<L.length
  ·obtain⟨b,o,hA,hc⟩:=h za
   obtain⟨b2,o2,hA2,hd⟩:=h2 za;subst hA hA2;have e0:(L.flatMap encP)[k*2]?=some (.string (L[k]).1):=by rw[<-dT (k*2),flat_at (k:=2) (fun _=>rfl) L k Y 0 za];rfl
   have e1:(L.flatMap encP)[k*2+1]?=some (.string (L[k]).2):=by rw[flat_at (k:=2) (fun _=>rfl) L k Y 1 za];rfl
   have hc0:=hc (k*2) _ e0;have hc1:=hc (k*2+1) _ e1;have hd0:=hd (k*2) _ e0;have hd1:=hd (k*2+1) _ e1;rw[<-Nat.add_assoc]at hc1 hd1;have heq:=fun W=>eqPr (L[k]).1 (L[k]).2 W
   generalize (L[k]).1=s0 at *;generalize (L[k]).2=s1 at *;clear hc hd e0 e1;go_wp2;go_quiet(fail);go_wp2
   go_roundg (gk-1)
   case measure=>have:=HK.o;omega
   case rel=>exact⟨_,rfl,k+1,zh,zi⟩
  ·go_wp2
   go_ret
   exact zAf.mk rfl (zAb (aR _ _) _)
theorem brA_len{V:List Rg}{us:List BA}{U:List De}:(brA V us U).length<=200:=by
 unfold brA
 split
 ·next hc=>exact dX brL_len (zBd hc).2.2
 ·simp
theorem coA_len{V:List Rg}{us:List BA}{U:List De}:(coA V us U).length<=40000:=by
 unfold coA
 split
 ·next hc =>
  have h:=(zBd hc).2.2;exact dX (conL_len _) (dU h h)
 ·simp
theorem lawB_c(RA:OA)(rc:Nat)(V:List Rg)(UA:OA)(O:Nat)(us:List BA)(DA:OA)(dc:Nat)(U:List De)(w:World)(hr:Rgs w RA V)(hu:Strs w UA us)(hd:Des w DA U)(hz:∀i (h:i<V.length),(V[i]).nm.size<=9223372036854775807)(hz2:∀i (h:i<us.length),(us[i]).size<=9223372036854775807)(hdc:U.length<=dc)(hP:POK w): Calls Tryz.prog 5 #[.agg (tiC RA rc V UA O us DA dc U)] w (zAf (.bool true) w):=by
 have HX:Hid (Bx (w.alloc (.cells (tiC RA rc V UA O us DA dc U) 26)) w.heap.size (tiC RA rc V UA O us DA dc U) 26):=Bx.new _ _ _;have HB:Hid (Below w.heap.size w (w.alloc (.cells (tiC RA rc V UA O us DA dc U) 26))):=(aR _ _).alloc (aK _) _;obtain⟨W,hW⟩:∃W,W=w.alloc (.cells (tiC RA rc V UA O us DA dc U) 26):=⟨_,rfl⟩;rw[<-hW]at HX HB;have HC1:=zq (fun(u:World)(I:Below w.heap.size w u)=>Breaches_c RA rc V UA O us DA dc U u (hr.below I) (hu.below I) (hd.below I) hz hz2 hdc);have HC2:=zq (fun(u:World)(I:Below w.heap.size w u)=>BreachesR_c RA rc V UA O us DA dc U u (hr.below I) (hu.below I) (hd.below I) hz hz2 hdc (hP.below I));have HC3:=zq (fun(u:World)(I:Below w.heap.size w u)=>Conflicts_c RA rc V UA O us DA dc U u (hr.below I) (hu.below I) (hd.below I) hz hz2 hdc);have HC4:=zq (fun(u:World)(I:Below w.heap.size w u)=>ConflictsR_c RA rc V UA O us DA dc U u (hr.below I) (hu.below I) (hd.below I) hz hz2);have hbl:=@brA_len V us U;have hcl:=@coA_len V us U;generalize brA V us U=BL at *;generalize coA V us U=CL at *;generalize zBY V us U=f at *;clear hr hu hd hP hz hz2;have hf:(f == f)=true:=ze
 go_enter Tryz.func5,Tryz.ntmps5;(go_upto_region 1 with fail);rw[<-hW];clear hW;(iterate 2 go_step);refine fG _ _ zk w.heap.size 0 zk (tiC RA rc V UA O us DA dc U).toList _ (zBt HX.o) Tryz.underlying26 rfl zc ?_;(go_wp2_with fail);(with_reducible refine(HC1.o _ HB.o).mono ?_);rintro e w1⟨A1,c1,rfl,hs1,hb1⟩;have HB1:=zq (zAa HB.o hb1);have X:=zq (HX.o.below hb1);have HS1:=zq hs1;clear hb1 hs1 HB HX HC1;(go_upto_region 2 with fail);(iterate 2 go_step);refine fG _ _ zk w.heap.size 0 zk (tiC RA rc V UA O us DA dc U).toList _ (zBt X.o) Tryz.underlying26 rfl zc ?_;(go_wp2_with fail);(with_reducible refine(HC2.o _ HB1.o).mono ?_);rintro e w2⟨Z,c2,rfl,hs2,D⟩;have HB2:=zq (zAa HB1.o D);have HX2:=zq (X.o.below D);have HS1:=zq (HS1.o.below D);have HS2:=zq hs2;clear D hs2 HB1 X HC2;(go_upto_region 3 with fail);(iterate 2 go_step);refine fG _ _ zk w.heap.size 0 zk (tiC RA rc V UA O us DA dc U).toList _ (zBt HX2.o) Tryz.underlying26 rfl zc ?_;(go_wp2_with fail);(with_reducible refine(HC3.o _ HB2.o).mono ?_);rintro e w3⟨A3,c3,rfl,hs3,hb3⟩;have HB3:=zq (zAa HB2.o hb3);have HX3:=zq (HX2.o.below hb3);have HS1:=zq (HS1.o.below hb3);have HS2:=zq (HS2.o.below hb3);have HS3:=zq hs3;clear hb3 hs3 HB2 HX2 HC3;(go_upto_region 4 with fail);(iterate 2 go_step);refine fG _ _ zk w.heap.size 0 zk (tiC RA rc V UA O us DA dc U).toList _ (zBt HX3.o) Tryz.underlying26 rfl zc ?_;(go_wp2_with fail);(with_reducible refine(HC4.o _ HB3.o).mono ?_);rintro e w4⟨A4,c4,rfl,hs4,hb4⟩;have HB4:=zq (zAa HB3.o hb4);have HE1:=zq (equalS_c A1 Z c1 c2 BL BL w4 za za (HS1.o.below hb4) (HS2.o.below hb4));have HS3:=zq (rdk_below HS3.o hb4);have HS4:=zq hs4;clear hb4 hs4 HB3 HX3 HC4;(go_upto_region 5 with fail);(go_wp2_with fail);(with_reducible refine HE1.o.mono ?_);rintro e w5⟨r,rfl,hr,n,rfl⟩;obtain rfl:r=true:=hr.2 (by first|rfl|trivial);have hb5:Below w4.heap.size w4 (w4.drewN n):=zAb (aR _ _) _;have HB5:=zq (zAa HB4.o hb5);have HE2:=zq (equalP_c A3 A4 c3 c4 CL (w4.drewN n) za (rdk_below HS3.o hb5) (rdk_below HS4.o hb5));clear hr hb5 HE1;generalize w4.drewN n=w5 at *;(go_wp2_with fail);(with_reducible refine HE2.o.mono ?_);rintro e w6⟨rfl,hb6⟩;have HB6:=zq (zAa HB5.o hb6);clear hb6 HE2;(go_wp2_with fail);(with_reducible refine(awake_c _).mono ?_);rintro e w7⟨rfl,hb7⟩;have HB7:=zq (zAa HB6.o hb7);clear hb7;go_wp2;go_ret
 exact zAf.mk rfl HB7.o
end Go.Proofs.YtbbchlpccgkikaaGreatDoor
