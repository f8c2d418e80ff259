/- Package right: deed (its walk printed by gen_deed.py). -/
import Derived.Test.YtbbchlpccgkikaaGreatDoorSh07
set_option maxRecDepth 100000
set_option maxHeartbeats 8000000
namespace Go.Proofs.YtbbchlpccgkikaaGreatDoor
open Go.RowKit Dw
def valF(l:List Rg)(us:List BA)(pre:List De)(d:De):Int:=
 if zAl d.kd=true then giftF2 l us d else if d.kd=4 then endV d (kN pre d.ot) (endB pre d.ot) else divV d
def twB(pre:List De)(d:De):Bool:=decide (d.kd=1)&&bornB pre d.th || decide (d.kd=5)&&goneB pre d.fr
def prog6(l:List Rg)(us:List BA)(pre:List De)(d:De):Int:=if valF l us pre d≠0 then valF l us pre d else if twB pre d=true then 7 else 0
def prog5(l:List Rg)(us:List BA)(pre:List De)(d:De):Int:=if zAw d=true then 3 else prog6 l us pre d
def prog4(l:List Rg)(us:List BA)(pre:List De)(d:De):Int:=if d.kd<1\/5<d.kd then 4 else prog5 l us pre d
def prog3(l:List Rg)(us:List BA)(pre:List De)(d:De):Int:=if pre.any (zBA d.id)=true then 7 else prog4 l us pre d
def prog2(l:List Rg)(us:List BA)(pre:List De)(d:De):Int:=if ordB pre d=false then 8 else prog3 l us pre d
def prog1(l:List Rg)(us:List BA)(pre:List De)(d:De):Int:=if zCF d.day=false then 1 else prog2 l us pre d
def progF(l:List Rg)(us:List BA)(pre:List De)(d:De):Int:=if zBi d.id=false then 5 else prog1 l us pre d
theorem kindB_false{k:Int}(h:kindB k=false):k<1\/5<k:=by
 unfold kindB at h;simp at h
 omega
theorem kindB_true{k:Int}(h:kindB k=true):1<=k/\k<=5:=by
 unfold kindB at h
 simpa using h
theorem ordB_cmp{pre:List De}{p d:De}(hp:pre≠[])(h:pre=[]\/pre.getLast?=some p):ordB pre d=decide (deCmp p d<0):=by
 rcases h with h|h
 ·exact absurd h hp
 ·unfold ordB;rw[h,deCmp_lt]
structure DS (w0 w:World) (ci bi:Nat) (A:Option Addr) (c r1 r2 g1 g2:Nat) (AL:Option Addr) (cL:Nat) (l:List Rg) (uA:Option Addr) (uc:Nat) (us:List BA) (m2 m3 m4 m5 lo hi:Nat) (p:De) (pre:List De) (d:De):Prop where
 cs:CS w0 w ci A c r1 r2 g1 g2 AL cL l uA uc us m2 m3 m4 m5 lo hi p pre
 dx:Bx w bi (deC d) 126
 dok:DeOk w d
section
variable {w0 w w':World} {ci bi:Nat} {A:Option Addr} {c r1 r2 g1 g2:Nat} {AL:Option Addr} {cL:Nat} {l:List Rg} {uA:Option Addr} {uc:Nat} {us:List BA} {m2 m3 m4 m5 lo hi:Nat} {p:De} {pre:List De} {d:De}
theorem DS.below(h:DS w0 w ci bi A c r1 r2 g1 g2 AL cL l uA uc us m2 m3 m4 m5 lo hi p pre d)(hb:Below w.heap.size w w'):DS w0 w' ci bi A c r1 r2 g1 g2 AL cL l uA uc us m2 m3 m4 m5 lo hi p pre d:=
 ⟨h.cs.below hb,h.dx.below hb,h.dok.below hb⟩
theorem DS.drewN(h:DS w0 w ci bi A c r1 r2 g1 g2 AL cL l uA uc us m2 m3 m4 m5 lo hi p pre d)(n:Nat):DS w0 (w.drewN n) ci bi A c r1 r2 g1 g2 AL cL l uA uc us m2 m3 m4 m5 lo hi p pre d:=h.below (zAd (aJ _ _) n)
theorem DS.drew(h:DS w0 w ci bi A c r1 r2 g1 g2 AL cL l uA uc us m2 m3 m4 m5 lo hi p pre d):DS w0 w.drew ci bi A c r1 r2 g1 g2 AL cL l uA uc us m2 m3 m4 m5 lo hi p pre d:=h.drewN 1
theorem values_all(hk:1<=d.kd/\d.kd<=5)(g:GoodR l)(hul:us.length<=1000000)(h:DS w0 w ci bi A c r1 r2 g1 g2 AL cL l uA uc us m2 m3 m4 m5 lo hi p pre d): Calls Tryz.prog 153 #[.pointer (some ⟨ci,0,none⟩),deV d,.agg (fldC d.kd)] w (zAg (.int .i64 (valF l us pre d)) w):=by
 have h5:d.kd=1\/d.kd=2\/d.kd=3\/d.kd=4\/d.kd=5:=za;unfold valF
 rcases h5 with hd|hd|hd|hd|hd
 ·rw[aW (by rw[hd];decide),aW za,show fldC d.kd=_ from by rw[hd]]
  exact values_1 ci A c r1 r2 g1 g2 AL cL l uA uc us m2 m3 m4 m5 p d _ _ w hd h.cs.ck h.cs.wr h.cs.str h.dok h.cs.k2.is h.cs.k3
 ·rw[aD (by rw[hd];decide),show fldC d.kd=_ from by rw[hd]]
  exact values_2 ci A c r1 r2 g1 g2 AL cL l uA uc us m2 m3 m4 m5 p d _ _ w hd g hul h.cs.ck h.cs.wr h.cs.str h.dok h.cs.k2.is h.cs.k3
 ·rw[aD (by rw[hd];decide),show fldC d.kd=_ from by rw[hd]]
  exact values_3 ci A c r1 r2 g1 g2 AL cL l uA uc us m2 m3 m4 m5 p d _ _ w hd g hul h.cs.ck h.cs.wr h.cs.str h.dok h.cs.k2.is h.cs.k3
 ·rw[aW (by rw[hd];decide),aD hd,show fldC d.kd=_ from by rw[hd]]
  exact values_4 ci A c r1 r2 g1 g2 AL cL l uA uc us m2 m3 m4 m5 p d _ _ (kN pre d.ot) (endB pre d.ot) w (kF_get pre d.ot) (fl_get _) h.cs.ck h.cs.wr h.cs.str h.dok h.cs.k2.is h.cs.k3
 ·rw[aW (by rw[hd];decide),aW za,show fldC d.kd=_ from by rw[hd]]
  exact values_5 ci A c r1 r2 g1 g2 AL cL l uA uc us m2 m3 m4 m5 p d _ _ w hd h.cs.ck h.cs.wr h.cs.str h.dok h.cs.k2.is h.cs.k3
end
def zCi(v:Int)(nxt:World->Prop)(w0:World)(e:Ending)(w':World):Prop:=e=.returned (.int .i64 v)/\Below w0.heap.size w0 w'/\(v=0->nxt w')
theorem zCi.bad{v v':Int}{nxt:World->Prop}{w0 w':World}(h:Value.int .i64 v'=.int .i64 v)(hv:v≠0)(hb:Below w0.heap.size w0 w'):zCi v nxt w0 (.returned (.int .i64 v')) w':=⟨by rw[h],hb,fun e=>absurd e hv⟩
theorem zCi.ok{v v':Int}{nxt:World->Prop}{w0 w':World}(h:Value.int .i64 v'=.int .i64 v)(hn:nxt w')(hb:Below w0.heap.size w0 w'):zCi v nxt w0 (.returned (.int .i64 v')) w':=⟨by rw[h],hb,fun _=>hn⟩
theorem deed_c(w0:World)(ci:Nat)(A:Option Addr)(c r1 r2 g1 g2:Nat)(AL:Option Addr)(cL:Nat)(l:List Rg)(uA:Option Addr)(uc:Nat)(us:List BA)(m2 m3 m4 m5 lo hi:Nat)(p:De)(pre:List De)(d:De)(w:World)(g:GoodR l)(hul:us.length<=1000000)(hg:∀q∈pre,1<=q.kd)(hc:CS w0 w ci A c r1 r2 g1 g2 AL cL l uA uc us m2 m3 m4 m5 lo hi p pre)(hd:DeOk w d): Calls Tryz.prog 89 #[.pointer (some ⟨ci,0,none⟩),deV d] w (zCi (progF l us pre d) (fun w'=>CS w0 w' ci A c r1 r2 g1 g2 AL cL l uA uc us m2 m3 m4 m5 lo hi d (pre++[d])) w0):=by
 generalize hres:progF l us pre d=res;have HR:=zq hres;clear hres;have hbW:Below w.heap.size w (w.alloc (.cells (deC d) 126)):=(aJ _ _).alloc (aE _) _;have HV:Hid (DS w0 (w.alloc (.cells (deC d) 126)) ci w.heap.size A c r1 r2 g1 g2 AL cL l uA uc us m2 m3 m4 m5 lo hi p pre d):=⟨hc.below hbW,Bx.new _ _ _,hd.below hbW⟩;clear hc hd hbW;obtain⟨W,hW⟩:∃W,W=w.alloc (.cells (deC d) 126):=⟨_,rfl⟩;rw[<-hW]at HV
 go_enter Tryz.func89,Tryz.ntmps89;(go_wp2_with fail);rw[<-hW];clear hW;have hsz:=HV.o.dx.lt;have x0:=HV.o.dx.c 0 rfl;have hz:=HV.o.dok.strs.1;(go_wp2_with fail);(with_reducible refine(zBE d.id _ hz).mono ?_);rintro e w2⟨rfl,hb2⟩;have HV2:=zq (HV.o.below hb2);clear hsz x0 hz;clear hb2 HV
 cases hnm:zBi d.id with
 |false =>
  have HS:Hid (res=5):=by
   show _=_
   rw[<-HR.o];unfold progF;rw[aD hnm]
  clear hnm HR;exact tci
 |true =>
 have HR1:Hid (prog1 l us pre d=res):=by
  show _=_
  have hn:¬zBi d.id=false:=by rw[hnm];simp
  rw[<-HR.o];unfold progF;rw[aW hn]
 clear hnm HR;have HDY:=zq (fun W'=>isDay_c d.day W');have hsz:=HV2.o.dx.lt;have x1:=HV2.o.dx.c 1 rfl;(go_wp2_with fail);(with_reducible refine(HDY.o _).mono ?_);rintro e w3⟨rfl,rfl⟩;clear hsz x1
 cases hb:zCF d.day with
 |false =>
  have HS:Hid (res=1):=by
   show _=_
   rw[<-HR1.o];unfold prog1;rw[aD hb]
  clear hb HR1 HDY;exact tci
 |true =>
 have HR2:Hid (prog2 l us pre d=res):=by
  show _=_
  have hn:¬zCF d.day=false:=by rw[hb];simp
  rw[<-HR1.o];unfold prog1;rw[aW hn]
 clear hb HR1 HDY;go_upto_region 5 with fail
 go_cut[28] (fun v wx=>v=.bool (!ordB pre d)/\DS w0 wx ci w.heap.size A c r1 r2 g1 g2 AL cL l uA uc us m2 m3 m4 m5 lo hi p pre d)
 case first =>
  have hlen:=fun n=>zDa.run_len tKinds 3 ((HV2.o.drewN n).cs.k2)
  by_cases hp:pre=[]
  ·have hob:ordB pre d=true:=by rw[hp];rfl
   have hl0:pre.length=0:=by rw[hp];rfl
   have HOB:Hid (Value.bool false=.bool (!ordB pre d)):=by
    show _=_
    rw[hob];rfl
   rw[hl0]at hlen;have hsz:=HV2.o.dx.lt;have q7:=HV2.o.cs.ck.c 7 rfl;clear hp hob hl0;go_quiet(fail);(go_wp2_with fail);go_meet;exact⟨HOB.o,HV2.o.drewN _⟩
  ·have hlp:0<pre.length:=List.length_pos_iff.2 hp
   have hlpi:(0:Int)<(pre.length:Int):=za;have hob:ordB pre d=decide (deCmp p d<0):=ordB_cmp hp HV2.o.cs.la;have HCD:=zq (compareDeeds_c p d)
   have HOB:Hid (Value.bool (decide (0<=deCmp p d))=.bool (!ordB pre d)):=by
    show _=_
    rw[hob]
    by_cases h:deCmp p d<0
    ·rw[aT h,aU (show ¬0<=deCmp p d by omega)];rfl
    ·rw[aU h,aT (show 0<=deCmp p d by omega)];rfl
   clear hp hob hlen;generalize deCmp p d=dc at *;refine eJ (S:=(fun w'=>DS w0 w' ci w.heap.size A c r1 r2 g1 g2 AL cL l uA uc us m2 m3 m4 m5 lo hi p pre d)) zb ?_ (fun hHeld=>?_)
   ·(first|exact HV4.o|exact HV2.o.drew)
   refine Dw.tk 0 ?_ rfl ?_ zg ?_
   rotate_left 1
   ·(intro w _;go_simp;try with_reducible rfl)
   simp only[eM,cY,Act.put,cV,eL,cS];refine Dw.tk 1 ?_ rfl ?_ zg ?_
   rotate_left 1
   ·(intro w _;go_simp;try with_reducible rfl)
   simp only[Dw.lay,Act.put];refine Dw.tk 2 ?_ rfl ?_ zg ?_
   rotate_left 1
   ·(intro w _;go_simp;try with_reducible rfl)
   simp only[Dw.lay,Act.put];refine Dw.tk 3 ?_ rfl ?_ zg ?_
   rotate_left 1
   ·(intro w hSw;have e7:=hSw.cs.ck.c 7 rfl;go_simp;try with_reducible rfl)
   simp only[Dw.lay,Act.put];refine Dw.tk 4 ?_ rfl ?_ zg ?_
   rotate_left 1
   ·(intro w hSw;have e7:=zDa.run_len tKinds 3 hSw.cs.k2;go_simp;try with_reducible rfl)
   simp only[Dw.lay,Act.put];refine Dw.tk 5 ?_ rfl ?_ zg ?_
   rotate_left 1
   ·(intro w _;go_simp;try with_reducible rfl)
   simp only[Dw.lay,Act.put];refine Dw.tk 6 ?_ rfl ?_ zg ?_
   rotate_left 1
   ·(intro w _;go_simp;try with_reducible rfl)
   simp only[Dw.lay,Act.put];refine Dw.tk 7 ?_ rfl ?_ zg ?_
   rotate_left 1
   ·(intro w _;go_simp;try with_reducible rfl)
   simp only[Dw.lay,Act.put];refine Dw.tk 8 ?_ rfl ?_ zg ?_
   rotate_left 1
   ·(intro w _;go_simp;try with_reducible rfl)
   simp only[Dw.lay,Act.put];refine Dw.tk 9 ?_ rfl ?_ zg ?_
   rotate_left 1
   ·(intro w _;go_simp;try with_reducible rfl)
   simp only[Dw.lay,Act.put];refine eK (i:=10) (v:=deV p) rfl zb zb zb (fun _ _ _ h=>h) ?_ zg ?_
   ·exact yields_deed zb (.tmp 23) rfl ci 11 zb p (fun w hSw=>rangeP hSw.cs.ck)
   simp only[Dw.lay,Act.put];refine eK (i:=11) (v:=deV d) rfl zb zb zb (fun _ _ _ h=>h) ?_ zg ?_
   ·exact tbx
   simp only[Dw.lay,Act.put];refine Dw.rd1 12 rfl (fun K hK=>?_);clear hHeld;go_simp
   go_at_call 150
   (with_reducible refine(HCD.o w2.drew).mono ?_);rintro e w4⟨rfl,hb4⟩;have HV4:=zq (HV2.o.drew.below hb4);refine hK.out _ _ ?_ (fun hHeld=>?_)
   ·(first|exact HV4.o|exact HV2.o.drew)
   clear hK K
   try simp only[Dw.lay,Act.put]
   refine Dw.tk 13 ?_ rfl ?_ zg ?_
   rotate_left 1
   ·(intro w _;go_simp;try with_reducible rfl)
   simp only[Dw.lay,Act.put];refine Dw.tk 14 ?_ rfl ?_ zg ?_
   rotate_left 1
   ·(intro w _;go_simp;try with_reducible rfl)
   simp only[Dw.lay,Act.put];refine wpAnyH_done zb ?_ _;clear hHeld;(go_wp2_with fail);go_meet;exact⟨HOB.o,HV4.o⟩
 case rest =>
 obtain⟨rfl,hvx⟩:=hcut;have HVX:=zq hvx;clear hvx HV2
 cases ho:ordB pre d with
 |false =>
  have HS:Hid (res=8):=by
   show _=_
   rw[<-HR2.o];unfold prog2;rw[aD ho]
  clear ho HR2;go_wp2;go_ret
  exact zCi.bad (zCp HS.o.symm) (by rw[HS.o];decide) HVX.o.cs.bel
 |true =>
 have HR3:Hid (prog3 l us pre d=res):=by
  show _=_
  have hn:¬ordB pre d=false:=by rw[ho];simp
  rw[<-HR2.o];unfold prog2;rw[aW hn]
 clear ho HR2;have hlk:=fun n=>zAp tKinds (zAZ (P:=Tryz.prog) zb) zInt ((HVX.o.drewN n).cs.k2.is) d.id false
 simp only[eF,if_false,kF_get]at hlk;have hsz:=HVX.o.dx.lt;have x0:=HVX.o.dx.c 0 rfl;have q7:=HVX.o.cs.ck.c 7 rfl;(go_wp2_with fail);go_quiet(fail);clear hsz x0 q7;clear hlk;have HVY:=zq (HVX.o.drewN nq);generalize wc.drewN nq=w5 at *;clear HVX
 cases htw:pre.any (zBA d.id)with
 |true =>
  have hkn:(0:Int)<kN pre d.id:=kN_some htw hg
  have HS:Hid (res=7):=by
   show _=_
   rw[<-HR3.o];unfold prog3;rw[aD htw]
  clear htw HR3;exact tcj
 |false =>
 have hkn:=kN_none htw;rw[hkn];have HTW:=zq htw
 have HR4:Hid (prog4 l us pre d=res):=by
  show _=_
  have hn:¬pre.any (zBA d.id)=true:=by rw[htw];simp
  rw[<-HR3.o];unfold prog3;rw[aW hn]
 clear htw hkn HR3;have HIK:=zq (fun W'=>isKindD_c d.kd W');have hsz:=HVY.o.dx.lt;have x2:=HVY.o.dx.c 2 rfl;(go_wp2_with fail);(with_reducible refine(HIK.o _).mono ?_);rintro e w6⟨rfl,rfl⟩;clear hsz x2
 cases hkb:kindB d.kd with
 |false =>
  have hk15:d.kd<1\/5<d.kd:=kindB_false hkb
  have HS:Hid (res=4):=by
   show _=_
   rw[<-HR4.o];unfold prog4;rw[aD hk15]
  clear hkb hk15 HR4 HIK;exact tcj
 |true =>
 have hk15:=kindB_true hkb;have HK:=zq hk15
 have HR5:Hid (prog5 l us pre d=res):=by
  show _=_
  have hn:¬(d.kd<1\/5<d.kd):=za;rw[<-HR4.o];unfold prog4;rw[aW hn]
 have HND:=zq (fun W'=>needless_c d W' hk15 HVY.o.dok.lens);clear hkb hk15 HR4 HIK;have hsz:=HVY.o.dx.lt;have x0:=HVY.o.dx.c 0 rfl;have x1:=HVY.o.dx.c 1 rfl;have x2:=HVY.o.dx.c 2 rfl;have x3:=HVY.o.dx.c 3 rfl;have x4:=HVY.o.dx.c 4 rfl;have x5:=HVY.o.dx.c 5 rfl;have x6:=HVY.o.dx.c 6 rfl;have x7:=HVY.o.dx.c 7 rfl;have x8:=HVY.o.dx.c 8 rfl;have x9:=HVY.o.dx.c 9 rfl;have x10:=HVY.o.dx.c 10 rfl;have x11:=HVY.o.dx.c 11 rfl;have x12:=HVY.o.dx.c 12 rfl;have x13:=HVY.o.dx.c 13 rfl;have x14:=HVY.o.dx.c 14 rfl;have x15:=HVY.o.dx.c 15 rfl;(go_wp2_with fail);(with_reducible refine(HND.o _).mono ?_);rintro e w7⟨rfl,hb7⟩;have HV7:=zq (HVY.o.below hb7);clear hsz x0 x1 x2 x3 x4 x5 x6 x7 x8 x9 x10 x11 x12 x13 x14 x15;clear hb7 HVY HND
 cases hnd:zAw d with
 |true =>
  have HS:Hid (res=3):=by
   show _=_
   rw[<-HR5.o];unfold prog5;rw[aD hnd]
  clear hnd HR5;go_wp2;go_ret
  exact zCi.bad (zCp HS.o.symm) (by rw[HS.o];decide) HV7.o.cs.bel
 |false =>
 have HR6:Hid (prog6 l us pre d=res):=by
  show _=_
  have hn:¬zAw d=true:=by rw[hnd];simp
  rw[<-HR5.o];unfold prog5;rw[aW hn]
 clear hnd HR5;go_upto_region 13 with fail
 go_cut[5] (fun v wx=>v=.int .i64 (valF l us pre d)/\DS w0 wx ci w.heap.size A c r1 r2 g1 g2 AL cL l uA uc us m2 m3 m4 m5 lo hi p pre d)
 case first =>
  have HFO:=zq (fun W'=>zBX d.kd W' zh);have HVA:=zq (fun W' (x:DS w0 W' ci w.heap.size A c r1 r2 g1 g2 AL cL l uA uc us m2 m3 m4 m5 lo hi p pre d)=>values_all HK.o g hul x);refine eJ (S:=(fun w'=>DS w0 w' ci w.heap.size A c r1 r2 g1 g2 AL cL l uA uc us m2 m3 m4 m5 lo hi p pre d)) zb ?_ (fun hHeld=>?_)
  ·(first|exact HV9.o|exact HV8.o|exact HV7.o.drew)
  refine Dw.tk 0 ?_ rfl ?_ zg ?_
  rotate_left 1
  ·(intro w _;go_simp;try with_reducible rfl)
  simp only[eM,cY,Act.put,cV,eL,cS];refine eK (i:=1) (v:=deV d) rfl zb zb zb (fun _ _ _ h=>h) ?_ zg ?_
  ·exact tbx
  simp only[Dw.lay,Act.put];refine Dw.tk 2 ?_ rfl ?_ zg ?_
  rotate_left 1
  ·(intro w _;go_simp;try with_reducible rfl)
  simp only[Dw.lay,Act.put];refine Dw.tk 3 ?_ rfl ?_ zg ?_
  rotate_left 1
  ·(intro w hSw;have e2:=hSw.dx.c 2 rfl;go_simp;try with_reducible rfl)
  simp only[Dw.lay,Act.put];refine Dw.rd1 4 rfl (fun K hK=>?_);clear hHeld;go_simp
  go_at_call 52
  (with_reducible refine(HFO.o w7.drew).mono ?_);rintro e w8⟨rfl,hb8⟩;have HV8:=zq (HV7.o.drew.below hb8);refine hK.out _ _ ?_ (fun hHeld=>?_)
  ·(first|exact HV9.o|exact HV8.o|exact HV7.o.drew)
  clear hK K
  try simp only[Dw.lay,Act.put]
  refine Dw.rd1 5 rfl (fun K hK=>?_);clear hHeld;go_simp
  go_at_call 153
  (with_reducible refine(HVA.o w8 HV8.o).mono ?_);rintro e w9⟨rfl,hb9⟩;have HV9:=zq (HV8.o.below hb9);refine hK.out _ _ ?_ (fun hHeld=>?_)
  ·(first|exact HV9.o|exact HV8.o|exact HV7.o.drew)
  clear hK K
  try simp only[Dw.lay,Act.put]
  refine Dw.tk 6 ?_ rfl ?_ zg ?_
  rotate_left 1
  ·(intro w _;go_simp;try with_reducible rfl)
  simp only[Dw.lay,Act.put];refine wpAnyH_done zb ?_ _;clear hHeld;(go_wp2_with fail);go_meet;exact⟨rfl,HV9.o⟩
 case rest =>
 obtain⟨rfl,hvx⟩:=hcut;have HVZ:=zq hvx;clear hvx HV7
 by_cases hvz:valF l us pre d=0
 case neg =>
  have hvb:(valF l us pre d != 0)=true:=by simpa using hvz
  have HS:Hid (res=valF l us pre d):=by
   show _=_
   rw[<-HR6.o];unfold prog6;rw[aD hvz]
  clear HR6;go_wp2;go_ret
  exact zCi.bad (zCp HS.o.symm) (by rw[HS.o];exact hvz) HVZ.o.cs.bel
 have HR7:Hid ((if twB pre d=true then (7:Int) else 0)=res):=by
  show _=_
  have hn:¬valF l us pre d≠0:=fun h=>h hvz
  rw[<-HR6.o];unfold prog6;rw[aW hn]
 rw[hvz];clear hvz HR6;go_upto_region 16 with fail
 go_cut[77] (fun v wx=>v=.bool (twB pre d)/\DS w0 wx ci w.heap.size A c r1 r2 g1 g2 AL cL l uA uc us m2 m3 m4 m5 lo hi p pre d)
 case first =>
  have hl4:=fun n=>zAp tFlags (zAZ (P:=Tryz.prog) zb) zBool ((HVZ.o.drewN n).cs.k4) d.th false
  have hl5:=fun n=>zAp tFlags (zAZ (P:=Tryz.prog) zb) zBool ((HVZ.o.drewN n).cs.k5) d.fr false
  simp only[eF,if_false,fl_get]at hl4 hl5;have hsz:=HVZ.o.dx.lt;have x2:=HVZ.o.dx.c 2 rfl;have x3:=HVZ.o.dx.c 3 rfl;have x4:=HVZ.o.dx.c 4 rfl;have q9:=HVZ.o.cs.ck.c 9 rfl;have q10:=HVZ.o.cs.ck.c 10 rfl
  by_cases k1:d.kd=1
  ·have k1b:(d.kd == 1)=true:=by rw[k1];rfl
   have k5b:(d.kd == 5)=false:=by rw[k1];rfl
   have htw:twB pre d=bornB pre d.th:=by unfold twB;rw[k1];simp
   clear k1 hl5;rw[<-htw]at hl4;clear htw
   cases hbn:twB pre d
   all_goals
    rw[hbn]at hl4;have HBN:=zq hbn;clear hbn;go_quiet(fail);(go_wp2_with fail);go_meet;exact⟨by rw[HBN.o],HVZ.o.drewN _⟩
  ·have k1b:(d.kd == 1)=false:=by simpa using k1
   by_cases k5:d.kd=5
   ·have k5b:(d.kd == 5)=true:=by rw[k5];rfl
    have htw:twB pre d=goneB pre d.fr:=by unfold twB;rw[k5];simp
    rw[<-htw]at hl5;clear k1 k5 htw hl4
    cases hbn:twB pre d
    all_goals
     rw[hbn]at hl5;have HBN:=zq hbn;clear hbn;go_quiet(fail);(go_wp2_with fail);go_meet;exact⟨by rw[HBN.o],HVZ.o.drewN _⟩
   ·have k5b:(d.kd == 5)=false:=by simpa using k5
    have htw:twB pre d=false:=by unfold twB;simp[k1,k5]
    have HBN:=zq htw;clear k1 k5 htw hl4 hl5;go_quiet(fail);(go_wp2_with fail);go_meet;exact⟨by rw[HBN.o],HVZ.o.drewN _⟩
 case rest =>
 obtain⟨rfl,hvx⟩:=hcut;have HVE:=zq hvx;clear hvx HVZ
 cases htw:twB pre d with
 |true =>
  have HS:Hid (res=7):=by
   show _=_
   rw[<-HR7.o,aD htw]
  clear htw HR7;go_wp2;go_ret
  exact zCi.bad (zCp HS.o.symm) (by rw[HS.o];decide) HVE.o.cs.bel
 |false =>
 have HS:Hid (res=0):=by
  show _=_
  rw[<-HR7.o,aW (by rw[htw];simp)]
 clear htw HR7;have HVF:Hid (DS w0 wc.drew ci w.heap.size A c r1 r2 g1 g2 AL cL l uA uc us m2 m3 m4 m5 lo hi p pre d):=HVE.o.drew;obtain⟨st,w11,w12,hent,hsto,hm2,hg1,hs1,hg2,hs2⟩:=run_entry_new tKinds (zAZ (P:=Tryz.prog) zb) zInt HVF.o.cs.k2 d.id (kF_none HTW.o) (.int .i64 d.kd);have hck:Bx w12 ci (ckC A c r1 r2 g1 g2 AL cL l uA uc us m2 m3 m4 m5 p) 170:=(hg2.block _ HVF.o.cs.ck.lt (by simp;exact HVF.o.cs.cne.1)).trans HVF.o.cs.ck;have hst:=run_storeVar_ck ci A c r1 r2 g1 g2 AL cL l uA uc us m2 m3 m4 m5 p d w12 hck
 have hdx:Bx (w12.setRow ci (ckC A c r1 r2 g1 g2 AL cL l uA uc us m2 m3 m4 m5 d)) w.heap.size (deC d) 126:=by
  have h1:w.heap.size≠ci:=zAA HVF.o.dx HVF.o.cs.ck zc;have h2:m2≠w.heap.size:=(zAi HVF.o.cs.k2.is HVF.o.dx).symm;show _=_
  rw[setRow_other _ _ _ _ h1,hg2.block _ HVF.o.dx.lt (by simp;exact h2.symm)];exact HVF.o.dx
 have hck2:Bx (w12.setRow ci (ckC A c r1 r2 g1 g2 AL cL l uA uc us m2 m3 m4 m5 d)) ci (ckC A c r1 r2 g1 g2 AL cL l uA uc us m2 m3 m4 m5 d) 170:=setRow_heap _ _ _ _ _ _ hck;obtain⟨hm3,hm4,hm5⟩:=HVF.o.cs.mid hg2 (ckC A c r1 r2 g1 g2 AL cL l uA uc us m2 m3 m4 m5 d);have HDX:=zq hdx;have HCK:=zq hck2;have HST:=zq hst;have HM3:=zq hm3;have HM4:=zq hm4;have HM5:=zq hm5;have HM2:=zq hm2;have HG2:=zq hg2;have HS2:=zq hs2;have HX11:Hid (Bx w11 w.heap.size (deC d) 126):=(hg1.block _ HVF.o.dx.lt (by simp;exact zAi HVF.o.cs.k2.is HVF.o.dx)).trans HVF.o.dx;have HC11:Hid (Bx w11 ci (ckC A c r1 r2 g1 g2 AL cL l uA uc us m2 m3 m4 m5 p) 170):=(hg1.block _ HVF.o.cs.ck.lt (by simp;exact HVF.o.cs.cne.1)).trans HVF.o.cs.ck;have HX12:Hid (Bx w12 w.heap.size (deC d) 126):=(hg2.block _ HVF.o.dx.lt (by simp;exact zAi HVF.o.cs.k2.is HVF.o.dx)).trans HVF.o.dx;have HC12:=zq hck;have HX13:=zq hdx;have HC13:=zq hck2;obtain⟨w13,hw13⟩:∃w13,w13=w12.setRow ci (ckC A c r1 r2 g1 g2 AL cL l uA uc us m2 m3 m4 m5 d):=⟨_,rfl⟩;have HW13:=zq hw13;rw[<-hw13]at HST HX13 HC13 HM3 HM4 HM5;clear hw13 hm2 hg2 hs2 hck hst hdx hck2 hm3 hm4 hm5 hg1 hs1;(go_wp2_with fail);refine eJ (S:=(fun w'=>Bx w' w.heap.size (deC d) 126/\w'.cell? ⟨ci,7,none⟩=some (.map (some m2)))) zb ?_ (fun hHeld=>?_)
 ·(first|exact⟨HX13.o,HC13.o.c 7 rfl⟩|exact⟨HX12.o,HC12.o.c 7 rfl⟩|exact⟨HX11.o,HC11.o.c 7 rfl⟩|exact⟨HVE.o.drew.dx,HVE.o.drew.cs.ck.c 7 rfl⟩)
 refine Dw.tk 0 ?_ rfl ?_ zg ?_
 rotate_left 1
 ·(intro w _;go_simp;try with_reducible rfl)
 simp only[eM,cY,Act.put,cV,eL,cS];refine Dw.tk 1 ?_ rfl ?_ zg ?_
 rotate_left 1
 ·(intro w _;go_simp;try with_reducible rfl)
 simp only[Dw.lay,Act.put];refine Dw.tk 2 ?_ rfl ?_ zg ?_
 rotate_left 1
 ·(intro w _;go_simp;try with_reducible rfl)
 simp only[Dw.lay,Act.put];refine Dw.tk 3 ?_ rfl ?_ zg ?_
 rotate_left 1
 ·(intro w hSw;have e7:=hSw.2;go_simp;try with_reducible rfl)
 simp only[Dw.lay,Act.put];refine Dw.tk 4 ?_ rfl ?_ zg ?_
 rotate_left 1
 ·(intro w _;go_simp;try with_reducible rfl)
 simp only[Dw.lay,Act.put];refine Dw.tk 5 ?_ rfl ?_ zg ?_
 rotate_left 1
 ·(intro w hSw;have e0:=hSw.1.c 0 rfl;go_simp;try with_reducible rfl)
 simp only[Dw.lay,Act.put];refine Dw.tk 6 ?_ rfl ?_ zg ?_
 rotate_left 1
 ·(intro w _;go_simp;try with_reducible rfl)
 simp only[Dw.lay,Act.put];refine Dw.tk 7 ?_ rfl ?_ zg ?_
 rotate_left 1
 ·(intro w _;go_simp;try with_reducible rfl)
 simp only[Dw.lay,Act.put];refine Dw.tk 8 ?_ rfl ?_ zg ?_
 rotate_left 1
 ·(intro w hSw;have e2:=hSw.1.c 2 rfl;go_simp;try with_reducible rfl)
 simp only[Dw.lay,Act.put];refine eK (i:=9) (v:=deV d) rfl zb zb zb (fun _ _ _ h=>h) ?_ zg ?_
 ·exact yields_deed zb (.tmp 3) rfl w.heap.size 0 zb d (fun w hSw=>rangeD hSw.1)
 simp only[Dw.lay,Act.put];refine Dw.rd1 10 rfl (fun K hK=>?_);clear hHeld;go_simp;refine hK.out _ _ ?_ (fun hHeld=>?_)
 ·(first|exact⟨HX13.o,HC13.o.c 7 rfl⟩|exact⟨HX12.o,HC12.o.c 7 rfl⟩|exact⟨HX11.o,HC11.o.c 7 rfl⟩|exact⟨HVE.o.drew.dx,HVE.o.drew.cs.ck.c 7 rfl⟩)
 clear hK K
 try simp only[Dw.lay,Act.put]
 refine Dw.tk 11 ?_ rfl ?_ zg ?_
 rotate_left 1
 ·(intro w _;go_simp;try with_reducible rfl)
 simp only[Dw.lay,Act.put];refine Dw.rd1 12 rfl (fun K hK=>?_);clear hHeld;go_simp;refine hK.out _ _ ?_ (fun hHeld=>?_)
 ·(first|exact⟨HX13.o,HC13.o.c 7 rfl⟩|exact⟨HX12.o,HC12.o.c 7 rfl⟩|exact⟨HX11.o,HC11.o.c 7 rfl⟩|exact⟨HVE.o.drew.dx,HVE.o.drew.cs.ck.c 7 rfl⟩)
 clear hK K
 try simp only[Dw.lay,Act.put]
 refine Dw.tk 13 ?_ rfl ?_ zg ?_
 rotate_left 1
 ·(intro w _;go_simp;try with_reducible rfl)
 simp only[Dw.lay,Act.put];refine Dw.tk 14 ?_ rfl ?_ zg ?_
 rotate_left 1
 ·(intro w _;go_simp;try with_reducible rfl)
 simp only[Dw.lay,Act.put];refine Dw.rd1 15 rfl (fun K hK=>?_);clear hHeld;rw[aD zb];refine wp_store_var _ _ _ rfl _ _ rfl rfl HST.o ?_;refine hK.out _ _ ?_ (fun hHeld=>?_)
 ·(first|exact⟨HX13.o,HC13.o.c 7 rfl⟩|exact⟨HX12.o,HC12.o.c 7 rfl⟩|exact⟨HX11.o,HC11.o.c 7 rfl⟩|exact⟨HVE.o.drew.dx,HVE.o.drew.cs.ck.c 7 rfl⟩)
 clear hK K
 try simp only[eM,cT,cY,Act.put]
 refine wpAnyH_done zb ?_ _;clear hHeld;have x2:=HX13.o.c 2 rfl;have hsz:=HX13.o.lt;clear HX11 HX12 HC11 HC12 hent hsto HST;have hk5:=HK.o
 by_cases k1:d.kd=1
 ·have k1b:(d.kd == 1)=true:=by rw[k1];rfl
  obtain⟨w14,hup,hm14,hg14,hs14⟩:=zAS tFlags (zAZ (P:=Tryz.prog) zb) (show zAu Value.string w13.drew m4 _ from HM4.o) d.th (.bool true);have n34:=HVF.o.cs.ne;have hm3:=HM3.o.keep (hg14.block m3 HM3.o.lt (by simp;exact n34.2.2.2.1));have hm5:=HM5.o.keep (hg14.block m5 HM5.o.lt (by simp;exact n34.2.2.2.2.2.symm));rw[born_push k1]at hm14;rw[<-end_same (pre:=pre) (d:=d) (by rw[k1];decide)]at hm3;rw[<-gone_same (pre:=pre) (d:=d) (by rw[k1];decide)]at hm5;have HF:Hid (CS w0 w14 ci A c r1 r2 g1 g2 AL cL l uA uc us m2 m3 m4 m5 lo hi d (pre++[d])):=HVF.o.cs.done HTW.o HM2.o HG2.o HS2.o HW13.o (m:=m4) ⟨hg14.os,hg14.tape,hg14.output,hg14.size,hg14.block⟩ (.inr (.inl rfl)) hm3 hm14 hm5;have q9:=HC13.o.c 9 rfl;have x3:=HX13.o.c 3 rfl;clear n34 hm3 hm5 hm14 hg14 hs14 HM2 HM3 HM4 HM5 HG2 HS2 HTW HVF hk5 HK HVE k1;exact tar
 have k1b:(d.kd == 1)=false:=by simpa using k1
 by_cases k5:d.kd=5
 ·have k5b:(d.kd == 5)=true:=by rw[k5];rfl
  obtain⟨w14,hup,hm14,hg14,hs14⟩:=zAS tFlags (zAZ (P:=Tryz.prog) zb) (show zAu Value.string w13.drew m5 _ from HM5.o) d.fr (.bool true);have n34:=HVF.o.cs.ne;have hm3:=HM3.o.keep (hg14.block m3 HM3.o.lt (by simp;exact n34.2.2.2.2.1));have hm4:=HM4.o.keep (hg14.block m4 HM4.o.lt (by simp;exact n34.2.2.2.2.2));rw[gone_push k5]at hm14;rw[<-end_same (pre:=pre) (d:=d) (by rw[k5];decide)]at hm3;rw[<-born_same (pre:=pre) (d:=d) (by rw[k5];decide)]at hm4;have HF:Hid (CS w0 w14 ci A c r1 r2 g1 g2 AL cL l uA uc us m2 m3 m4 m5 lo hi d (pre++[d])):=HVF.o.cs.done HTW.o HM2.o HG2.o HS2.o HW13.o (m:=m5) ⟨hg14.os,hg14.tape,hg14.output,hg14.size,hg14.block⟩ (.inr (.inr rfl)) hm3 hm4 hm14;have q10:=HC13.o.c 10 rfl;have x4:=HX13.o.c 4 rfl;clear n34 hm3 hm4 hm14 hg14 hs14 HM2 HM3 HM4 HM5 HG2 HS2 HTW HVF hk5 HK HVE k1 k5;exact tar
 have k5b:(d.kd == 5)=false:=by simpa using k5
 by_cases k4:d.kd=4
 ·have k4b:(d.kd == 4)=true:=by rw[k4];rfl
  obtain⟨w14,hup,hm14,hg14,hs14⟩:=zAS tFlags (zAZ (P:=Tryz.prog) zb) (show zAu Value.string w13.drew m3 _ from HM3.o) d.ot (.bool true);have n34:=HVF.o.cs.ne;have hm4:=HM4.o.keep (hg14.block m4 HM4.o.lt (by simp;exact n34.2.2.2.1.symm));have hm5:=HM5.o.keep (hg14.block m5 HM5.o.lt (by simp;exact n34.2.2.2.2.1.symm));rw[end_push k4]at hm14;rw[<-born_same (pre:=pre) (d:=d) (by rw[k4];decide)]at hm4;rw[<-gone_same (pre:=pre) (d:=d) (by rw[k4];decide)]at hm5;have HF:Hid (CS w0 w14 ci A c r1 r2 g1 g2 AL cL l uA uc us m2 m3 m4 m5 lo hi d (pre++[d])):=HVF.o.cs.done HTW.o HM2.o HG2.o HS2.o HW13.o (m:=m3) ⟨hg14.os,hg14.tape,hg14.output,hg14.size,hg14.block⟩ (.inl rfl) hm14 hm4 hm5;have q8:=HC13.o.c 8 rfl;have x15:=HX13.o.c 15 rfl;clear n34 hm4 hm5 hm14 hg14 hs14 HM2 HM3 HM4 HM5 HG2 HS2 HTW HVF hk5 HK HVE k1 k5 k4;exact tar
 have k4b:(d.kd == 4)=false:=by simpa using k4
 have hm3:=HM3.o;have hm4:=HM4.o;have hm5:=HM5.o;rw[<-end_same (pre:=pre) (d:=d) k4]at hm3;rw[<-born_same (pre:=pre) (d:=d) k1]at hm4;rw[<-gone_same (pre:=pre) (d:=d) k5]at hm5;have HF:Hid (CS w0 w13 ci A c r1 r2 g1 g2 AL cL l uA uc us m2 m3 m4 m5 lo hi d (pre++[d])):=HVF.o.cs.done HTW.o HM2.o HG2.o HS2.o HW13.o (m:=m3) (grown_refl _ _) (.inl rfl) hm3 hm4 hm5;clear hm3 hm4 hm5 HM2 HM3 HM4 HM5 HG2 HS2 HTW HVF hk5 HK HVE k1 k5 k4;(go_wp2_with fail);go_ret
 exact zCi.ok (zCp HS.o.symm) HF.o HF.o.bel
end Go.Proofs.YtbbchlpccgkikaaGreatDoor
