/- The reference's checkDeed = zEe. The reference's Check of a title = zBY. The reference's runs and Runs. -/
import Derived.Test.YtbbchlpccgkikaaGreatDoorSb17
import Derived.Test.YtbbchlpccgkikaaGreatDoorSb18
import Derived.Test.YtbbchlpccgkikaaGreatDoorSb19
import Derived.Test.YtbbchlpccgkikaaGreatDoorSb20
import Derived.Test.YtbbchlpccgkikaaGreatDoorSb21
import Derived.OwnWalk
set_option maxRecDepth 100000
set_option maxHeartbeats 8000000
namespace Go.Proofs.YtbbchlpccgkikaaGreatDoor
open Go.RowKit Dw
theorem checkDeedR_c(RA:OA)(rc:Nat)(V:List Rg)(UA:OA)(O:Nat)(us:List BA)(DA:OA)(dc:Nat)(U:List De)(k:Nat)(w:World)(g:GoodR V)(hr:Rgs w RA V)(hu:Strs w UA us)(hul:us.length<=1000000)(hd:Des w DA U)(hk:k<U.length)(hdl:U.length<=200): Calls Tryz.prog 111 #[.agg (tiC RA rc V UA O us DA dc U),.int .i64 k] w (zAf (.int .i64 (zEe V us (U.take k) U[k])) w):=by
 by_cases h0:U[k].kd<1\/5<U[k].kd
 ·exact checkDeed_x RA rc V UA O us DA dc U k w g hr hu hul hd hk hdl h0
 ·by_cases h1:U[k].kd=1
  ·exact checkDeed_b RA rc V UA O us DA dc U k w g hr hu hul hd hk hdl h1
  ·by_cases h5:U[k].kd=5
   ·exact checkDeed_z RA rc V UA O us DA dc U k w g hr hu hul hd hk hdl h5
   ·by_cases h4:U[k].kd=4
    ·exact checkDeed_e RA rc V UA O us DA dc U k w g hr hu hul hd hk hdl h4
    ·exact checkDeed_g RA rc V UA O us DA dc U k w g hr hu hul hd hk hdl za
structure TS (w:World) (RA:OA) (rc:Nat) (V:List Rg) (UA:OA) (O:Nat) (us:List BA) (DA:OA) (dc:Nat) (U:List De) (W:World):Prop where
 bel:Below w.heap.size w W
 ti:Bx W w.heap.size (tiC RA rc V UA O us DA dc U) 26
section
variable {w W W':World} {RA:OA} {rc:Nat} {V:List Rg} {UA:OA} {O:Nat} {us:List BA} {DA:OA} {dc:Nat} {U:List De}
theorem TS.below(h:TS w RA rc V UA O us DA dc U W)(I:Below W.heap.size W W'):TS w RA rc V UA O us DA dc U W':=⟨zAa h.bel I,h.ti.below I⟩
theorem TS.drewN(h:TS w RA rc V UA O us DA dc U W)(n:Nat):TS w RA rc V UA O us DA dc U (W.drewN n):=h.below (zAb (aR _ _) n)
end
def chkT2(V:List Rg)(us:List BA)(U:List De):Int:=if 200<U.length then 2 else match (List.range U.length).findSome? (zBZ V us U)with
  |some f=>f
  |none=>0
theorem chkT_un{V:List Rg}{us:List BA}{U:List De}{k:Nat}{f:Int}(h0:zDM V=0)(h1:us≠[])(h2:¬20<us.length)(hk:k<us.length)(hp:∀j,j<k->zBg us j=none)(hf:zBg us k=some f):zBY V us U=f:=by
 unfold zBY;rw[aO (fun h=>h h0),aO h1,aO h2,zAN hk hp hf]
theorem chkT_de{V:List Rg}{us:List BA}{U:List De}(h0:zDM V=0)(h1:us≠[])(h2:¬20<us.length)(hp:∀j,j<us.length->zBg us j=none):zBY V us U=chkT2 V us U:=by
 unfold zBY chkT2;rw[aO (fun h=>h h0),aO h1,aO h2,zBi hp]
 rfl
theorem deFault_of{V:List Rg}{us:List BA}{U:List De}{k:Nat}(hk:k<U.length):zBZ V us U k=if zEe V us (U.take k) U[k]≠0 then some (zEe V us (U.take k) U[k]) else none:=by
 unfold zBZ;rw[show U.getD k default=U[k] by simp[List.getD,hk]]
def UnRelT(w:World)(RA:OA)(rc:Nat)(V:List Rg)(UA:OA)(O:Nat)(us:List BA)(DA:OA)(dc:Nat)(U:List De)(m:Nat)(i:Value)(wr:World):Prop:=
 TS w RA rc V UA O us DA dc U wr/\∃k:Nat,k+m=us.length/\i=.int .i64 k/\∀j,j<k->zBg us j=none
def DeRelT(w:World)(RA:OA)(rc:Nat)(V:List Rg)(UA:OA)(O:Nat)(us:List BA)(DA:OA)(dc:Nat)(U:List De)(m:Nat)(i:Value)(wr:World):Prop:=
 TS w RA rc V UA O us DA dc U wr/\∃k:Nat,k+m=U.length/\i=.int .i64 k/\∀j,j<k->zBZ V us U j=none
theorem CheckTR_c(RA:OA)(rc:Nat)(V:List Rg)(UA:OA)(O:Nat)(us:List BA)(DA:OA)(dc:Nat)(U:List De)(w:World)(hr:Rgs w RA V)(hu:Strs w UA us)(hd:Des w DA U)(hz:∀i (h:i<V.length),(V[i]).nm.size<=9223372036854775807)(hz2:∀i (h:i<us.length),(us[i]).size<=9223372036854775807): Calls Tryz.prog 54 #[.agg (tiC RA rc V UA O us DA dc U)] w (zAf (.int .i64 (zBY V us U)) w):=by
 generalize C:zBY V us U=res;have HR:=zq C;clear C;have M:Hid (TS w RA rc V UA O us DA dc U (w.alloc (.cells (tiC RA rc V UA O us DA dc U) 26))):=⟨(aR w.heap.size w).alloc (aK _) _,Bx.new _ _ _⟩;obtain⟨W,hW⟩:∃W,W=w.alloc (.cells (tiC RA rc V UA O us DA dc U) 26):=⟨_,rfl⟩;rw[<-hW]at M;have HRG:=zq hr;have HU:=zq hu;have HDE:=zq hd;clear hr hu hd
 go_enter Tryz.func54,Tryz.ntmps54;(go_upto_region 1 with fail);rw[<-hW];clear hW;have x0:=M.o.ti.c 0 rfl;have xs:=M.o.ti.lt;(go_wp2_with fail);refine(CheckRegionsR_c RA rc V W (HRG.o.below M.o.bel) hz).mono ?_;rintro e w1⟨rfl,nd,rfl⟩;have HST1:=zq (M.o.drewN nd);clear x0 xs M hz
 by_cases hcr:zDM V=0
 case neg =>
  have hcb:(zDM V != 0)=true:=by simpa using hcr
  have HS:Hid (res=zDM V):=by
   show _=_
   rw[<-HR.o];unfold zBY;rw[aF hcr]
  clear hcr HR;exact tfh
 have HCR:=zq hcr;have g:=zCi hcr;rw[hcr];clear hcr;have x1:=HST1.o.ti.c 1 rfl;have xs:=HST1.o.ti.lt
 by_cases hu0:us=[]
 ·have hlb:((us.length:Int) == 0)=true:=by rw[hu0];rfl
  have HS:Hid (res=9):=by
   show _=_
   rw[<-HR.o];unfold zBY;rw[aO (fun h=>h HCR.o),aF hu0]
  clear hu0 HR;exact tfh
 have hup:0<us.length:=List.length_pos_iff.2 hu0;have hlb:((us.length:Int) == 0)=false:=by rw[bW];omega
 have HU0:=zq hu0;clear hu0
 by_cases hu20:20<us.length
 ·have HS:Hid (res=2):=by
   show _=_
   rw[<-HR.o];unfold zBY;rw[aO (fun h=>h HCR.o),aO HU0.o,aF hu20]
  have h20:(20:Int)<(us.length:Int):=za;clear hu20 HR;exact tfh
 have h20:¬(20:Int)<(us.length:Int):=za;have HH:Hid (∀k f,k<us.length->(∀j,j<k->zBg us j=none)->zBg us k=some f->res=f):=fun k f hk hp hf=>by rw[<-HR.o];exact chkT_un HCR.o HU0.o hu20 hk hp hf
 have HN:Hid ((∀j,j<us.length->zBg us j=none)->res=chkT2 V us U):=fun hp=>by rw[<-HR.o];exact chkT_de HCR.o HU0.o hu20 hp
 have hul:us.length<=1000000:=za;have HZ2:=zq hz2;clear hu20 HR hz2;obtain⟨b,o,hA,hbu,hcu⟩:=HU.o.at_ hup;have HCU:=zq hcu;have HA:=zq hA;clear hcu hA;go_wp2
 go_loopg[4] us.length (UnRelT w RA rc V UA O us DA dc U)
 case atStart=>exact⟨HST1.o,0,za,rfl,fun j hj=>absurd hj za⟩
 case round =>
  clear HST1 x1 xs;obtain⟨hst,k,hkm,rfl,hpre⟩:=hrel;have M:=zq hst;have HK:=zq hkm;have HP:=zq hpre;have hk1:k<=us.length:=za;clear hkm hpre hst;have x1:wr.cell? ⟨w.heap.size,1,none⟩=some (.slice (some ⟨b,o,none⟩) us.length O):=by rw[<-HA.o];exact M.o.ti.c 1 rfl
  have xs:=M.o.ti.lt
  by_cases Y:k<us.length
  ·have hc0:wr.cell? ⟨b,o+k,none⟩=some (.string us[k]):=(M.o.bel.cell hbu).trans (HCU.o k Y)
   have hzk:=HZ2.o k Y;(go_wp2_with fail);(with_reducible refine(zBr us[k] _ hzk).mono ?_);rintro e w2⟨rfl,rfl⟩
   cases hnm:zBw us[k]with
   |false =>
    have HS:Hid (res=5):=HH.o k 5 Y HP.o (by unfold zBg;rw[zDw Y,aF hnm]);clear hnm;exact tfj
   |true =>
    have HNM:=zq hnm;clear hnm
    by_cases hk0:0<k
    case pos =>
     have zp:wr.cell? ⟨b,o+(k-1),none⟩=some (.string (us[k-1]'(by omega))):=(M.o.bel.cell hbu).trans (HCU.o (k-1) za);have hd:decide ((0:Int)<(k:Int))=true:=zg;have hd0:decide ((0:Int)<=(k:Int)-1)=true:=zg
     cases hle:sle us[k] (us[k-1]'(by omega))with
     |true =>
      have HS:Hid (res=8):=HH.o k 8 Y HP.o yx;unfold sle at hle;exact td4
     |false =>
      have HF:Hid (zBg us k=none):=by
       exact tcn
      unfold sle at hle;exact tbk
    case neg =>
     have hd:decide ((0:Int)<(k:Int))=false:=zg
     have HF:Hid (zBg us k=none):=by
      exact td2
     exact tbk
  ·have hke:k=us.length:=by omega
   have HE:Hid (chkT2 V us U=res):=(HN.o (by rw[<-hke];exact HP.o)).symm;have x2:=M.o.ti.c 2 rfl;clear HK HP HN HH HCU hk1 hbu
   by_cases hd200:200<U.length
   ·have HS:Hid (res=2):=by show _=_;rw[<-HE.o];unfold chkT2;rw[aF hd200]
    have h200:(200:Int)<(U.length:Int):=za;clear hd200;exact tfj
   have h200:¬(200:Int)<(U.length:Int):=za
   have HE2:Hid ((match (List.range U.length).findSome? (zBZ V us U)with
     |some f=>f
     |none=>0)=res):=by
    show _=_
    rw[<-HE.o];unfold chkT2;rw[aO hd200]
   have hdl:U.length<=200:=za;clear HE hd200;have HSTL:=M;clear M;go_wp2
   go_loopg[5] U.length (DeRelT w RA rc V UA O us DA dc U)
   case atStart=>exact⟨HSTL.o,0,za,rfl,fun j hj=>absurd hj za⟩
   case round =>
    clear HSTL x1 x2 xs;obtain⟨hst,q,hqm,rfl,hpre⟩:=hrel;have M:=zq hst;have HQ:=zq hqm;have HP:=zq hpre;have hq1:q<=U.length:=za;clear hqm hpre hst
    by_cases hlq:q<U.length
    ·have x2:=M.o.ti.c 2 rfl
     have xs:=M.o.ti.lt;(go_upto_region 20 with fail);(iterate 2 go_step);refine fG _ _ zk w.heap.size 0 zk (tiC RA rc V UA O us DA dc U).toList _ (zBt M.o.ti) Tryz.underlying26 rfl zc ?_;(go_wp2_with fail);(with_reducible refine(checkDeedR_c RA rc V UA O us DA dc U q _ g (HRG.o.below M.o.bel) (HU.o.below M.o.bel) hul (HDE.o.below M.o.bel) hlq hdl).mono ?_);rintro e w3⟨rfl,hb3⟩;have HST3:=zq (M.o.below hb3);clear x2 xs hb3 M
     by_cases hdf:zEe V us (U.take q) U[q]=0
     ·have HF:Hid (zBZ V us U q=none):=by
       show _=_
       rw[deFault_of hlq,aO (fun h=>h hdf)]
      rw[hdf];clear hdf;go_wp2
      go_roundg (gk-1)
      case measure=>have:=HQ.o;omega
      case rel =>
       refine⟨HST3.o,q+1,by have:=HQ.o;omega,zi,fun j hj=>?_⟩
       rcases aI j q with h9|h9
       ·exact HP.o j h9
       ·obtain rfl:j=q:=by omega
        exact HF.o
     ·have HS:Hid (res=zEe V us (U.take q) U[q]):=by
       show _=_
       rw[<-HE2.o,zAN hlq HP.o (x:=zEe V us (U.take q) U[q]) (by rw[deFault_of hlq,aF hdf])]
      have hdb:(zEe V us (U.take q) U[q] != 0)=true:=by simpa using hdf
      clear hdf;go_wp2;go_ret
      exact zAf.mk (zBF HS.o.symm) HST3.o.bel
    ·have HS:Hid (res=0):=by
      show _=_
      rw[<-HE2.o,zBi (fun j hj=>HP.o j za)]
     have x2:=M.o.ti.c 2 rfl;have xs:=M.o.ti.lt;exact tfj
abbrev iiV(p:Int×Int):Value:=.tuple #[.int .i64 p.1,.int .i64 p.2]
theorem toR_snoc(l:List De)(x d:De):toR (l++[x]) d=if endsB d.id x=true then min (toR l d) x.bg else toR l d:=by
 unfold toR;rw[bQ];rfl
def RunR(W:World)(U:List De)(d:De)(m:Nat)(e i:Value)(wr:World):Prop:=
 ∃q j,wr=W.drewN q/\j+m=U.length/\i=.int .i64 (j:Nat)/\e=.int .i64 (toR (U.take j) d)
theorem runsR_c(RA:OA)(rc:Nat)(V:List Rg)(UA:OA)(O:Nat)(us:List BA)(DA:OA)(dc:Nat)(U:List De)(k:Nat)(w:World)(hd:Des w DA U)(hk:k<U.length)(hdl:U.length<=200): Calls Tryz.prog 173 #[.agg (tiC RA rc V UA O us DA dc U),.int .i64 k] w (zAf (iiV (cutR U[k].bg (toR U U[k]))) w):=by
 obtain⟨b,o,rfl,hb0,hc0⟩:=hd za;have N:=(hc0 k hk).1;obtain⟨d,T⟩:∃d,U[k]=d:=⟨_,rfl⟩;rw[T]at N ⊢;have HC0:=zq hc0;clear hd hc0 T;have HX:Hid (Bx (w.alloc (.cells (tiC RA rc V UA O us (some ⟨b,o,none⟩) dc U) 26)) w.heap.size (tiC RA rc V UA O us (some ⟨b,o,none⟩) dc U) 26):=Bx.new _ _ _;have HB:Hid (Below w.heap.size w (w.alloc (.cells (tiC RA rc V UA O us (some ⟨b,o,none⟩) dc U) 26))):=(aR _ _).alloc (aK _) _;obtain⟨W,hW⟩:∃W,W=w.alloc (.cells (tiC RA rc V UA O us (some ⟨b,o,none⟩) dc U) 26):=⟨_,rfl⟩;rw[<-hW]at HX HB
 go_enter Tryz.func173,Tryz.ntmps173;(go_upto_region 1 with fail);rw[<-hW];clear hW;have x2:W.cell? ⟨w.heap.size,2,none⟩=some (.slice (some ⟨b,o,none⟩) U.length dc):=HX.o.c 2 rfl;have hsx:=HX.o.lt;have q0:W.cell? ⟨b,o+k*16,none⟩=some (.string d.id):=(HB.o.cell (p:=⟨b,o+k*16,none⟩) hb0).trans (N 0 _ rfl);have q11:W.cell? ⟨b,o+k*16+12,none⟩=some (.int .i64 d.bg):=(HB.o.cell (p:=⟨b,o+k*16+12,none⟩) hb0).trans (N 12 _ rfl);have q12:W.cell? ⟨b,o+k*16+13,none⟩=some (.int .i64 d.en):=(HB.o.cell (p:=⟨b,o+k*16+13,none⟩) hb0).trans (N 13 _ rfl);clear N;go_quiet(fail);go_wp2
 go_loopg[7,8] U.length (RunR W U d)
 case atStart=>exact⟨_,0,rfl,za,rfl,rfl⟩
 case round =>
  obtain⟨q,j,rfl,hjm,rfl,rfl⟩:=hrel;have HJM:=zq hjm;have hjk:j<=U.length:=za;clear hjm
  by_cases hlj:j<U.length
  ·obtain⟨pj,hpj⟩:∃pj,U[j]=pj:=⟨_,rfl⟩
   have hp:=(HC0.o j hlj).1;rw[hpj]at hp;have p2:W.cell? ⟨b,o+j*16+2,none⟩=some (.int .i64 pj.kd):=(HB.o.cell (p:=⟨b,o+j*16+2,none⟩) hb0).trans (hp 2 _ rfl);have p11:W.cell? ⟨b,o+j*16+12,none⟩=some (.int .i64 pj.bg):=(HB.o.cell (p:=⟨b,o+j*16+12,none⟩) hb0).trans (hp 12 _ rfl);have p15:W.cell? ⟨b,o+j*16+15,none⟩=some (.string pj.ot):=(HB.o.cell (p:=⟨b,o+j*16+15,none⟩) hb0).trans (hp 15 _ rfl)
   have HS:Hid (toR (U.take (j+1)) d=if endsB d.id pj=true then min (toR (U.take j) d) pj.bg else toR (U.take j) d):=by
    show _=_
    rw[aG hlj,hpj,toR_snoc]
   generalize toR (U.take j) d=te at HS;clear hp hpj
   by_cases hq:pj.kd=4
   ·have e1:(pj.kd == 4)=true:=by simpa using hq
    by_cases he:pj.ot=d.id
    ·have HT:Hid (toR (U.take (j+1)) d=min te pj.bg):=by show _=_;rw[HS.o,aF (zCu.2 ⟨hq,he⟩)]
     have q1:=zAn he;exact tb4
    ·have HT:Hid (toR (U.take (j+1)) d=te):=by show _=_;rw[HS.o,aO (fun h=>he (zCu.1 h).2)]
     have q1:=zAp he;exact tb4
   ·have e1:(pj.kd == 4)=false:=by simpa using hq
    have HT:Hid (toR (U.take (j+1)) d=te):=by show _=_;rw[HS.o,aO (fun h=>hq (zCu.1 h).1)]
    clear hq HS;exact tf3
  ·have hje:j=U.length:=by omega
   rw[hje,aN];have HB2:=zq (zAb HB.o q);generalize hte:toR U d=te;have HTE:=zq hte;clear hte;clear hjk;subst hje
   by_cases hle:te<=d.bg
   ·have HV:Hid (cutR d.bg te=(0,0)):=by show _=_;unfold cutR;rw[aF hle]
    have e1:decide (te<=d.bg)=true:=aD hle;clear hle;go_wp2;go_ret2
    exact zAf.mk (by rw[HTE.o,HV.o];rfl) HB2.o
   ·have HV:Hid (cutR d.bg te=(d.bg,te)):=by show _=_;unfold cutR;rw[aO hle]
    have e1:decide (te<=d.bg)=false:=aE hle;clear hle;go_wp2;go_ret2
    exact zAf.mk (by rw[HTE.o,HV.o];rfl) HB2.o
theorem find_at{α:Type}{p:α->Bool}{l:List α}{j:Nat}(hj:j<l.length)(h:p l[j]=true)(J:∀q (hq:q<l.length),q<j->p l[q]=false):l.find? p=some l[j]:=by
 rw[List.find?_eq_some_iff_getElem];exact⟨h,j,hj,rfl,fun q hq=>by rw[J q za hq];rfl⟩
theorem find_no{α:Type}{p:α->Bool}{l:List α}(J:∀q (hq:q<l.length),p l[q]=false):l.find? p=none:=by
 rw[List.find?_eq_none];intro x hx;obtain⟨i,hi,rfl⟩:=bD hx;rw[J i hi];simp
end Go.Proofs.YtbbchlpccgkikaaGreatDoor
