/- Parts of the proof, joined: Package right: Check of a title (its walk printed by gen_check.py). Pa. -/
import Derived.Test.YtbbchlpccgkikaaGreatDoorSb08
import Derived.Test.YtbbchlpccgkikaaGreatDoorSb09
import Derived.Shelf.Strconv.Atoi
set_option maxRecDepth 100000
set_option maxHeartbeats 8000000
namespace Go.Proofs.YtbbchlpccgkikaaGreatDoor
open Go.RowKit Dw
def Des(w:World)(A:OA)(l:List De):Prop:=
 0<l.length->∃b o:Nat,A=some ⟨b,o,none⟩/\b<w.heap.size/\∀i (h:i<l.length),w.rangeAt b (o+i*16) (deC l[i]).toList/\DeOk w l[i]
theorem Des.below{w w':World}{A:OA}{l:List De}(h:Des w A l)(I:Below w.heap.size w w'):Des w' A l:=fun hl=>by
 obtain⟨b,o,rfl,Y,hc⟩:=h hl;refine⟨b,o,rfl,aB Y I.size,fun i hi=>⟨fun j v hv=>?_,(hc i hi).2.below I⟩⟩
 rw[I.cell Y];exact(hc i hi).1 j v hv
abbrev tiC(RA:OA)(rc:Nat)(V:List Rg)(UA:OA)(O:Nat)(us:List BA)(DA:OA)(dc:Nat)(U:List De):Array Value:=#[.slice RA V.length rc,.slice UA us.length O,.slice DA U.length dc]
def zCj(V:List Rg)(us:List BA)(U:List De)(k:Nat):Option Int:=
 if progF V us (U.take k) (U.getD k default)≠0 then some (progF V us (U.take k) (U.getD k default)) else none
def chkP(V:List Rg)(us:List BA)(U:List De):Int:=
 if zDM V≠0 then zDM V else if us=[] then 9 else if 20<us.length then 2 else
 match (List.range us.length).findSome? (zBg us)with
 |some f=>f
 |none=>if 200<U.length then 2 else match (List.range U.length).findSome? (zCj V us U)with
  |some f=>f
  |none=>0
def chkP2(V:List Rg)(us:List BA)(U:List De):Int:=if 200<U.length then 2 else match (List.range U.length).findSome? (zCj V us U)with
  |some f=>f
  |none=>0
theorem chkP_un{V:List Rg}{us:List BA}{U:List De}{k:Nat}{f:Int}(h0:zDM V=0)(h1:us≠[])(h2:¬20<us.length)(hk:k<us.length)(hp:∀j,j<k->zBg us j=none)(hf:zBg us k=some f):chkP V us U=f:=by
 unfold chkP;rw[aO (fun h=>h h0),aO h1,aO h2,zAN hk hp hf]
theorem chkP_de{V:List Rg}{us:List BA}{U:List De}(h0:zDM V=0)(h1:us≠[])(h2:¬20<us.length)(hp:∀j,j<us.length->zBg us j=none):chkP V us U=chkP2 V us U:=by
 unfold chkP chkP2;rw[aO (fun h=>h h0),aO h1,aO h2,zBi hp]
theorem progF_zero{V:List Rg}{us:List BA}{pre:List De}{d:De}(h:progF V us pre d=0):(1<=d.kd/\d.kd<=5)/\zAx d=false/\pre.any (zCb d.id)=false:=by
 unfold progF at h
 split at h
 ·cases h
 unfold prog1 at h
 split at h
 ·cases h
 unfold prog2 at h
 split at h
 ·cases h
 unfold prog3 at h
 split at h
 ·cases h
 next h3 =>
 unfold prog4 at h
 split at h
 ·cases h
 next h4 =>
 unfold prog5 at h
 split at h
 ·cases h
 next h5 =>
 exact⟨za,by simpa using h5,jk⟩
def UnRel(w:World)(us:List BA)(m:Nat)(i:Value)(wr:World):Prop:=
 ∃k:Nat,k+m=us.length/\i=.int .i64 k/\(∀j,j<k->zBg us j=none)/\Below w.heap.size w wr
def DeRel(w0:World)(ci:Nat)(RA:OA)(rc r1 r2 g1 g2:Nat)(AL:OA)(cL:Nat)(V:List Rg)(UA:OA)(O:Nat)(us:List BA)(m2 m3 m4 B lo hi:Nat)(U:List De)(m:Nat)(i:Value)(wr:World):Prop:=
 ∃(k:Nat)(p:De),k+m=U.length/\i=.int .i64 k/\CS w0 wr ci RA rc r1 r2 g1 g2 AL cL V UA O us m2 m3 m4 B lo hi p (U.take k)/\∀j,j<k->zCj V us U j=none
theorem Check_c(RA:OA)(rc:Nat)(V:List Rg)(UA:OA)(O:Nat)(us:List BA)(DA:OA)(dc:Nat)(U:List De)(w:World)(hr:Rgs w RA V)(hu:Strs w UA us)(hd:Des w DA U)(hz:∀i (h:i<V.length),(V[i]).nm.size<=9223372036854775807)(hz2:∀i (h:i<us.length),(us[i]).size<=9223372036854775807): Calls Tryz.prog 40 #[.agg (tiC RA rc V UA O us DA dc U)] w (zAf (.int .i64 (chkP V us U)) w):=by
 generalize C:chkP V us U=res;have HR:=zq C;clear C;have hbW:Below w.heap.size w (w.alloc (.cells (tiC RA rc V UA O us DA dc U) 26)):=(aR _ _).alloc (aK _) _;have HX:Hid (Bx (w.alloc (.cells (tiC RA rc V UA O us DA dc U) 26)) w.heap.size (tiC RA rc V UA O us DA dc U) 26):=Bx.new _ _ _;obtain⟨W,hW⟩:∃W,W=w.alloc (.cells (tiC RA rc V UA O us DA dc U) 26):=⟨_,rfl⟩;rw[<-hW]at HX hbW;have HB:=zq hbW;have HRG:=zq (hr.below hbW);have HUS:=zq (hu.below hbW);have HDE:=zq (hd.below hbW);clear hbW hr hu hd
 go_enter Tryz.func40,Tryz.ntmps40;(go_wp2_with fail);rw[<-hW];clear hW;have x0:=HX.o.c 0 rfl;have hsz:=HX.o.lt;(go_wp2_with fail);(with_reducible refine(CheckRegions_c RA rc V W HRG.o hz).mono ?_);rintro e w1⟨rfl,hb1⟩;have HB1:=zq (zAa HB.o hb1);have X:=zq (HX.o.below hb1);have HRG1:=zq (HRG.o.below hb1);have HUS1:=zq (HUS.o.below hb1);have HDE1:=zq (HDE.o.below hb1);clear x0 hsz hb1 HB HX HRG HUS HDE hz
 by_cases hcr:zDM V=0
 case neg =>
  have hcb:(zDM V != 0)=true:=by simpa using hcr
  have HS:Hid (res=zDM V):=by
   show _=_
   rw[<-HR.o];unfold chkP;rw[aF hcr]
  clear hcr HR;exact tfr
 have HCR:=zq hcr;have g:=zCi hcr;rw[hcr];clear hcr;have x1:=X.o.c 1 rfl;have hsz:=X.o.lt
 by_cases hu0:us=[]
 ·have hlb:((us.length:Int) == 0)=true:=by rw[hu0];rfl
  have HS:Hid (res=9):=by
   show _=_
   rw[<-HR.o];unfold chkP;rw[aO (fun h=>h HCR.o),aF hu0]
  clear hu0 HR;exact tfr
 have hup:0<us.length:=List.length_pos_iff.2 hu0;have hlb:((us.length:Int) == 0)=false:=by rw[bW];omega
 have HU0:=zq hu0;clear hu0
 by_cases hu20:20<us.length
 ·have HS:Hid (res=2):=by
   show _=_
   rw[<-HR.o];unfold chkP;rw[aO (fun h=>h HCR.o),aO HU0.o,aF hu20]
  have h20:(20:Int)<(us.length:Int):=za;clear hu20 HR;exact tfr
 have h20:¬(20:Int)<(us.length:Int):=za;have HH:Hid (∀k f,k<us.length->(∀j,j<k->zBg us j=none)->zBg us k=some f->res=f):=fun k f hk hp hf=>by rw[<-HR.o];exact chkP_un HCR.o HU0.o hu20 hk hp hf
 have HN:Hid ((∀j,j<us.length->zBg us j=none)->res=chkP2 V us U):=fun hp=>by rw[<-HR.o];exact chkP_de HCR.o HU0.o hu20 hp
 have hul:us.length<=1000000:=za;have HZ2:=zq hz2;clear hu20 HR hz2;obtain⟨b,o,hA,hbu,hcu⟩:=HUS1.o.at_ hup;have HCU:=zq hcu;clear hcu;go_wp2
 go_loopg[27] us.length (UnRel w1 us)
 case atStart=>exact⟨0,za,rfl,fun j hj=>absurd hj za,aR _ _⟩
 case round =>
  obtain⟨k,hkm,rfl,hpre,N⟩:=hrel;have HK:=zq hkm;have HP:=zq hpre;have HBL:=zq N;have HX2:=zq (X.o.below N);have hk1:k<=us.length:=za;have hbr:b<wr.heap.size:=aB hbu N.size;clear hkm hpre N x1 hsz
  by_cases Y:k<us.length
  ·have hc0:wr.cell? ⟨b,o+k,none⟩=some (.string us[k]):=(HBL.o.cell hbu).trans (HCU.o k Y)
   have hzk:=HZ2.o k Y;subst hA;(go_wp2_with fail);(with_reducible refine(zCe us[k] _ hzk).mono ?_);rintro e w2⟨rfl,D⟩;have HBL2:=zq (zAa HBL.o D);have HX3:=zq (HX2.o.below D);clear hc0 D HBL HX2
   cases hnm:zBw us[k]with
   |false =>
    have HS:Hid (res=5):=HH.o k 5 Y HP.o (by unfold zBg;rw[zDw Y,aF hnm]);clear hnm;go_wp2;go_ret
    exact zAf.mk (zBF HS.o.symm) (zAa HB1.o HBL2.o)
   |true =>
    have HNM:=zq hnm;clear hnm;have x1:=HX3.o.c 1 rfl;have hsz:=HX3.o.lt
    by_cases hk0:0<k
    case pos =>
     have zp:w2.cell? ⟨b,o+(k-1),none⟩=some (.string (us[k-1]'(by omega))):=(HBL2.o.cell hbu).trans (HCU.o (k-1) za);have hdk:decide ((0:Int)<(k:Int))=true:=zg
     cases hle:sle us[k] (us[k-1]'(by omega))with
     |true =>
      have HS:Hid (res=8):=HH.o k 8 Y HP.o yx;unfold sle at hle;go_wp2;go_ret
      exact zAf.mk (zBF HS.o.symm) (zAa HB1.o HBL2.o)
     |false =>
      have HF:Hid (zBg us k=none):=by
       exact tcn
      unfold sle at hle;exact tbs
    case neg =>
     have hdk:decide ((0:Int)<(k:Int))=false:=zg
     have HF:Hid (zBg us k=none):=by
      exact td2
     exact tbs
  ·obtain rfl:k=us.length:=by omega
   have HE:Hid (chkP2 V us U=res):=(HN.o HP.o).symm;have x2:=HX2.o.c 2 rfl;have hsz:=HX2.o.lt;have HBW:=zq (zAa HB1.o HBL.o);have HRG2:=zq (HRG1.o.below HBL.o);have HUS2:=zq (HUS1.o.below HBL.o);have HDE2:=zq (HDE1.o.below HBL.o);clear HK HP HN HH HCU HRG1 HUS1 HDE1 X hbr Y hk1 HBL HB1 hbu hA
   by_cases hd200:200<U.length
   ·have HS:Hid (res=2):=by
     show _=_
     rw[<-HE.o];unfold chkP2;rw[aF hd200]
    have h200:(200:Int)<(U.length:Int):=za;clear hd200 HE;go_wp2;go_ret
    exact zAf.mk (zBF HS.o.symm) HBW.o
   have h200:¬(200:Int)<(U.length:Int):=za
   have HH:Hid (∀k f,k<U.length->(∀j,j<k->zCj V us U j=none)->zCj V us U k=some f->res=f):=fun k f hk hp hf=>by
    rw[<-HE.o];unfold chkP2;rw[aO hd200,zAN hk hp hf]
   have HN:Hid ((∀j,j<U.length->zCj V us U j=none)->res=0):=fun hp=>by
    rw[<-HE.o];unfold chkP2;rw[aO hd200,zBi hp]
   have hdl:U.length<=200:=za;clear hd200 HE;obtain⟨w5,hw5⟩:∃w5:World,w5=wr:=⟨_,rfl⟩;subst hw5;(go_wp2_with fail);refine region18 g HX2.o HRG2.o HUS2.o rfl zc zc zc rfl ze ⟨_,_,_,rfl⟩ ⟨_,_,_,rfl⟩ ⟨_,_,_,rfl⟩ ⟨_,_,_,rfl⟩ ⟨_,_,_,rfl⟩ ⟨_,_,_,rfl⟩ ⟨_,_,_,rfl⟩ ⟨_,_,_,rfl⟩ ⟨_,_,_,rfl⟩ ⟨_,_,_,rfl⟩ ⟨_,_,_,rfl⟩ ⟨_,_,_,rfl⟩ zc zc zc zc zc zc zc zc zc zc zc ?_;intro ci r1 r2 g1 g2 AL cL m2 m3 m4 B lo hi vals w3 hcs v0 v1 v2 v3 v4 v5 v6 v7 v8 v9 v10;simp[zAl,Act.put,v0,v1,v2,v3,v4,v5,v6,v7,v8,v9,v10,List.range_succ]
   have HCS:=zq hcs;clear v0 v1 v2 v3 v4 v5 v6 v7 v8 v9 v10 vals x2 hsz hcs;have HX4:=zq (HX2.o.below HCS.o.bel);have x2:=HX4.o.c 2 rfl;have hsz:=HX4.o.lt;go_wp2
   go_loopg[65] U.length (DeRel w5 ci RA rc r1 r2 g1 g2 AL cL V UA O us m2 m3 m4 B lo hi U)
   case atStart=>exact⟨0,zDe,za,rfl,HCS.o,fun j hj=>absurd hj za⟩
   clear HCS HX4 x2 hsz
   case round =>
    obtain⟨k,p,hkm,rfl,hcs,hpre⟩:=hrel;have HK:=zq hkm;have HP:=zq hpre;have HC:=zq hcs;have hk1:k<=U.length:=za;clear hkm hpre hcs
    by_cases Y:k<U.length
    ·obtain⟨b,o,hA,hbu,hcd⟩:=HDE2.o za
     have hdk:=(hcd k Y);have HOK:=zq hdk.2;have hrange0:=hdk.1;clear hdk hcd;obtain⟨d,T⟩:∃d,d=U[k]:=⟨_,rfl⟩;rw[<-T]at HOK hrange0;have hgd:U.getD k default=d:=by rw[T];simp[List.getD,Y]
     have htk:U.take (k+1)=U.take k++[d]:=by rw[T];exact aG Y
     have HGD:=zq hgd;have HTK:=zq htk;have hrange:∀j v,(deC d).toList[j]?=some v->wr.cell? ⟨b,o+k*16+j,none⟩=some v:=fun j v hv=>(HC.o.bel.cell hbu).trans (hrange0 j v hv)
     have HOK2:=zq (HOK.o.below HC.o.bel)
     have hgk:∀q∈U.take k,1<=q.kd:=fun q hq=>by
      obtain⟨j,hj,rfl⟩:=bD hq;rw[bF]at hj;have hjk:j<k:=za;have h1:=HP.o j hjk;unfold zCj at h1
      split at h1
      ·cases h1
      ·next h2 =>
       have h3:=(progF_zero (Decidable.not_not.1 h2)).1.1;rw[bB];have e:U.getD j default=U[j]'(by omega):=by simp[List.getD,show j<U.length by omega]
       rwa [e]at h3
     have HGK:=zq hgk;have HOT:=zq htk;clear hgd htk hgk T HOT HOK hrange0;have c0:wr.cell? ⟨b,o+k*16,none⟩=some (deC d)[0]:=hrange 0 _ rfl;have c1:wr.cell? ⟨b,o+k*16+1,none⟩=some (deC d)[1]:=hrange 1 _ rfl;have c2:wr.cell? ⟨b,o+k*16+2,none⟩=some (deC d)[2]:=hrange 2 _ rfl;have c3:wr.cell? ⟨b,o+k*16+3,none⟩=some (deC d)[3]:=hrange 3 _ rfl;have c4:wr.cell? ⟨b,o+k*16+4,none⟩=some (deC d)[4]:=hrange 4 _ rfl;have c5:wr.cell? ⟨b,o+k*16+5,none⟩=some (deC d)[5]:=hrange 5 _ rfl;have c6:wr.cell? ⟨b,o+k*16+6,none⟩=some (deC d)[6]:=hrange 6 _ rfl;have c7:wr.cell? ⟨b,o+k*16+7,none⟩=some (deC d)[7]:=hrange 7 _ rfl;have c8:wr.cell? ⟨b,o+k*16+8,none⟩=some (deC d)[8]:=hrange 8 _ rfl;have c9:wr.cell? ⟨b,o+k*16+9,none⟩=some (deC d)[9]:=hrange 9 _ rfl;have c10:wr.cell? ⟨b,o+k*16+10,none⟩=some (deC d)[10]:=hrange 10 _ rfl;have c11:wr.cell? ⟨b,o+k*16+11,none⟩=some (deC d)[11]:=hrange 11 _ rfl;have c12:wr.cell? ⟨b,o+k*16+12,none⟩=some (deC d)[12]:=hrange 12 _ rfl;have c13:wr.cell? ⟨b,o+k*16+13,none⟩=some (deC d)[13]:=hrange 13 _ rfl;have c14:wr.cell? ⟨b,o+k*16+14,none⟩=some (deC d)[14]:=hrange 14 _ rfl;have c15:wr.cell? ⟨b,o+k*16+15,none⟩=some (deC d)[15]:=hrange 15 _ rfl;have HC2:=zq (HC.o.below (w':=wr.alloc (.cells (deC d) 126)) ((aR _ _).alloc (aK _) _));have HOK3:=zq (HOK2.o.below (w':=wr.alloc (.cells (deC d) 126)) ((aR _ _).alloc (aK _) _));have HDC:=zq (deed_c w5 ci RA rc r1 r2 g1 g2 AL cL V UA O us m2 m3 m4 B lo hi p (U.take k) d _ g hul HGK.o HC2.o HOK3.o);clear hrange HC;subst hA;(go_wp2_with fail);(with_reducible refine HDC.o.mono ?_);rintro e w6⟨rfl,hb6,hn6⟩;have HB6:=zq (zAa HBW.o hb6);have HN6:=zq hn6;clear c0 c1 c2 c3 c4 c5 c6 c7 c8 c9 c10 c11 c12 c13 c14 c15 hb6 hn6 HC2 HOK2 HOK3 HDC
     by_cases hpz:progF V us (U.take k) d=0
     case neg =>
      have hpb:(progF V us (U.take k) d != 0)=true:=by simpa using hpz
      have HS:Hid (res=progF V us (U.take k) d):=HH.o k _ Y HP.o (by unfold zCj;rw[HGD.o,aF hpz]);clear hpz;go_wp2;go_ret
      exact zAf.mk (zBF HS.o.symm) HB6.o
     have HF:Hid (zCj V us U k=none):=by
      show _=_
      unfold zCj;rw[HGD.o,aO (fun h=>h hpz)]
     have HC6:=zq (HN6.o hpz);rw[hpz];clear hpz HN6;go_wp2
     go_roundg (gk-1)
     case measure=>have:=HK.o;omega
     case rel =>
      refine⟨k+1,d,zh,zi,by rw[HTK.o];exact HC6.o,fun j hj=>?_⟩;exact tgc
    ·obtain rfl:k=U.length:=by omega
     have HS:Hid (res=0):=HN.o HP.o;go_wp2;go_ret
     exact zAf.mk (zBF HS.o.symm) (zAa HBW.o HC.o.bel)
theorem need_fr{d:De}(hk:d.kd=1)(h:zAx d=false):d.fr=emp:=by
 unfold zAx at h;rw[hk]at h;simp[zAg]at h
 exact h.1.1.1.1.1.1
theorem need_th{d:De}(hk:d.kd=5)(h:zAx d=false):d.th=emp:=by
 unfold zAx at h;rw[hk]at h;simp[zAg]at h
 exact h.1.1.1.1.1.1
def Gd(pre:List De):Prop:=(∀q∈pre,(1<=q.kd/\q.kd<=5)/\zAx q=false)/\pre.Pairwise (fun a b=>a.id≠b.id)
theorem kN_cons(a:De)(t:List De)(x:BA):kN (a::t) x=if a.id=x then a.kd else kN t x:=by
 unfold kN
 by_cases h:a.id=x
 ·rw[List.find?_cons_of_pos (by simp[zCb,h]),aF h]
 ·rw[List.find?_cons_of_neg (by simp[zCb,h]),aO h]
theorem kN_any:∀(pre:List De)(x:BA),pre.Pairwise (fun a b=>a.id≠b.id)->zAg (kN pre x)=pre.any fun p=>decide (p.id=x)&&zAg p.kd
 |[],_,_=>rfl
 |a::t,x,h=>by
  rw[List.pairwise_cons]at h;rw[kN_cons,List.any_cons]
  by_cases e:a.id=x
  ·rw[aF e]
   have:(t.any fun p=>decide (p.id=x)&&zAg p.kd)=false:=by
    rw[bC];intro q hq;have:=h.1 q hq;simp
    intro e2;exact absurd (e.trans e2.symm) this
   rw[this];simp[e]
  ·rw[aO e,kN_any t x h.2]
   simp[e]
theorem any_born{pre:List De}{d:De}(hg:∀q∈pre,(1<=q.kd/\q.kd<=5)/\zAx q=false)(hk:d.kd=1)(hd:zAx d=false): (pre.any fun p=>decide (p.kd=d.kd)&&decide (p.th=d.th)&&decide (p.fr=d.fr))=bornB pre d.th:=by
 unfold bornB;rw[hk,need_fr hk hd]
 induction pre with
 |nil=>rfl
 |cons a t ih =>
  rw[List.any_cons,List.any_cons,ih fun q hq=>hg q (by simp[hq])]
  congr 1
  by_cases h:a.kd=1
  ·rw[need_fr h (hg a ze).2];simp
  ·simp[h]
theorem any_gone{pre:List De}{d:De}(hg:∀q∈pre,(1<=q.kd/\q.kd<=5)/\zAx q=false)(hk:d.kd=5)(hd:zAx d=false): (pre.any fun p=>decide (p.kd=d.kd)&&decide (p.th=d.th)&&decide (p.fr=d.fr))=goneB pre d.fr:=by
 unfold goneB;rw[hk,need_th hk hd]
 induction pre with
 |nil=>rfl
 |cons a t ih =>
  rw[List.any_cons,List.any_cons,ih fun q hq=>hg q (by simp[hq])]
  congr 1
  by_cases h:a.kd=5
  ·rw[need_th h (hg a ze).2];simp
  ·simp[h]
theorem progF_chkD{l:List Rg}{us:List BA}{pre:List De}{d:De}(hg:Gd pre):progF l us pre d=zEe l us pre d:=by
 unfold progF zEe
 by_cases h1:zBw d.id=false
 ·rw[aF h1,aF h1]
 rw[aO h1,aO h1];unfold prog1
 by_cases h2:zCm d.day=false
 ·rw[aF h2,aF h2]
 rw[aO h2,aO h2];unfold prog2
 by_cases h3:ordB pre d=false
 ·rw[aF h3,aF h3]
 rw[aO h3,aO h3];unfold prog3;have e4:(pre.any fun p=>decide (p.id=d.id))=pre.any (zCb d.id):=rfl;rw[e4]
 by_cases h4:pre.any (zCb d.id)=true
 ·rw[aF h4,aF h4]
 rw[aO h4,aO h4];unfold prog4
 by_cases h5:d.kd<1\/5<d.kd
 ·rw[aF h5,aF h5]
 rw[aO h5,aO h5];unfold prog5
 by_cases h6:zAx d=true
 ·rw[aF h6,aF h6]
 rw[aO h6,aO h6];have J:zAx d=false:=by simpa using h6
 have hk:d.kd=1\/d.kd=2\/d.kd=3\/d.kd=4\/d.kd=5:=za;unfold prog6 valF;have tw0:d.kd≠1->d.kd≠5->twB pre d=false:=fun a b=>by unfold twB;simp[a,b]
 rcases hk with hk|hk|hk|hk|hk
 ·have hgv:¬zAg d.kd=true:=by rw[hk];decide
  rw[aO hgv,aO (show ¬d.kd=4 by omega),aO hgv,aO (show ¬d.kd=4 by omega)];have ht:twB pre d=bornB pre d.th:=by unfold twB;rw[hk];simp
  unfold divV divF;rw[ht,any_born hg.1 hk J];unfold zCX;have hk5:¬d.kd=5:=za
  by_cases q1:(d.kd=1/\zBw d.th=false)\/(d.kd=5/\zBw d.fr=false)
  ·simp[q1]
  ·rw[aO q1,aO q1]
   by_cases q2:zCm d.bg=false
   ·simp[q2]
   ·by_cases q3:shF d.kd d.sh=0
    ·simp[q2,q3,hk5]
    ·simp[q2,q3]
 ·exact tc3
 ·exact tc3
 ·have hgv:¬zAg d.kd=true:=by rw[hk];decide
  rw[aO hgv,aF hk,aO hgv,aF hk,tw0 za za];have ha:=kN_any pre d.ot hg.2;unfold endV endF;rw[<-ha];have I:endB pre d.ot=pre.any fun p=>decide (p.kd=4)&&decide (p.ot=d.ot):=rfl
  rw[<-I];have hgk:(kN pre d.ot≠2/\kN pre d.ot≠3)↔zAg (kN pre d.ot)=false:=by unfold zAg;simp
  by_cases q2:zCm d.bg=false
  ·simp[q2]
  ·by_cases q3:zAg (kN pre d.ot)=false
   ·have:=hgk.2 q3
    simp[q2,q3,this]
   ·have:¬(kN pre d.ot≠2/\kN pre d.ot≠3):=fun h=>q3 (hgk.1 h)
    rw[aO q2,aO q2,aO this,aO q3]
    cases endB pre d.ot<;>simp
 ·have hgv:¬zAg d.kd=true:=by rw[hk];decide
  rw[aO hgv,aO (show ¬d.kd=4 by omega),aO hgv,aO (show ¬d.kd=4 by omega)];have ht:twB pre d=goneB pre d.fr:=by unfold twB;rw[hk];simp
  unfold divV divF;rw[ht,any_gone hg.1 hk J];unfold zCX
  by_cases q1:(d.kd=1/\zBw d.th=false)\/(d.kd=5/\zBw d.fr=false)
  ·simp[q1]
  ·rw[aO q1,aO q1]
   by_cases q2:zCm d.bg=false
   ·simp[q2]
   ·by_cases q3:shF d.kd d.sh=0
    ·by_cases q4:(d.sh.any fun s=>decide (s.pt=d.fr))=true
     ·exact td1
     ·exact td1
    ·simp[q2,q3]
theorem gd_take{V:List Rg}{us:List BA}{U:List De}:∀(k:Nat),k<=U.length->(∀j,j<k->zCj V us U j=none)->Gd (U.take k)
 |0,_,_=>⟨ze,ze⟩
 |k+1,hk,hp=>by
  have ih:=gd_take k za fun j hj=>hp j za
  have h1:=hp k za;have Y:k<U.length:=za;have hgd:U.getD k default=U[k]:=by simp[List.getD,Y]
  unfold zCj at h1;rw[hgd]at h1
  split at h1
  ·cases h1
  ·next h2 =>
   obtain⟨a,b,c⟩:=progF_zero (Decidable.not_not.1 h2);rw[aG Y];refine⟨fun q hq=>?_,?_⟩
   ·rcases List.mem_append.1 hq with hq|hq
    ·exact ih.1 q hq
    ·rw[List.mem_singleton]at hq
     subst hq;exact⟨a,b⟩
   ·rw[List.pairwise_append]
    refine⟨ih.2,ze,fun x hx y hy=>?_⟩;rw[List.mem_singleton]at hy;subst hy;rw[bC]at c;have:=c x hx
    simpa[zCb]using this
theorem pe_de{V:List Rg}{us:List BA}{U:List De}:∀(n:Nat),n<=U.length->(List.range n).findSome? (zCj V us U)=(List.range n).findSome? (zBZ V us U)
 |0,_=>rfl
 |n+1,J=>by
  rw[eF,List.findSome?_append,List.findSome?_append,pe_de n za]
  cases h:(List.range n).findSome? (zBZ V us U)with
  |some f=>rfl
  |none =>
   have hp:∀j,j<n->zCj V us U j=none:=fun j hj=>by
    have h2:=pe_de (V:=V) (us:=us) (U:=U) n za;rw[h,List.findSome?_eq_none_iff]at h2;exact h2 j (List.mem_range.2 hj)
   have hg:=gd_take n za hp
   have e:zCj V us U n=zBZ V us U n:=by
    unfold zCj zBZ;rw[progF_chkD hg]
   simp[e]
theorem chkP_chkT(V:List Rg)(us:List BA)(U:List De):chkP V us U=zBY V us U:=by
 unfold chkP zBY;rw[pe_de U.length (aK _)]
 rfl
theorem CheckT_c(RA:OA)(rc:Nat)(V:List Rg)(UA:OA)(O:Nat)(us:List BA)(DA:OA)(dc:Nat)(U:List De)(w:World)(hr:Rgs w RA V)(hu:Strs w UA us)(hd:Des w DA U)(hz:∀i (h:i<V.length),(V[i]).nm.size<=9223372036854775807)(hz2:∀i (h:i<us.length),(us[i]).size<=9223372036854775807): Calls Tryz.prog 40 #[.agg (tiC RA rc V UA O us DA dc U)] w (zAf (.int .i64 (zBY V us U)) w):=by
 rw[<-chkP_chkT];exact Check_c RA rc V UA O us DA dc U w hr hu hd hz hz2
end Go.Proofs.YtbbchlpccgkikaaGreatDoor
namespace Go.Proofs.YtbbchlpccgkikaaGreatDoor
open Dw
theorem inc_pair{l:List BA}(h:∀i (h:i+1<l.length),slt l[i] l[i+1]=true):l.Pairwise fun a b=>slt a b=true:=by
 rw[List.pairwise_iff_getElem];intro i j hi hj hij;obtain⟨d,rfl⟩:∃d,j=i+d+1:=⟨j-i-1,za⟩
 induction d with
 |zero=>exact h i hj
 |succ d ih=>exact zDZ (ih za za) (h (i+d+1) hj)
theorem uses_len{us l:List BA}(h:useF us l=0):l.length<=us.length:=by
 unfold useF at h
 split at h
 ·next f hf =>
  exfalso;obtain⟨k,_,hk⟩:=List.exists_of_findSome?_eq_some hf;unfold zAX at hk;exact tgh
 ·next J =>
  rw[List.findSome?_eq_none_iff]at J
  have F:∀i (h:i<l.length),l[i]∈us/\(0<i->sle l[i] (l[i-1]'(by omega))=false):=fun i hi=>by
   have:=J i qz;have e1:usAt l i=l[i]:=by unfold usAt;rw[List.getD_eq_getElem?_getD,List.getElem?_eq_getElem hi];rfl
   have e2:usAt l (i-1)=l[i-1]:=by unfold usAt;rw[List.getD_eq_getElem?_getD,List.getElem?_eq_getElem za];rfl
   unfold zAX at this;rw[e1,e2]at this
   split at this
   ·cases this
   ·next h1 =>
    split at this
    ·cases this
    ·next h2 =>
     refine⟨zBe.1 (by simpa using h1),fun hp=>?_⟩
     cases hs:sle l[i] l[i-1]with
     |false=>rfl
     |true=>exact absurd ⟨hp,hs⟩ h2
  have hp:l.Pairwise fun a b=>slt a b=true:=inc_pair fun i hi=>zBD ((F (i+1) hi).2 za)
  have hnd:l.Nodup:=hp.imp fun h=>zCV h
  exact hnd.length_le_of_subset fun x hx=>by
   obtain⟨i,hi,rfl⟩:=bD hx;exact(F i hi).1
theorem chkA_len{V:List Rg}{a:List Ar}(h:zDl V a=0):a.length<=100:=by
 unfold zDl at h
 split at h
 ·cases h
 ·omega
theorem shF_len{k:Int}{l:List Sh}(h:shF k l=0):l.length<=20:=by
 unfold shF at h
 split at h
 ·cases h
 split at h
 ·cases h
 omega
theorem zDQ{V:List Rg}{us:List BA}{pre:List De}{d:De}(h:zEe V us pre d=0)(hu:us.length<=20):d.ar.length<=100/\d.us.length<=20/\d.sh.length<=20:=by
 unfold zEe at h
 split at h
 ·cases h
 split at h
 ·cases h
 split at h
 ·cases h
 split at h
 ·cases h
 split at h
 ·cases h
 split at h
 ·cases h
 next hnd =>
 simp only[zAx,Bool.not_eq_true,Bool.or_eq_false_iff,Bool.and_eq_false_iff]at hnd;obtain⟨⟨⟨⟨⟨_,_⟩,hau⟩,_⟩,hsh⟩,_⟩:=hnd
 split at h
 ·next hg =>
  unfold giftF at h
  split at h
  ·cases h
  split at h
  ·cases h
  split at h
  ·next h1=>exact absurd h h1
  split at h
  ·next h1=>exact absurd h h1
  next ha =>
  split at h
  ·cases h
  split at h
  ·next h1=>exact absurd h h1
  next hus =>
  have e1:=chkA_len (by simpa using ha);have e2:=uses_len (us:=us) (l:=d.us) (by simpa using hus)
  have e3:d.sh=[]:=by
   rcases hsh with hs|hs
   ·exfalso
    simp only[zAg,Bool.or_eq_true,bX]at hg;simp at hs
    omega
   ·simpa using hs
  rw[e3];exact⟨e1,za,ze⟩
 ·next hg =>
  have e12:d.ar=[]/\d.us=[]:=by
   rcases hau with hs|hs
   ·simp at hs;exact absurd hs hg
   ·simpa using hs
  rw[e12.1,e12.2];refine⟨ze,ze,?_⟩
  split at h
  ·next h4 =>
   have e3:d.sh=[]:=by
    rcases hsh with hs|hs
    ·exfalso
     simp at hs
     omega
    ·simpa using hs
   rw[e3];simp
  ·unfold divF at h
   split at h
   ·cases h
   split at h
   ·cases h
   split at h
   ·next h1=>exact absurd h h1
   next h1=>exact shF_len (by simpa using h1)
theorem zAP{V:List Rg}{us:List BA}{U:List De}(h:zBY V us U=0):us.length<=20/\∀k (hk:k<U.length),zEe V us (U.take k) U[k]=0:=by
 unfold zBY at h
 split at h
 ·next h1=>exact absurd h h1
 split at h
 ·cases h
 split at h
 ·cases h
 next h3 =>
 refine⟨za,fun k hk=>?_⟩
 split at h
 ·next f hf =>
  exact tb8
 ·split at h
  ·cases h
  split at h
  ·next f hf =>
   exfalso;obtain⟨k,_,hk⟩:=List.exists_of_findSome?_eq_some hf;unfold zBZ at hk
   split at hk
   ·next hne=>cases hk;exact hne h
   ·cases hk
  ·next J =>
   rw[List.findSome?_eq_none_iff]at J;have:=J k (by simpa using hk);unfold zBZ at this;rw[List.getD_eq_getElem?_getD,List.getElem?_eq_getElem hk]at this
   split at this
   ·cases this
   ·next h0=>simpa using h0
theorem zBd{V:List Rg}{us:List BA}{U:List De}(h:zBY V us U=0):zDM V=0/\us.length<=20/\U.length<=200:=by
 unfold zBY at h
 split at h
 ·next h1=>exact absurd h h1
 next h1 =>
 split at h
 ·cases h
 split at h
 ·cases h
 next h3 =>
 split at h
 ·next f hf =>
  exact tb8
 ·split at h
  ·cases h
  ·next h4=>exact⟨by simpa using h1,za,za⟩
open Go Go.RowKit Dw
end Go.Proofs.YtbbchlpccgkikaaGreatDoor
namespace Go.Proofs.YtbbchlpccgkikaaGreatDoor
open Go.RowKit Dw
def BT:Nat:=10000
theorem zAR:1<BT:=zd
theorem BT_pos:0<BT:=zd
theorem BT_eq:BT=10000:=rfl
abbrev i64N:Nat->Value:=fun n=>Value.int .i64 (n:Int)
abbrev Lms:=Rd1 i64N
structure Lt (w:World) (A:OA) (c n:Nat):Prop where
 rd:Lms w A (zAc BT n)
 cap:(zAc BT n).length<=c
abbrev lmV(A:OA)(c n:Nat):Value:=.slice A (zAc BT n).length c
theorem Lt.below{w w':World}{A:OA}{c n:Nat}(h:Lt w A c n)(I:Below w.heap.size w w'):Lt w' A c n:=⟨h.rd.below I,h.cap⟩
theorem Lt.drew{w:World}{A:OA}{c n:Nat}(h:Lt w A c n):Lt w.drew A c n:=⟨h.rd.drew,h.cap⟩
theorem Lt.drewN{w:World}{A:OA}{c n:Nat}(h:Lt w A c n)(k:Nat):Lt (w.drewN k) A c n:=⟨h.rd.drewN k,h.cap⟩
def zDa(n:Nat)(w:World)(e:Ending)(w':World):Prop:=∃A c,e=.returned (lmV A c n)/\Lt w' A c n/\Below w.heap.size w w'
abbrev encLm:Nat->List Value:=fun n=>[i64N n]
abbrev OwnI(w:World)(base:Nat)(v:Value)(l:List Nat):Prop:=zAv encLm 1 w base 3 v l
theorem elI:ElemT Tryz.prog 68 3 (.int .i64 0) 1 8:=⟨Tryz.underlying68,zc,rfl,zd⟩
def ArrI(w:World)(g:Nat)(L:List Nat):Prop:=w.heap[g]?=some (.cells (L.map i64N).toArray 3 (0,0))
section
variable {w w':World} {g:Nat} {L:List Nat}
theorem ArrI.lt(h:ArrI w g L):g<w.heap.size:=(Array.getElem?_eq_some_iff.1 h).1
theorem ArrI.cell(h:ArrI w g L)(i:Nat)(hi:i<L.length):w.cell? ⟨g,i,none⟩=some (.int .i64 ((L[i]:Nat):Int)):=by
 rw[bK w g i _ _ _ h];simp[hi]
theorem ArrI.frozen(h:ArrI w g L)(i:Nat):w.frozen? ⟨g,i,none⟩=false:=dO w g i _ _ h
theorem ArrI.set(h:ArrI w g L)(i x:Nat):ArrI (w.setCell ⟨g,i,none⟩ (.int .i64 (x:Int))) g (L.set i x):=by
 have h1:(w.setCell ⟨g,i,none⟩ (.int .i64 (x:Int))).heap[g]?=some (.cells ((L.map i64N).toArray.setIfInBounds i (.int .i64 (x:Int))) 3 (0,0)):=by
  unfold ArrI at h;simp[World.setCell,Array.getElem?_modify,h]
 unfold ArrI;rw[h1,dP,List.map_set]
theorem ArrI.rd(h:ArrI w g L):Lms w (some ⟨g,0,none⟩) L:=fun _=>⟨g,0,rfl,fun i hi=>by
 rw[cO,h.cell i hi]⟩
theorem ArrI.below(h:ArrI w g L)(I:Below w.heap.size w w'):ArrI w' g L:=(I.block g h.lt).trans h
theorem ArrI.drewN(h:ArrI w g L)(n:Nat):ArrI (w.drewN n) g L:=h
theorem ArrI.new(w:World)(n:Nat):ArrI (w.alloc (.cells (Array.replicate n (.int .i64 0)) 3)) w.heap.size (List.replicate n 0):=by
 unfold ArrI;rw[aJ]
 congr 2
 apply Array.toList_inj.1
 simp
end
theorem mk_ints(n:Nat)(h:n<=1000000000)(w:World):(Instr.makeSlice 68 (.int .i64 (n:Int)) (.int .i64 (n:Int))).run Tryz.prog w=.ok (.slice (some ⟨w.heap.size,0,none⟩) n n) (w.alloc (.cells (Array.replicate n (.int .i64 0)) 3)):=
 run_makeN1 _ _ elI n za za rfl w
def TrimLRel(w:World)(L:List Nat)(m:Nat)(i:Value)(wr:World):Prop:=
 wr=w/\∃k:Nat,k=m/\k<=L.length/\i=.int .i64 k/\zBz (L.take k)=zBz L
theorem trimL_c(A:OA)(c:Nat)(L:List Nat)(w:World)(J:L.length<=1000000000)(hc:L.length<=c)(h:Lms w A L): Calls Tryz.prog 239 #[.slice A L.length c] w (zAG (.slice A (zBz L).length c) w):=by
 go_enter Tryz.func239,Tryz.ntmps239;go_wp2
 go_loopg[3] L.length (TrimLRel w L)
 case atStart=>exact⟨rfl,L.length,rfl,aK _,rfl,by rw[aN]⟩
 case round =>
  obtain⟨hw,k,hm,hk,rfl,ht⟩:=hrel;subst hw;have HM:=zq hm;have HT:=zq ht;clear hm ht
  rcases bI k with h0|h0
  ·subst h0
   go_wp2;go_ret
   refine zAG.mk ?_ rfl;rw[<-HT.o];rfl
  ·obtain⟨j,rfl⟩:∃j,k=j+1:=⟨k-1,za⟩
   obtain⟨b,o,rfl,I,hcl⟩:=h.at_ za;have hj:j<L.length:=za;have hc0:=hcl j hj;clear hcl
   by_cases hz:L[j]=0
   ·have HZ:=zq hz
    rw[hz]at hc0;clear hz;go_wp2
    go_roundg (gk-1)
    case measure=>have:=HM.o;omega
    case rel=>exact⟨rfl,j,yg,za,zi,by rw[<-HT.o,wtrim_take_zero hj HZ.o]⟩
   ·exact tbo
theorem Lms.trim{w:World}{A:OA}{L:List Nat}(h:Lms w A L):Lms w A (zBz L):=by
 exact tbi
theorem trimL_n(A:OA)(c:Nat)(L:List Nat)(w w0:World)(J:L.length<=1000000000)(hc:L.length<=c)(h:Lms w A L)(hl:WLt BT L)(I:Below w0.heap.size w0 w){n:Nat}(hv:K BT L=n): Calls Tryz.prog 239 #[.slice A L.length c] w (zDa n w0):=by
 have e:zBz L=zAc BT n:=by rw[zCs zAR hl,hv]
 refine(trimL_c A c L w J hc h).mono ?_;rintro _ _⟨rfl,rfl⟩;refine⟨A,c,by rw[e],⟨?_,?_⟩,I⟩
 ·rw[<-e];exact h.trim
 ·rw[<-e];have:=wtrim_len L;omega
theorem trimL_x(A:OA)(c:Nat)(L:List Nat)(w:World)(J:L.length<=1000000000)(hc:L.length<=c)(h:Lms w A L)(hl:WLt BT L){n:Nat}(hv:K BT L=n): Calls Tryz.prog 239 #[.slice A L.length c] w (zAG (lmV A c n) w)/\Lt w A c n:=by
 have e:zBz L=zAc BT n:=by rw[zCs zAR hl,hv]
 refine⟨?_,?_,?_⟩
 ·have:=trimL_c A c L w J hc h
  rw[e]at this;exact this
 ·rw[<-e];exact h.trim
 ·rw[<-e];have:=wtrim_len L;omega
theorem lms_set{w:World}{A:OA}{l:List Nat}(h:Lms w A l){g i:Nat}(hg:∀b o,A=some ⟨b,o,none⟩->b≠g)(u:Value):Lms (w.setCell ⟨g,i,none⟩ u) A l:=fun hl=>by
 obtain⟨b,o,rfl,hc⟩:=h hl;refine⟨b,o,rfl,fun j hj=>?_⟩;rw[World.cell?_of_block (w:=w) (dQ w ⟨g,i,none⟩ u b (hg b o rfl))];exact hc j hj
theorem own_capI{w:World}{base:Nat}{A:OA}{n c:Nat}{l:List Nat}(h:OwnI w base (.slice A n c) l):l.length<=c/\n=l.length:=by
 rcases h.2 with ⟨e,J⟩|⟨g,cap,cur,e,I,hgg,hnc,_,hsz,htake⟩
 ·injection e with _ e2 e3
  omega
 ·injection e with _ e2 e3
  subst e3;exact⟨za,e2⟩
def CmpLRel(w:World)(l r:List Nat)(m:Nat)(i:Value)(wr:World):Prop:=
 (∃n,wr=w.drewN n)/\m<=l.length/\(∃z:Int,z=(m:Int)-1/\i=.int .i64 z)/\l.drop m=r.drop m
theorem cmpL_l(A Z:OA)(c c2:Nat)(l r:List Nat)(w:World)(h:Lms w A l)(h2:Lms w Z r)(hl:WLt BT l)(hr:WLt BT r)(J:l.length<=1000000000)(he:l.length=r.length): Calls Tryz.prog 184 #[.slice A l.length c,.slice Z l.length c2] w (zBI (.int .i64 (zDj (K BT l) (K BT r))) w):=by
 have HE:=zq he;clear he
 go_enter Tryz.func184,Tryz.ntmps184;go_wp2
 go_loopg[5] l.length (CmpLRel w l r)
 case atStart=>exact⟨⟨0,rfl⟩,aK _,⟨_,rfl,zi⟩,by rw[bL (aK _),bL (by rw[HE.o];omega)]⟩
 case round =>
  obtain⟨⟨nd,hw⟩,hk,⟨z,hz,rfl⟩,hd⟩:=hrel;subst hw;have HD:=zq hd;clear hd
  rcases bI gk with h0|h0
  ·exact tc1
  ·obtain⟨j,rfl⟩:∃j,gk=j+1:=⟨gk-1,za⟩
   obtain rfl:z=(j:Int):=za;clear hz;have hjr:j<r.length:=by have:=HE.o;omega
   obtain⟨b,o,rfl,I,hcl⟩:=h.at_ za;obtain⟨b2,o2,rfl,D,hcl2⟩:=h2.at_ za;have hc0:=hcl j za;have hc1:=hcl2 j hjr;clear hcl hcl2
   by_cases Y:l[j]<r[j]
   ·have hltb:decide (l[j]<r[j])=true:=aD Y
    have HQ:=zq Y;clear Y;go_wp2;go_quiet(fail);go_wp2;go_ret
    refine zBI.mk ?_ (by rw[World.drewN_drewN];exact⟨_,rfl⟩);rw[zBJ (wval_lt_of hl HE.o za hjr HD.o HQ.o)]
    rfl
   have hltb:decide (l[j]<r[j])=false:=aE Y
   by_cases hgt:r[j]<l[j]
   ·have hgtb:decide (r[j]<l[j])=true:=aD hgt
    have HQ:=zq hgt;clear Y hgt;exact tbw
   have hgtb:decide (r[j]<l[j])=false:=aE hgt;have HQ:Hid (l[j]=r[j]):=by show _=_;omega
   clear Y hgt;go_wp2;go_quiet(fail);go_wp2;go_quiet(fail);go_wp2
   go_roundg j
   case measure=>omega
   case rel =>
    refine⟨⟨_,rfl⟩,za,⟨_,rfl,zi⟩,?_⟩
    exact tel
theorem cmpL_len(A Z:OA)(c c2 n m:Nat)(w:World)(hne:n≠m): Calls Tryz.prog 184 #[.slice A n c,.slice Z m c2] w (zBI (.int .i64 (zDj n m)) w):=by
 have hnb:((n:Int) != (m:Int))=true:=zg
 rcases aI n m with Y|hge
 ·have hltb:decide (n<m)=true:=aD Y
  have hv:zDj n m=-1:=zBJ Y;exact tdh
 ·have hltb:decide (n<m)=false:=aE za
  have hv:zDj n m=1:=zBS za;exact tdh
theorem cmpL_c(A Z:OA)(c c2 a b:Nat)(w:World)(h:Lms w A (zAc BT a))(h2:Lms w Z (zAc BT b))(J:(zAc BT a).length<=1000000000): Calls Tryz.prog 184 #[lmV A c a,lmV Z c2 b] w (zBI (.int .i64 (zDj a b)) w):=by
 by_cases he:(zAc BT a).length=(zAc BT b).length
 ·have:=cmpL_l A Z c c2 (zAc BT a) (zAc BT b) w h h2 (zAJ zAR a) (zAJ zAR b) J he
  rw[zAm zAR,zAm zAR]at this;unfold lmV;rw[<-he];exact this
 ·have:=cmpL_len A Z c c2 _ _ w he
  have e:zDj (zAc BT a).length (zAc BT b).length=zDj a b:=by
   rcases aI (zAc BT a).length (zAc BT b).length with h1|h1
   ·rw[zBJ h1,zBJ (lt_of_len zAR h1)]
   ·rw[zBS za,zBS (lt_of_len zAR za)]
  rw[e]at this;exact this
theorem words_full{L:List Nat}(hl:WLt BT L)(h:L=[]\/BT^(L.length-1)<=K BT L):zAc BT (K BT L)=L:=by
 rw[<-zCs zAR hl]
 rcases h with rfl|h
 ·rfl
 ·rcases bI L.length with h0|h0
  ·rw[List.length_eq_zero_iff.1 h0];rfl
  have h1:=zBu zAR (K BT L);rw[<-zCs zAR hl]at h1;have h2:L.length-1<(zBz L).length:=(Nat.pow_lt_pow_iff_right zAR).1 (cY h h1);rw[wtrim_prefix L,bT za]
theorem own_slice'{w:World}{base:Nat}{v:Value}{l:List Nat}(h:OwnI w base v l):∃A c,v=.slice A l.length c:=by
 obtain⟨A,c,he,_⟩:=zAv.rd1 h;exact⟨A,c,he⟩
theorem own_lms{w:World}{base n c:Nat}{A:OA}{l:List Nat}(h:OwnI w base (.slice A n c) l):Lms w A l:=by
 obtain⟨A',c',he,hr⟩:=zAv.rd1 h
 injection he with h1 _ _
 subst h1;exact hr
def AddLRel(w:World)(l r:List Nat)(m:Nat)(v cy i:Value)(wr:World):Prop:=
 ∃(k c:Nat)(out:List Nat),k+m=max l.length r.length/\i=.int .i64 k/\cy=.int .i64 (c:Int)/\c<=1/\out.length=k/\WLt BT out/\K BT out+BT^k*c=K BT (l.take k)+K BT (r.take k)/\OwnI wr w.heap.size v out/\Below w.heap.size w wr
theorem addL_c(A Z:OA)(c c2 a b:Nat)(w:World)(h:Lms w A (zAc BT a))(h2:Lms w Z (zAc BT b))(J:(zAc BT a).length<=400000000)(hn2:(zAc BT b).length<=400000000): Calls Tryz.prog 183 #[lmV A c a,lmV Z c2 b] w (zDa (a+b) w):=by
 obtain⟨l,hl⟩:∃l,l=zAc BT a:=⟨_,rfl⟩;obtain⟨r,hr⟩:∃r,r=zAc BT b:=⟨_,rfl⟩;unfold lmV;rw[<-hl]at h J ⊢;rw[<-hr]at h2 hn2 ⊢;have hlw:WLt BT l:=by rw[hl];exact zAJ zAR a
 have hrw:WLt BT r:=by rw[hr];exact zAJ zAR b
 have HL:=zq hl;have HR:=zq hr;clear hl hr
 go_enter Tryz.func183,Tryz.ntmps183;go_wp2
 go_loopg[5,6,7] (max l.length r.length) (AddLRel w l r)
 case atStart=>exact⟨0,0,[],za,rfl,rfl,za,rfl,WLt.nil,qu,zAv.nil _ _ _ _ _,aR _ _⟩
 case round =>
  obtain⟨k,cy,out,hm,rfl,rfl,hcy,hol,how,hv,hown,hbw⟩:=hrel;have HM:=zq hm;have HO:=zq hol;have HV:=zq hv;have HB:=zq hbw;have HW:=zq how;clear hm hv hbw how;have hok:out.length<=400000000:=yg
  by_cases h1:k<l.length
  ·obtain⟨q,o,rfl,I,hcl⟩:=h.at_ za
   have hc0:=(HB.o.cell I).trans (hcl k h1);clear hcl;have hx:l[k]<10000:=hlw.get k h1
   by_cases h3:k<r.length
   ·obtain⟨q2,o2,rfl,D,hcl2⟩:=h2.at_ za
    have hc1:=(HB.o.cell D).trans (hcl2 k h3);clear hcl2;have hy:r[k]<10000:=hrw.get k h3;obtain⟨T,hT⟩:∃T,T=cy+l[k]+r[k]:=⟨_,rfl⟩;have hTe:(cy:Int)+(l[k]:Int)+(r[k]:Int)=(T:Int):=by rw[hT];omega
    have hTB:T<20000:=za;have HT:Hid (T=cy+l[k]+r[k]):=by show _=_;omega
    have HA:Hid (K BT (l.take (k+1))=K BT (l.take k)+BT^k*l[k]):=zAE h1;exact taj
   ·have h3i:¬((k:Int)<(r.length:Int)):=by omega
    obtain⟨T,hT⟩:∃T,T=cy+l[k]:=⟨_,rfl⟩;have hTe:(cy:Int)+(l[k]:Int)=(T:Int):=by rw[hT];omega
    have hTB:T<20000:=za;have HT:Hid (T=cy+l[k]+0):=by show _=_;omega
    have HA:Hid (K BT (l.take (k+1))=K BT (l.take k)+BT^k*l[k]):=zAE h1;have HC:Hid (K BT (r.take (k+1))=K BT (r.take k)+BT^k*0):=zx;exact tfx
  ·have h1i:¬((k:Int)<(l.length:Int)):=by omega
   by_cases h3:k<r.length
   ·obtain⟨q2,o2,rfl,D,hcl2⟩:=h2.at_ za
    have hc1:=(HB.o.cell D).trans (hcl2 k h3);clear hcl2;have hy:r[k]<10000:=hrw.get k h3;obtain⟨T,hT⟩:∃T,T=cy+r[k]:=⟨_,rfl⟩;have hTe:(cy:Int)+(r[k]:Int)=(T:Int):=by rw[hT];omega
    have hTB:T<20000:=za;have HT:Hid (T=cy+0+r[k]):=by show _=_;omega
    have HA:Hid (K BT (l.take (k+1))=K BT (l.take k)+BT^k*0):=zx;exact taj
   ·have h3i:¬((k:Int)<(r.length:Int)):=by omega
    have HV2:Hid (K BT out+BT^out.length*cy=a+b):=by
     show _=_
     have e:=HV.o;rw[bT za,bT za,HL.o,HR.o,zAm zAR,zAm zAR]at e;rw[hol];exact e
    have HMX:Hid (out=[]\/BT^(out.length-1)<=a+b):=by
     rcases bI k with h0|h0
     ·exact .inl (List.length_eq_zero_iff.1 za)
     ·refine .inr ?_
      have hk:k=max l.length r.length:=yg;rw[hol]
      rcases Nat.le_total l.length r.length with h4|h4
      ·have e:=wval_ge (B:=BT) (l:=r) za (by rw[bA HR.o];simpa[HR.o]using zCw zAR (n:=b) (by rw[<-HR.o];omega))
       rw[HR.o,zAm zAR,<-HR.o,show r.length=k by omega]at e;omega
      ·have e:=wval_ge (B:=BT) (l:=l) za (by rw[bA HL.o];simpa[HL.o]using zCw zAR (n:=a) (by rw[<-HL.o];omega))
       rw[HL.o,zAm zAR,<-HL.o,show l.length=k by omega]at e;omega
    rcases bI cy with h0|h0
    ·subst h0
     have HE:Hid (zAc BT (a+b)=out):=by
      show _=_
      have e:=HV2.o;rw[dG,dT]at e;rw[<-e] ;refine words_full HW.o ?_;rw[e];exact HMX.o
     obtain⟨A9,c9,rfl⟩:=own_slice' hown;go_wp2;go_ret
     exact⟨A9,c9,by unfold lmV;rw[HE.o,hol];rfl,⟨by rw[HE.o];exact own_lms hown,by rw[HE.o];exact(own_capI hown).1⟩,HB.o⟩
    ·obtain rfl:cy=1:=by omega
     go_wp2_with (at_builtin;refine zBl _ _ _ elI rfl rfl w.heap.size _ out rfl (zAv.alloc hown _) wr.heap.size 1 1 rfl (aJ _ _) rfl zr zn za qy ?_;intro A7 c7 w7 P hg7 hb7 hat7)
     have hb8:=(HB.o.alloc HB.o.size _).trans hb7
     have HE:Hid (zAc BT (a+b)=out++[1]):=by
      show _=_
      have e:=HV2.o;have hw2:WLt BT (out++[1]):=HW.o.append (WLt.cons zd WLt.nil);have e2:K BT (out++[1])=a+b:=by rw[zBh,zCp];exact e
      rw[<-e2,<-zCs zAR hw2];exact wtrim_ne zd out
     go_wp2;go_ret
     have hcap:=own_capI P;exact⟨A7,c7,by unfold lmV;rw[HE.o,eA,hol];rfl,⟨by rw[HE.o];exact own_lms P,by rw[HE.o];exact hcap.1⟩,hb8⟩
theorem sub_colN{k o R L c t y x d:Nat}(h:o+R=L+BT^k*c)(hs:t+c+y=x+BT*d):(o+BT^k*t)+(R+BT^k*y)=(L+BT^k*x)+BT^(k+1)*d:=by
 have e:=bE (BT^k*·) hs;simp only[cU]at e;rw[cT,cW];omega
def LessLRel(w:World)(l r:List Nat)(m:Nat)(v cy i:Value)(wr:World):Prop:=
 ∃(k c:Nat)(out:List Nat),k+m=l.length/\i=.int .i64 k/\cy=.int .i64 (c:Int)/\c<=1/\out.length=k/\WLt BT out/\K BT out+K BT (r.take k)=K BT (l.take k)+BT^k*c/\OwnI wr w.heap.size v out/\Below w.heap.size w wr
theorem lessL_c(A Z:OA)(c c2 a b:Nat)(w:World)(h:Lms w A (zAc BT a))(h2:Lms w Z (zAc BT b))(J:(zAc BT a).length<=400000000)(hle:b<=a): Calls Tryz.prog 185 #[lmV A c a,lmV Z c2 b] w (zDa (a-b) w):=by
 obtain⟨l,hl⟩:∃l,l=zAc BT a:=⟨_,rfl⟩;obtain⟨r,hr⟩:∃r,r=zAc BT b:=⟨_,rfl⟩;have hrl:r.length<=l.length:=by rw[hl,hr];exact zAw zAR hle
 unfold lmV;rw[<-hl]at h J ⊢;rw[<-hr]at h2 ⊢;have hlw:WLt BT l:=by rw[hl];exact zAJ zAR a
 have hrw:WLt BT r:=by rw[hr];exact zAJ zAR b
 have HL:=zq hl;have HR:=zq hr;have HLE:=zq hle;clear hl hr hle
 go_enter Tryz.func185,Tryz.ntmps185;go_wp2
 go_loopg[5,6,7] l.length (LessLRel w l r)
 case atStart=>exact⟨0,0,[],za,rfl,rfl,za,rfl,WLt.nil,qu,zAv.nil _ _ _ _ _,aR _ _⟩
 case round =>
  obtain⟨k,cy,out,hm,rfl,rfl,hcy,hol,how,hv,hown,hbw⟩:=hrel;have HM:=zq hm;have HO:=zq hol;have HV:=zq hv;have HB:=zq hbw;have HW:=zq how;clear hm hv hbw how;have hok:out.length<=400000000:=yg
  by_cases h1:k<l.length
  ·obtain⟨q,o,rfl,I,hcl⟩:=h.at_ za
   have hc0:=(HB.o.cell I).trans (hcl k h1);clear hcl;have hx:l[k]<10000:=hlw.get k h1
   by_cases h3:k<r.length
   ·obtain⟨q2,o2,rfl,D,hcl2⟩:=h2.at_ za
    have hc1:=(HB.o.cell D).trans (hcl2 k h3);clear hcl2;have hy:r[k]<10000:=hrw.get k h3;obtain⟨z,hz⟩:∃z:Int,z=(l[k]:Int)-(cy:Int)-(r[k]:Int):=⟨_,rfl⟩;have hTe:(l[k]:Int)-(cy:Int)-(r[k]:Int)=z:=hz.symm;have hz1 : -10002<=z/\z<=10000:=za
    by_cases hneg:z<0
    ·obtain⟨T,hT⟩:∃T:Nat,z+10000=(T:Int):=⟨(z+10000).toNat,za⟩
     have HT:Hid (T+cy+r[k]=l[k]+BT*1):=by show _=_;rw[BT_eq];omega
     have hTB:T<10000:=za;have HA:Hid (K BT (l.take (k+1))=K BT (l.take k)+BT^k*l[k]):=zAE h1;have HC:Hid (K BT (r.take (k+1))=K BT (r.take k)+BT^k*r[k]):=zAE h3;exact tal
    ·obtain⟨T,hT⟩:∃T:Nat,z=(T:Int):=⟨z.toNat,za⟩
     have HT:Hid (T+cy+r[k]=l[k]+BT*0):=by show _=_;rw[BT_eq];omega
     have hTB:T<10000:=za;have HA:Hid (K BT (l.take (k+1))=K BT (l.take k)+BT^k*l[k]):=zAE h1;have HC:Hid (K BT (r.take (k+1))=K BT (r.take k)+BT^k*r[k]):=zAE h3;exact tak
   ·have h3i:¬((k:Int)<(r.length:Int)):=by omega
    obtain⟨z,hz⟩:∃z:Int,z=(l[k]:Int)-(cy:Int):=⟨_,rfl⟩;have hTe:(l[k]:Int)-(cy:Int)=z:=hz.symm;have hz1 : -10002<=z/\z<=10000:=za
    by_cases hneg:z<0
    ·obtain⟨T,hT⟩:∃T:Nat,z+10000=(T:Int):=⟨(z+10000).toNat,za⟩
     have HT:Hid (T+cy+0=l[k]+BT*1):=by show _=_;rw[BT_eq];omega
     have hTB:T<10000:=za;have HA:Hid (K BT (l.take (k+1))=K BT (l.take k)+BT^k*l[k]):=zAE h1;have HC:Hid (K BT (r.take (k+1))=K BT (r.take k)+BT^k*0):=zx;exact tal
    ·obtain⟨T,hT⟩:∃T:Nat,z=(T:Int):=⟨z.toNat,za⟩
     have HT:Hid (T+cy+0=l[k]+BT*0):=by show _=_;rw[BT_eq];omega
     have hTB:T<10000:=za;have HA:Hid (K BT (l.take (k+1))=K BT (l.take k)+BT^k*l[k]):=zAE h1;have HC:Hid (K BT (r.take (k+1))=K BT (r.take k)+BT^k*0):=zx;exact tak
  ·have h1i:¬((k:Int)<(l.length:Int)):=by omega
   have HV2:Hid (K BT out=a-b):=by
    show _=_
    have e:=HV.o;rw[bT za,bT za,HL.o,HR.o,zAm zAR,zAm zAR]at e;have h4:=zDd HW.o;rw[hol]at h4;have h5:=HLE.o
    rcases bI cy with h0|h0
    ·subst h0
     rw[dG]at e;omega
    ·obtain rfl:cy=1:=by omega
     rw[dK]at e;omega
   obtain⟨A9,c9,rfl⟩:=own_slice' hown;have HT:=zq (trimL_n A9 c9 out wr w za (own_capI hown).1 (own_lms hown) HW.o HB.o HV2.o);rw[hol]at HT;exact tb2
def MulLRel(w:World)(g:Nat)(l r:List Nat)(m:Nat)(iv:Value)(wr:World):Prop:=
 ∃(k:Nat)(L:List Nat),k+m=l.length/\iv=.int .i64 k/\ArrI wr g L/\L.length=l.length+r.length/\WLt BT L/\K BT L=K BT (l.take k)*K BT r /\
  (∀x (h:x<L.length),k+r.length<=x->L[x]=0)/\Below w.heap.size w wr/\w.heap.size<=g
def MulLRel2(w:World)(g:Nat)(l r:List Nat)(k x:Nat)(m:Nat)(cv jv:Value)(wr:World):Prop:=
 ∃(j cy:Nat)(L:List Nat),j+m=r.length/\jv=.int .i64 j/\cv=.int .i64 (cy:Int)/\cy<=9999/\ArrI wr g L/\L.length=l.length+r.length/\WLt BT L /\
  K BT L+BT^(k+j)*cy=K BT (l.take k)*K BT r+BT^k*(x*K BT (r.take j))/\(∀x (h:x<L.length),k+r.length<=x->L[x]=0)/\Below w.heap.size w wr/\w.heap.size<=g
theorem MulLRel2.step{w wr:World}{g:Nat}{l r L:List Nat}{k x j cy gk t:Nat}(hkm:j+gk=r.length)(Y:j<r.length)(hk:k<l.length)(hcy:cy<=9999)(hx:x<=9999)(hA:ArrI wr g L)(hL:L.length=l.length+r.length)(hr:WLt BT r)(hLt:WLt BT L)(hV:K BT L+BT^(k+j)*cy=K BT (l.take k)*K BT r+BT^k*(x*K BT (r.take j)))(hZ:∀x (h:x<L.length),k+r.length<=x->L[x]=0)(hbw:Below w.heap.size w wr)(hwg:w.heap.size<=g)(ht:t=cy+(x*r[j]+L[k+j])){cv iv mv:Value}(hc:cv=.int .i64 ((t/10000:Nat):Int))(hi:iv=.int .i64 ((j:Int)+1))(hm:mv=.int .i64 ((t%10000:Nat):Int)): MulLRel2 w g l r k x (gk-1) cv iv (wr.setCell ⟨g,k+j,none⟩ mv):=by
 subst hc hi hm;have hy:r[j]<=9999:=by have:=hr.get j Y;rw[BT_eq]at this;omega
 have hz:L[k+j]<=9999:=by have:=hLt.get (k+j) za;rw[BT_eq]at this;omega
 have hxy:x*r[j]<=9999*9999:=dU hx hy;refine⟨j+1,t/10000,L.set (k+j) (t%10000),za,zi,rfl,by rw[ht];generalize x*r[j]=p at *;omega,hA.set (k+j) _,by simpa using hL,hLt.set (show t%10000<BT from bR t BT_pos) _,?_,fun i hi hki=>?_,hbw.setCell hwg _,hwg⟩
 ·have e1:=zEs BT L (k+j) (t%10000) za
  rw[zAE Y]
  have e2:BT^(k+j)*(t%10000)+BT^(k+(j+1))*(t/10000)=BT^(k+j)*t:=by
   rw[show k+(j+1)=(k+j)+1 by omega,cT,cW,<-cU,BT_eq,dB]
  have e3:BT^(k+j)*t=BT^(k+j)*cy+BT^(k+j)*(x*r[j])+BT^(k+j)*L[k+j]:=by
   rw[ht,cU,cU,Nat.add_assoc]
  have e4:BT^k*(x*(K BT (r.take j)+BT^j*r[j]))=BT^k*(x*K BT (r.take j))+BT^(k+j)*(x*r[j]):=by
   rw[cU,cU,dV,Nat.mul_left_comm x,cW]
  rw[e4];omega
 ·exact ter
theorem MulLRel.next{w wr:World}{g:Nat}{l r L:List Nat}{k cy gk:Nat}(hkm:k+1+gk=l.length)(Y:k<l.length)(hcy:cy<=9999)(hA:ArrI wr g L)(hL:L.length=l.length+r.length)(hLt:WLt BT L)(hV:K BT L+BT^(k+r.length)*cy=K BT (l.take k)*K BT r+BT^k*(l[k]*K BT (r.take r.length)))(hZ:∀x (h:x<L.length),k+r.length<=x->L[x]=0)(hbw:Below w.heap.size w wr)(hwg:w.heap.size<=g){iv mv:Value}(hi:iv=.int .i64 ((k:Int)+1))(hm:mv=.int .i64 (cy:Int)): MulLRel w g l r gk iv (wr.setCell ⟨g,k+r.length,none⟩ mv):=by
 subst hi hm;refine⟨k+1,L.set (k+r.length) cy,za,zi,hA.set _ _,by simpa using hL,hLt.set jf _,?_,fun i hi hki=>?_,hbw.setCell hwg _,hwg⟩
 ·have e1:=zEs BT L (k+r.length) cy za
  rw[hZ (k+r.length) za (aK _)]at e1;rw[bT (aK _)]at hV;rw[zAE Y,cX,cW (BT^k)];omega
 ·exact ter
theorem timesL_c(A Z:OA)(c c2:Nat)(a b:Nat)(w:World)(h:Lms w A (zAc BT a))(h2:Lms w Z (zAc BT b))(J:(zAc BT a).length<=400000000)(hm:(zAc BT b).length<=400000000): Calls Tryz.prog 181 #[lmV A c a,lmV Z c2 b] w (zDa (a*b) w):=by
 have hmk:∀w:World,(Instr.makeSlice 68 (.int .i64 (((zAc BT a).length:Int)+((zAc BT b).length:Int))) (.int .i64 (((zAc BT a).length:Int)+((zAc BT b).length:Int)))).run Tryz.prog w =
   .ok (.slice (some ⟨w.heap.size,0,none⟩) ((zAc BT a).length+(zAc BT b).length) ((zAc BT a).length+(zAc BT b).length)) (w.alloc (.cells (Array.replicate ((zAc BT a).length+(zAc BT b).length) (.int .i64 0)) 3)):=
  mk_ints ((zAc BT a).length+(zAc BT b).length) za
 unfold lmV
 go_enter Tryz.func181,Tryz.ntmps181;go_wp2;clear hmk;have S:=ArrI.new w ((zAc BT a).length+(zAc BT b).length);have N:Below w.heap.size w (w.alloc (.cells (Array.replicate ((zAc BT a).length+(zAc BT b).length) (.int .i64 0)) 3)):=(aR _ _).alloc (aK _) _;obtain⟨g,hg⟩:∃g,g=w.heap.size:=⟨_,rfl⟩;rw[<-hg]at S;obtain⟨w1,hw1⟩:∃w1,w1=w.alloc (.cells (Array.replicate ((zAc BT a).length+(zAc BT b).length) (.int .i64 0)) 3):=⟨_,rfl⟩;rw[<-hw1]at S N;rw[<-hg,<-hw1];have HG:=zq hg;have HB:=zq N;clear hg N hw1;have hl:=zAJ zAR a;have hr:=zAJ zAR b;have HVA:=zq (zAm zAR a);have HVB:=zq (zAm zAR b);generalize zAc BT a=l at *;generalize zAc BT b=r at *
 go_loopg[6] l.length (MulLRel w g l r)
 case atStart=>exact⟨0,List.replicate (l.length+r.length) 0,za,rfl,S,ze,WLt.zeros BT_pos _,by rw[wval_zeros];simp[K],fun x hx _=>ze,HB.o,yo⟩
 case round =>
  obtain⟨k,L,hkm,rfl,hA,hL,hLt,hV,hZ,hbw,hwg⟩:=hrel;have HM:=zq hkm;have HV:=zq hV;have HZ:=zq hZ;have HL:=zq hL;clear hkm hV hZ hL
  by_cases Y:k<l.length
  ·have hx:l[k]<10000:=hl.get k Y
   go_wp2;obtain⟨wo,hwo⟩:∃wo:World,wo=wr:=⟨_,rfl⟩;subst hwo
   go_loopg[7,8] r.length (MulLRel2 w g l r k l[k])
   case atStart=>exact⟨0,0,L,za,rfl,rfl,za,hA,HL.o,hLt,by rw[HV.o];simp[K],HZ.o,hbw,hwg⟩
   case round =>
    clear hA hbw;obtain⟨j,cy,L2,hjm,rfl,rfl,hcy,hA2,hL2,hLt2,hV2,hZ2,hbw2,hwg2⟩:=hrel;have HM2:=zq hjm;have HV2:=zq hV2;have HZ2:=zq hZ2;have HL2:=zq hL2;clear hjm hV2 hZ2 hL2
    by_cases hj:j<r.length
    ·obtain⟨b1,o1,hA0,hb1,hcl⟩:=(h.below hbw2).at_ za
     subst hA0;have hc0:=hcl k Y;obtain⟨b2,o2,hA02,D,hcl2⟩:=(h2.below hbw2).at_ za;subst hA02;have hc2:=hcl2 j hj;have hy:r[j]<10000:=hr.get j hj;have hkj:k+j<L2.length:=by have:=HL2.o;omega
     have hz:L2[k+j]<10000:=hLt2.get (k+j) hkj;have hc1:=hA2.cell (k+j) hkj;have hf1:=hA2.frozen (k+j);have hsz:=hA2.lt;obtain⟨p,hp⟩:∃p,p=l[k]*r[j]:=⟨_,rfl⟩;have hpB:p<=9999*9999:=by rw[hp];exact dU za za
     have hpe:(l[k]:Int)*(r[j]:Int)=(p:Int):=by rw[hp];exact(bN _ _).symm
     obtain⟨T,hT⟩:∃T,T=cy+(p+L2[k+j]):=⟨_,rfl⟩;have hTe:(L2[k+j]:Int)+(p:Int)+(cy:Int)=(T:Int):=by rw[hT];omega
     have hTB:T<=99999999:=za;have HT:Hid (T=cy+(l[k]*r[j]+L2[k+j])):=by show _=_;rw[hT,hp]
     clear hcl hcl2 hT hp;go_wp2;go_quiet(fail);go_wp2
     go_roundg (gk-1)
     case measure=>have:=HM2.o;omega
     case rel=>exact MulLRel2.step (wr:=wr.drewN _) HM2.o hj Y hcy za (hA2.drewN _) HL2.o hr hLt2 HV2.o HZ2.o (zAb hbw2 _) hwg2 HT.o ze rfl ze
    ·obtain rfl:j=r.length:=by have:=HM2.o;omega
     have hkj:k+r.length<L2.length:=by have:=HL2.o;omega
     have hc1:=hA2.cell (k+r.length) hkj;rw[HZ2.o _ hkj (aK _)]at hc1;have hf1:=hA2.frozen (k+r.length);have hsz:=hA2.lt;go_wp2
     go_roundg (l.length-k-1)
     case measure=>have:=HM.o;omega
     case rel=>exact MulLRel.next yg Y hcy hA2 HL2.o hLt2 HV2.o HZ2.o hbw2 hwg2 rfl ze
  ·obtain rfl:k=l.length:=by have:=HM.o;omega
   go_wp2_with fail
   have HT:Hid (K BT L=a*b):=by
    show K BT L=_
    have:=HV.o
    rwa [bT (aK _),HVA.o,HVB.o]at this
   have hl2:=HL.o;rw[<-hl2];(with_reducible refine(trimL_n _ _ L _ w za (aK _) hA.rd hLt hbw HT.o).mono ?_);rintro e w' ⟨A,c,rfl,J,I⟩;clear hl2;go_wp2;go_ret
   exact⟨A,c,rfl,J,I⟩
theorem lms_one(w:World)(n:Nat):Lms (w.alloc (.cells #[.int .i64 (n:Int)] 3)) (some ⟨w.heap.size,0,none⟩) [n]:=fun _=>⟨w.heap.size,0,rfl,fun i hi=>by
 have:i=0:=by simp at hi;omega
 subst this;rw[bK _ w.heap.size _ _ _ _ (aJ _ _)];rfl⟩
theorem smallL_c(A:OA)(c a n:Nat)(w:World)(h:Lms w A (zAc BT a))(J:(zAc BT a).length<=400000000)(hm:n<=9999): Calls Tryz.prog 286 #[lmV A c a,.int .i64 (n:Int)] w (zDa (a*n) w):=by
 have I:Below w.heap.size w (w.alloc (.cells #[.int .i64 (n:Int)] 3)):=(aR _ _).alloc (aK _) _
 have HT:Hid (Calls Tryz.prog 239 #[.slice (some ⟨w.heap.size,0,none⟩) 1 1] (w.alloc (.cells #[.int .i64 (n:Int)] 3)) (zDa n w)):=
  trimL_n (some ⟨w.heap.size,0,none⟩) 1 [n] (w.alloc (.cells #[.int .i64 (n:Int)] 3)) w ze ze (lms_one w n) (WLt.cons jf WLt.nil) I (n:=n) (zCp BT n)
 go_enter Tryz.func286,Tryz.ntmps286;(go_wp2_with fail);(with_reducible refine HT.o.mono ?_);rintro e w1⟨A1,c1,rfl,h1,hb1⟩
 have hl1:(zAc BT n).length<=400000000:=by
  have:=zBa zAR (a:=n) (k:=1) jf;omega
 clear HT I;(go_wp2_with fail);(with_reducible refine(timesL_c A A1 c c1 a n w1 (h.below hb1) h1.rd J hl1).mono ?_);rintro e w2⟨Z,c2,rfl,h2,D⟩;have HB:=zq (zAa hb1 D);clear hb1 D;go_wp2;go_ret
 exact⟨Z,c2,rfl,h2,HB.o⟩
end Go.Proofs.YtbbchlpccgkikaaGreatDoor
namespace Dw
open Go Go.RowKit
def RdK{α:Type}(enc:α->List Value)(w:World)(A:OA)(l:List α):Prop:=
 0<l.length->∃b o:Nat,A=some ⟨b,o,none⟩/\∀j v,(l.flatMap enc)[j]?=some v->w.cell? ⟨b,o+j,none⟩=some v
theorem flat_cells{α:Type}{enc:α->List Value}{k:Nat}(hk:∀x,(enc x).length=k){w:World}{b:Nat}:∀(l:List α)(o:Nat), (∀i (h:i<l.length) c v,(enc l[i])[c]?=some v->w.cell? ⟨b,o+i*k+c,none⟩=some v)->∀j v,(l.flatMap enc)[j]?=some v->w.cell? ⟨b,o+j,none⟩=some v
 |[],_,_,j,v,h=>by simp at h
 |a::t,o,hc,j,v,h=>by
  rw[cP]at h
  by_cases hj:j<k
  ·rw[List.getElem?_append_left (by rw[hk];exact hj)]at h
   have:=hc 0 ze j v h
   simpa using this
  ·rw[List.getElem?_append_right (by rw[hk];omega),hk]at h
   have:=flat_cells hk t (o+k) (fun i hi c u hu=>by
    have h2:=hc (i+1) zg c u (by simpa using hu)
    rwa [show o+(i+1)*k+c=o+k+i*k+c by rw[cX];omega]at h2) (j-k) v h
   rwa [show o+k+(j-k)=o+j by omega]at this
theorem flat_len{α:Type}{enc:α->List Value}{k:Nat}(hk:∀x,(enc x).length=k):∀(l:List α),(l.flatMap enc).length=l.length*k
 |[]=>ze
 |a::t=>by rw[cP,eA,hk,flat_len hk t,bM,cX];omega
theorem flat_at{α:Type}{enc:α->List Value}{k:Nat}(hk:∀x,(enc x).length=k):∀(l:List α)(i:Nat)(h:i<l.length)(c:Nat),c<k->(l.flatMap enc)[i*k+c]?=(enc l[i])[c]?
 |[],i,h,_,_=>by simp at h
 |a::t,0,_,c,hc=>by
  rw[cP,List.getElem?_append_left (by rw[hk];omega)];simp
 |a::t,i+1,h,c,hc=>by
  rw[cP,List.getElem?_append_right (by rw[hk,cX];omega),hk,show(i+1)*k+c-k=i*k+c by rw[cX];omega,flat_at hk t i zu c hc];simp
theorem addN(b o j:Nat):(⟨b,o,none⟩:Addr).add j=⟨b,o+j,none⟩:=by unfold Addr.add;split<;>simp_all
theorem zDG{P:Program}{α:Type}{enc:α->List Value}{k:Nat}(hk:∀x,(enc x).length=k)(hf:∀x,∀u∈enc x,u.oneCell'=true){G:Array Oper}{rest:List Oper}{o:Oper}{a:Act}{w:World}{Q:Exit->Act->World->Prop}{e:TypeId}{z:Value}{bytes:Nat}(s x:Operand)(t:TypeId)(hT:ElemT P t e z k bytes)(hgd:o.guard=none)(ho:o.op=.call { callee:=.builtin .append,args:=#[s,x],argTypes:=#[t,t] })
  (base:Nat) (v:Value) (l:List α) (hs:a.eval s=v) (hown:zAv enc k w base e v l)
  (A:OA) (m cp:Nat) (ys:List α) (hm:m=ys.length) (hx:a.eval x=.slice A m cp) (hr:RdK enc w A ys) (hA:A≠none\/ys=[])
  (hlen:l.length+ys.length<=maxLen) (hbytes:(l.length+ys.length)*bytes<=140737488355328) (hbase:base<=w.heap.size)
  (h:∀v' w',zAv enc k w' base e v' (l++ys)->w.grownBy w' v.ownBlock->Below base w w'->(v'.ownBlock=v.ownBlock\/v'.ownBlock=some w.heap.size)->wpList P G Q rest (a.put o.dst v') w'):wpList P G Q (o::rest) a w:=by
 obtain⟨i,hi,hz0,hz1,hz2⟩:=info_parts hT.info;subst hm
 have hfin:∀v' w',w'.ownsRow base e k v' (l.length+ys.length) (l.flatMap enc++ys.flatMap enc)->zAv enc k w' base e v' (l++ys):=fun v' w' h1=>by
  unfold zAv;rw[eA,List.flatMap_append];exact h1
 have N:∀w',w.grownBy w' v.ownBlock->Below base w w':=fun w' hg=>(aR _ _).grown hg hbase fun j hj=>(cQ hown j hj).1
 cases A with
 |none =>
  have hy:ys=[]:=hA.resolve_left (fun h=>h rfl);subst hy;refine wpList_plain hgd fun _ hK=>?_
  have hrun:(Builtin.append_ #[t,t] o.type #[v,.slice none 0 cp]).run P w=.ok v w:=by
   rcases hown.2 with ⟨rfl,_⟩|⟨g,cap,cur,rfl,_,_,hnc,_⟩
   ·simp[Builtin.append_,run_underlying hT.ty,Go.sizeOf,typeInfo,hi,Builtin.lenOf,Builtin.firstCells]
   ·simp[Builtin.append_,run_underlying hT.ty,Go.sizeOf,typeInfo,hi,Builtin.lenOf,Builtin.firstCells,hnc,storeCells]
  exact tba
 |some ad =>
  refine wpList_append_own_at _ hgd s x t ho base e i z k bytes hT.ty hi hz0 hz1 hz2 hT.zs hT.pos v l.length _ hs hown ad ys.length cp (ys.flatMap enc) hx (flat_len hk ys) ?_ ?_ hlen hbytes hbase ?_
  ·intro j u hj
   have hjl:0<ys.length:=by
    refine Nat.pos_of_ne_zero fun e=>?_
    rw[eB e]at hj;simp at hj
   obtain⟨b,o,h1,hc⟩:=hr hjl
   injection h1 with h1
   subst h1;rw[addN];exact hc j u hj
  ·intro u hu
   obtain⟨y,_,hy⟩:=List.mem_flatMap.1 hu;exact hf y u hy
  ·intro v' w' h1 h2 _ h4
   exact h v' w' (hfin v' w' h1) h2 (N w' h2) h4
theorem zAv.rdk{α:Type}{enc:α->List Value}{k:Nat}{w:World}{base:Nat}{e:TypeId}{v:Value}{l:List α}(h:zAv enc k w base e v l):∃A c,v=.slice A l.length c/\RdK enc w A l:=by
 rcases h.2 with ⟨rfl,J⟩|⟨g,cap,cur,rfl,I,hgg,hnc,_,hsz,htake⟩
 ·exact⟨none,0,by rw[J],fun hl=>za⟩
 ·refine⟨_,_,rfl,fun _=>⟨g,0,rfl,fun j v hv=>?_⟩⟩
  rw[<-htake,List.getElem?_take]at hv
  split at hv
  ·rw[cO,bK w g j _ _ _ hgg]
   simpa using hv
  ·cases hv
section
variable {w:World} {A:OA}
theorem RdK.of1{α:Type}{f:α->Value}{l:List α}(h:Rd1 f w A l):RdK (fun x=>[f x]) w A l:=fun hl=>by
 obtain⟨b,o,rfl,hc⟩:=h hl;refine⟨b,o,rfl,flat_cells (k:=1) (fun _=>rfl) l o fun i hi c v hv=>?_⟩
 match c,hv with
 |0,hv=>simp at hv;subst hv;rw[dK,dT];exact hc i hi
end
end Dw
namespace Go.Proofs.YtbbchlpccgkikaaGreatDoor
open Go.RowKit Dw
theorem own_one(w:World)(base n:Nat)(I:base<=w.heap.size):OwnI (w.alloc (.cells #[.int .i64 (n:Int)] 3)) base (.slice (some ⟨w.heap.size,0,none⟩) 1 1) [n]:=
 ⟨rfl,.inr ⟨w.heap.size,1,_,rfl,I,aJ _ _,aK _,zn,rfl,rfl⟩⟩
theorem cmpN_le{a b:Nat}(h:a<=b):decide (zDj a b<=0)=true:=by
 rcases aI a b with h1|h1
 ·rw[zBJ h1];rfl
 ·rw[zCL za];rfl
theorem cmpN_nle{a b:Nat}(h:¬a<=b):decide (zDj a b<=0)=false:=by rw[zBS za];rfl
def DivLRel(w:World)(g:Nat)(l:List Nat)(b:Nat)(m:Nat)(rv iv:Value)(wr:World):Prop:=
 ∃(L:List Nat)(R:Nat)(A:OA)(c:Nat)(z:Int),m<=l.length/\z=(m:Int)-1/\iv=.int .i64 z/\rv=lmV A c R/\Lt wr A c R/\ArrI wr g L/\L.length=l.length/\WLt BT L /\
  R=K BT (l.drop m)%b/\K BT (L.drop m)=K BT (l.drop m)/b/\Below w.heap.size w wr/\w.heap.size<=g
def BsRel(w:World)(q:Nat)(m:Nat)(lv hv:Value)(wr:World):Prop:=
 ∃lo hi:Nat,lv=.int .i64 (lo:Int)/\hv=.int .i64 (hi:Int)/\lo<=q/\q<=hi/\hi<=9999/\hi=lo+m/\Below w.heap.size w wr
theorem lms_some{w:World}{A:OA}{l:List Nat}(h:Lms w A l):A≠none\/l=[]:=by
 rcases bI l.length with h0|h0
 ·exact .inr (List.length_eq_zero_iff.1 h0)
 ·obtain⟨b,o,rfl,_⟩:=h h0
  exact .inl ze
theorem divL_c(A Z:OA)(c c2 a b:Nat)(w:World)(h:Lms w A (zAc BT a))(h2:Lms w Z (zAc BT b))(J:(zAc BT a).length<=200000000)(hm:(zAc BT b).length<=200000000)(hb0:0<b): Calls Tryz.prog 241 #[lmV A c a,lmV Z c2 b] w (fun e w'=>∃A3 c3 A4 c4,e=.returned (.tuple #[lmV A3 c3 (a/b),lmV A4 c4 (a%b)])/\Lt w' A3 c3 (a/b)/\Lt w' A4 c4 (a%b)/\Below w.heap.size w w'):=by
 have hmk:∀w:World,(Instr.makeSlice 68 (.int .i64 (((zAc BT a).length:Nat):Int)) (.int .i64 (((zAc BT a).length:Nat):Int))).run Tryz.prog w =
   .ok (.slice (some ⟨w.heap.size,0,none⟩) (zAc BT a).length (zAc BT a).length) (w.alloc (.cells (Array.replicate (zAc BT a).length (.int .i64 0)) 3)):=
  mk_ints (zAc BT a).length za
 obtain⟨l,hl⟩:∃l,l=zAc BT a:=⟨_,rfl⟩;have ea:lmV A c a=.slice A l.length c:=by rw[hl]
 rw[ea];rw[<-hl]at h J hmk;have hlw:WLt BT l:=by rw[hl];exact zAJ zAR a
 have HL:Hid (K BT l=a):=by show _=_;rw[hl];exact zAm zAR a
 clear hl ea
 go_enter Tryz.func241,Tryz.ntmps241;go_wp2;clear hmk;have S:=ArrI.new w l.length;have N:Below w.heap.size w (w.alloc (.cells (Array.replicate l.length (.int .i64 0)) 3)):=(aR _ _).alloc (aK _) _;obtain⟨g,hg⟩:∃g,g=w.heap.size:=⟨_,rfl⟩;rw[<-hg]at S;obtain⟨w1,hw1⟩:∃w1,w1=w.alloc (.cells (Array.replicate l.length (.int .i64 0)) 3):=⟨_,rfl⟩;rw[<-hw1]at S N;rw[<-hg,<-hw1];have HG:=zq hg;have HB:=zq N;clear hg N hw1
 go_loopg[7,8] l.length (DivLRel w g l b)
 case atStart =>
  refine⟨List.replicate l.length 0,0,none,0,(l.length:Int)-1,aK _,rfl,zi,rfl,⟨Rd1.nil,cZ _⟩,S,ze,WLt.zeros BT_pos _,?_,?_,HB.o,yo⟩
  ·rw[bL (aK _)];simp[K]
  ·rw[bL (aK _),bL ze];simp[K]
 case round =>
  obtain⟨L,R,A3,c3,z,hml,hz,rfl,rfl,hR,hA,hLl,hLw,hRv,hLv,hbw,hwg⟩:=hrel;have HRV:=zq hRv;have HLV:=zq hLv;have HLL:=zq hLl;have HRB:Hid (R<b):=by show R<b;rw[hRv];exact bR _ hb0
  have hRl:(zAc BT R).length<=200000000:=by have:=zAw zAR (dD HRB.o);omega
  clear hRv hLv hLl
  rcases bI gk with h0|h0
  ·subst h0
   obtain rfl:z=-1:=hz;have e1:K BT L=a/b:=by have:=HLV.o;rwa [aX,aX,HL.o]at this
   have e2:R=a%b:=by have:=HRV.o;rwa [aX,HL.o]at this
   have HE2:=zq e2;have hll:=HLL.o;have HT:=zq (trimL_n (some ⟨g,0,none⟩) l.length L wr wr za za hA.rd hLw (aR _ _) e1);rw[hll]at HT;clear e1 e2 hll;(go_wp2_with fail);(with_reducible refine HT.o.mono ?_);rintro e w2⟨A5,c5,rfl,h5,hb5⟩;have HB5:=zq (zAa hbw hb5);have HR5:=zq (hR.below hb5);have H5:=zq h5;clear hb5 h5 HT hbw hR;go_wp2;go_ret2
   refine⟨A5,c5,A3,c3,?_,H5.o,?_,HB5.o⟩
   ·rw[<-HE2.o];rfl
   ·rw[<-HE2.o];exact HR5.o
  ·obtain⟨j,rfl⟩:∃j,gk=j+1:=⟨gk-1,za⟩
   obtain rfl:z=(j:Int):=za;clear hz;have hj:j<l.length:=za;obtain⟨q0,o0,hA0,hq0,hcl⟩:=(h.below hbw).at_ za;subst hA0;have hc0:=hcl j hj;have hx:l[j]<10000:=hlw.get j hj;clear hcl;obtain⟨V,hV⟩:∃V,V=l[j]+BT*R:=⟨_,rfl⟩;have HVL:Hid (V<b*BT):=by show V<b*BT;rw[hV];exact next_lt HRB.o (by rw[BT_eq];exact hx)
   obtain⟨q,hq⟩:∃q,q=V/b:=⟨_,rfl⟩
   have hq9:q<=9999:=by
    have:=quot_lt (B:=BT) (u:=V) (v:=b) HVL.o;rw[<-hq,BT_eq]at this;omega
   have HV:=zq hV;have HQ:=zq hq;clear hV hq
   go_wp2_with (at_builtin;refine zDG (k:=1) (enc:=encLm) (fun _=>rfl) (fun _ _ h=>by simp at h;subst h;rfl) _ _ _ elI rfl rfl wr.heap.size _ [l[j]] rfl (own_one wr wr.heap.size l[j] (aK _)) A3 _ c3 (zAc BT R) rfl rfl (RdK.of1 (Rd1.alloc hR.rd _)) (lms_some hR.rd) jl zg ze ?_;intro v7 w7 P hg7 hb7 _)
   have hb8:=((aR wr.heap.size wr).alloc (aK _) (.cells #[.int .i64 ((l[j]:Nat):Int)] 3)).trans hb7;obtain⟨A7,c7,rfl⟩:=own_slice' P;have hcap:=own_capI P;have hT2:=trimL_x A7 c7 ([l[j]]++zAc BT R) w7 zg hcap.1 (own_lms P) (WLt.append (WLt.cons (by rw[BT_eq];exact hx) WLt.nil) (zAJ zAR R)) (n:=V) (by rw[zBh,zCp,zAm zAR,HV.o];simp);have HT:=zq hT2.1;have H8:=zq hT2.2;have hgs:=hA.lt
   have HAN:Hid (∀x o,A7=some ⟨x,o,none⟩->x≠g):=fun x o e=>by
    have h1:=(cQ P x (by rw[e];rfl)).1;omega
   have hlen7:([l[j]]++zAc BT R).length=1+(zAc BT R).length:=zg;clear P hg7 hb7 hc0 hcap hT2 hgs;(go_wp2_with fail);(with_reducible refine HT.o.mono ?_);rintro e w7⟨rfl,rfl⟩;clear HT hlen7;have HBW7:=zq (zAa hbw hb8);have HA7:=zq (hA.below hb8)
   have hVl:(zAc BT V).length<=200000001:=by
    have h9:V<BT^((zAc BT b).length+1):=by
     refine aB HVL.o ?_;rw[cT];exact cC _ (dD (zBu zAR b))
    have:=zBa zAR h9;omega
   clear hb8 hA hR hbw;go_wp2
   go_loopg[10,11] 9999 (BsRel w7 q)
   case atStart=>exact⟨0,9999,rfl,rfl,za,hq9,za,za,aR _ _⟩
   case round =>
    obtain⟨lo,hi,rfl,rfl,hlo,hhi,hh9,hlh,hbs⟩:=hrel;have HBS:=zq hbs;have HLH:=zq hlh;clear hbs hlh
    by_cases Y:lo<hi
    ·obtain⟨md,hmd⟩:∃md,md=(lo+hi+1)/2:=⟨_,rfl⟩
     have hmdi:((lo:Int)+(hi:Int)+1)/2=(md:Int):=by rw[hmd];omega
     have hm9:md<=9999:=za;have hm1:lo<md/\md<=hi:=za;have HMD:=zq hmd;clear hmd;(go_wp2_with fail);(with_reducible refine(smallL_c Z c2 b md wr ((h2.below HBW7.o).below HBS.o) za hm9).mono ?_);rintro e w9⟨A9,c9,rfl,h9,hb9⟩;have HBS9:=zq (zAa HBS.o hb9)
     have hl9:(zAc BT (b*md)).length<=1000000000:=by
      have h10:b*md<BT^((zAc BT b).length+1):=by
       have e1:=zBu zAR b;have e2:b*md<=b*BT:=dC _ jf;have e3:b*BT<BT^(zAc BT b).length*BT:=dY e1 BT_pos;rw[cT];omega
      have:=zBa zAR h10;omega
     have H9:=zq h9;clear hb9 h9;(go_wp2_with fail);(with_reducible refine(cmpL_c A9 A7 c9 c7 (b*md) V w9 H9.o.rd (H8.o.rd.below HBS9.o) hl9).mono ?_);rintro e w10⟨rfl,nd,rfl⟩;clear hl9 H9
     by_cases hc:b*md<=V
     ·have hcb:=cmpN_le hc
      have hmq:md<=q:=by rw[HQ.o];exact(Nat.le_div_iff_mul_le hb0).2 (by rw[cV];exact hc)
      clear hc;go_wp2
      go_roundg (hi-md)
      case measure=>have:=HLH.o;omega
      case rel=>exact⟨md,hi,rfl,rfl,hmq,hhi,hh9,za,zAb HBS9.o _⟩
     ·have hcb:=cmpN_nle hc
      have hmq:q<md:=by rw[HQ.o];exact(Nat.div_lt_iff_lt_mul hb0).2 (by rw[cV];omega)
      clear hc;go_wp2
      go_roundg (md-1-lo)
      case measure=>have:=HLH.o;omega
      case rel=>exact⟨lo,md-1,rfl,zi,hlo,za,za,za,zAb HBS9.o _⟩
    ·obtain rfl:lo=q:=by omega
     have HA:=zq (HA7.o.below HBS.o);have hcg:=HA.o.cell j (by have:=HLL.o;omega);have hfg:=HA.o.frozen j;have hsg:=HA.o.lt;have hll:=HLL.o;have HBV:=zq (zAa HBW7.o HBS.o);have HBE:=zq (HBV.o.setCell (p:=⟨g,j,none⟩) hwg (.int .i64 (lo:Int)));have HAE:=zq (HA.o.set j lo);have HVE:Hid (Lms (wr.setCell ⟨g,j,none⟩ (.int .i64 (lo:Int))) A7 (zAc BT V)):=lms_set (H8.o.rd.below HBS.o) HAN.o _;have hlV:b*lo<=V:=by rw[HQ.o];exact Nat.mul_div_le V b
     have HLV2:=zq hlV;clear hhi hh9 HLH hlV;obtain⟨wS,hwS⟩:∃wS,wS=wr.setCell ⟨g,j,none⟩ (.int .i64 (lo:Int)):=⟨_,rfl⟩;rw[<-hwS]at HBE HAE HVE;(go_wp2_with fail);rw[<-hwS];clear hcg hfg hsg hll hwS Y;(with_reducible refine(smallL_c Z c2 b lo wS (h2.below HBE.o) za hq9).mono ?_);rintro e w9⟨A9,c9,rfl,h9,hb9⟩;have H9:=zq h9;have HB9:=zq hb9;clear h9 hb9;(go_wp2_with fail);(with_reducible refine(lessL_c A7 A9 c7 c9 V (b*lo) w9 (HVE.o.below HB9.o) H9.o.rd za HLV2.o).mono ?_);rintro e w10⟨A10,c10,rfl,h10,hb10⟩;have HBX:=zq (zAa HB9.o hb10);have H10:=zq h10;clear h10 hb10 H9 HB9;go_wp2
     go_roundg j
     case measure=>omega
     case rel =>
      have e1:=zCD (B:=BT) hj;have e2:=div_next (B:=BT) (r:=R) (v:=b) (x:=l[j]) hb0 (K BT (L.drop (j+1)))
      have e3:K BT (l.drop (j+1))=K BT (L.drop (j+1))*b+R:=by
       rw[HLV.o,HRV.o,cV];exact(Nat.div_add_mod _ _).symm
      rw[<-e3,<-e1,<-HV.o]at e2;have hjL:j<L.length:=by have:=HLL.o;omega
      refine⟨L.set j lo,V-b*lo,A10,c10,_,za,rfl,zi,rfl,H10.o,HAE.o.below HBX.o,by rw[aM];exact HLL.o,hLw.set jf j,?_,?_,zAa HBE.o HBX.o,hwg⟩
      ·rw[e2.2]
       have:=Nat.div_add_mod V b;rw[<-HQ.o]at this;omega
      ·rw[zEg L j lo hjL,e2.1]
       show lo+BT*_=_
       rw[<-HQ.o];omega
def ComRel(w:World)(a b:Nat)(m:Nat)(v0 v1:Value)(wr:World):Prop:=
 ∃(x y:Nat)(A:OA)(c:Nat)(Z:OA)(c2:Nat),y=m/\v0=lmV A c x/\v1=lmV Z c2 y/\Lt wr A c x/\Lt wr Z c2 y/\Nat.gcd x y=Nat.gcd a b/\(zAc BT x).length<=200000000/\(zAc BT y).length<=200000000/\Below w.heap.size w wr
theorem commonL_c(A Z:OA)(c c2 a b:Nat)(w:World)(h:Lt w A c a)(h2:Lt w Z c2 b)(J:(zAc BT a).length<=200000000)(hm:(zAc BT b).length<=200000000): Calls Tryz.prog 240 #[lmV A c a,lmV Z c2 b] w (zDa (Nat.gcd a b) w):=by
 go_enter Tryz.func240,Tryz.ntmps240;go_wp2
 go_loopg[0,1] b (ComRel w a b)
 case atStart=>exact⟨a,b,A,c,Z,c2,rfl,rfl,rfl,h,h2,rfl,J,hm,aR _ _⟩
 case round =>
  obtain⟨x,y,A3,c3,A4,c4,hy,rfl,rfl,h3,h4,hg,hl1,hl2,hbw⟩:=hrel;have HG:=zq hg;have HB:=zq hbw;have HY:=zq hy;clear hg hbw hy
  rcases bI y with h0|h0
  ·subst h0
   have hz:(zAc BT 0).length=0:=rfl;have HGE:Hid (x=Nat.gcd a b):=by show _=_;rw[<-HG.o,Nat.gcd_zero_right]
   unfold lmV;rw[hz];go_wp2;go_ret
   exact⟨A3,c3,by rw[<-HGE.o];rfl,by rw[<-HGE.o];exact h3,HB.o⟩
  ·have hp:0<(zAc BT y).length:=by
    refine Nat.pos_of_ne_zero fun e=>?_
    have:=(zCC zAR (n:=y)).1 (eB e);omega
   have hr:(zAc BT (x%y)).length<=200000000:=by have:=zAw zAR (dD (bR x h0));omega
   (go_wp2_with fail);(with_reducible refine(divL_c A3 A4 c3 c4 x y wr h3.rd h4.rd hl1 hl2 h0).mono ?_);rintro e w2⟨A5,c5,A6,c6,rfl,h5,h6,D⟩;have HB2:=zq (zAa HB.o D);have H4:=zq (h4.below D);have H6:=zq h6;clear D h5 h6 h3 h4 hp;go_wp2
   go_roundg (x%y)
   case measure=>have:=bR x h0;have:=HY.o;omega
   case rel=>exact⟨y,x%y,A4,c4,A6,c6,rfl,rfl,rfl,H4.o,H6.o,by rw[<-HG.o];exact gcd_step.symm,hl2,hr,HB2.o⟩
end Go.Proofs.YtbbchlpccgkikaaGreatDoor
namespace Go.Proofs
open Go.Shelf
def Tryz.lays172_ren:Go.Shelf.Ren:=⟨fun|172=>242|244=>287|245=>288|247=>314|279=>315|280=>316|281=>317|282=>318|287=>334|316=>335|171=>284|205=>336|321=>342|322=>343|243=>307|246=>330|283=>289|284=>290|285=>291|286=>292|129=>218|317=>319|318=>320|319=>321|320=>322|337=>337|338=>338|n=>n,fun|9=>9|3=>3|75=>314|76=>315|4=>4|5=>5|167=>367|37=>217|0=>0|85=>368|2=>2|168=>370|53=>253|175=>390|46=>248|210=>394|127=>389|145=>402|143=>400|21=>21|171=>347|173=>349|212=>375|51=>254|20=>20|213=>376|232=>403|233=>404|80=>236|n=>n,fun|15=>4|16=>5|17=>1|18=>6|19=>7|n=>n⟩
theorem Tryz.lays172:Go.Proofs.Lays.n172 Tryz.prog Tryz.lays172_ren:={
 mixed:=zc
 f129:=Tryz.func218.trans (bE some zc)
 f171:=Tryz.func284.trans (bE some zc)
 f172:=Tryz.func242.trans (bE some zc)
 f205:=Tryz.func336.trans (bE some zc)
 f243:=Tryz.func307.trans (bE some zc)
 f244:=Tryz.func287.trans (bE some zc)
 f245:=Tryz.func288.trans (bE some zc)
 f246:=Tryz.func330.trans (bE some zc)
 f247:=Tryz.func314.trans (bE some zc)
 f279:=Tryz.func315.trans (bE some zc)
 f280:=Tryz.func316.trans (bE some zc)
 f281:=Tryz.func317.trans (bE some zc)
 f282:=Tryz.func318.trans (bE some zc)
 f283:=Tryz.func289.trans (bE some zc)
 f284:=Tryz.func290.trans (bE some zc)
 f285:=Tryz.func291.trans (bE some zc)
 f286:=Tryz.func292.trans (bE some zc)
 f287:=Tryz.func334.trans (bE some zc)
 f316:=Tryz.func335.trans (bE some zc)
 f317:=Tryz.func319.trans (bE some zc)
 f318:=Tryz.func320.trans (bE some zc)
 f319:=Tryz.func321.trans (bE some zc)
 f320:=Tryz.func322.trans (bE some zc)
 f321:=Tryz.func342.trans (bE some zc)
 f322:=Tryz.func343.trans (bE some zc)
 f337:=Tryz.func337.trans (bE some zc)
 f338:=Tryz.func338.trans (bE some zc)
 t0:=Tryz.underlying0
 a0:=Tryz.isAgg0
 z0:=Tryz.sizeOf0
 v0:=Tryz.zeroValue0
 t2:=Tryz.underlying2
 a2:=Tryz.isAgg2
 z2:=Tryz.sizeOf2
 v2:=Tryz.zeroValue2
 t3:=Tryz.underlying3
 a3:=Tryz.isAgg3
 z3:=Tryz.sizeOf3
 v3:=Tryz.zeroValue3
 t4:=Tryz.underlying4
 a4:=Tryz.isAgg4
 z4:=Tryz.sizeOf4
 v4:=Tryz.zeroValue4
 t5:=Tryz.underlying5
 a5:=Tryz.isAgg5
 z5:=Tryz.sizeOf5
 v5:=Tryz.zeroValue5
 t9:=Tryz.underlying9
 a9:=Tryz.isAgg9
 z9:=Tryz.sizeOf9
 v9:=Tryz.zeroValue9
 t20:=Tryz.underlying20
 a20:=Tryz.isAgg20
 z20:=Tryz.sizeOf20
 v20:=Tryz.zeroValue20
 t21:=Tryz.underlying21
 a21:=Tryz.isAgg21
 z21:=Tryz.sizeOf21
 v21:=Tryz.zeroValue21
 t37:=Tryz.underlying217
 a37:=Tryz.isAgg217
 z37:=Tryz.sizeOf217
 v37:=Tryz.zeroValue217
 t46:=Tryz.underlying248
 a46:=Tryz.isAgg248
 z46:=Tryz.sizeOf248
 v46:=Tryz.zeroValue248
 t51:=Tryz.underlying254
 a51:=Tryz.isAgg254
 z51:=Tryz.sizeOf254
 v51:=Tryz.zeroValue254
 t53:=Tryz.underlying253
 a53:=Tryz.isAgg253
 z53:=Tryz.sizeOf253
 v53:=Tryz.zeroValue253
 t75:=Tryz.underlying314
 a75:=Tryz.isAgg314
 z75:=Tryz.sizeOf314
 v75:=Tryz.zeroValue314
 t76:=Tryz.underlying315
 a76:=Tryz.isAgg315
 z76:=Tryz.sizeOf315
 v76:=Tryz.zeroValue315
 t85:=Tryz.underlying368
 a85:=Tryz.isAgg368
 z85:=Tryz.sizeOf368
 v85:=Tryz.zeroValue368
 t127:=Tryz.underlying389
 a127:=Tryz.isAgg389
 z127:=Tryz.sizeOf389
 v127:=Tryz.zeroValue389
 t143:=Tryz.underlying400
 a143:=Tryz.isAgg400
 z143:=Tryz.sizeOf400
 v143:=Tryz.zeroValue400
 t145:=Tryz.underlying402
 a145:=Tryz.isAgg402
 z145:=Tryz.sizeOf402
 v145:=Tryz.zeroValue402
 t167:=Tryz.underlying367
 a167:=Tryz.isAgg367
 z167:=Tryz.sizeOf367
 v167:=Tryz.zeroValue367
 t168:=Tryz.underlying370
 a168:=Tryz.isAgg370
 z168:=Tryz.sizeOf370
 v168:=Tryz.zeroValue370
 t171:=Tryz.underlying347
 a171:=Tryz.isAgg347
 z171:=Tryz.sizeOf347
 v171:=Tryz.zeroValue347
 t173:=Tryz.underlying349
 a173:=Tryz.isAgg349
 z173:=Tryz.sizeOf349
 v173:=Tryz.zeroValue349
 t175:=Tryz.underlying390
 a175:=Tryz.isAgg390
 z175:=Tryz.sizeOf390
 v175:=Tryz.zeroValue390
 t210:=Tryz.underlying394
 a210:=Tryz.isAgg394
 z210:=Tryz.sizeOf394
 v210:=Tryz.zeroValue394
 t212:=Tryz.underlying375
 a212:=Tryz.isAgg375
 z212:=Tryz.sizeOf375
 v212:=Tryz.zeroValue375
 t213:=Tryz.underlying376
 a213:=Tryz.isAgg376
 z213:=Tryz.sizeOf376
 t232:=Tryz.underlying403
 a232:=Tryz.isAgg403
 z232:=Tryz.sizeOf403
 v232:=Tryz.zeroValue403
 t233:=Tryz.underlying404
 a233:=Tryz.isAgg404
 z233:=Tryz.sizeOf404
 v233:=Tryz.zeroValue404
 g15:=zc
 g16:=zc
 g17:=zc
 g18:=zc
 g19:=by kernel_rfl }
end Go.Proofs
namespace Go.Proofs.YtbbchlpccgkikaaGreatDoor
open Go.Shelf Go.RowKit Go.Lib Dw
theorem decFrom_dec:∀(l:List UInt8)(n:Nat),l.all dgB=true->Lib.decFrom n l=some (l.foldl (fun n c=>10*n+(c.toNat-48)) n)
 |[],n,_=>rfl
 |c::l,n,h=>by
  simp only[List.all_cons,eE]at h;have hd:Lib.digitVal c=some (c.toNat-48):=by unfold Lib.digitVal;rw[aF ((zDJ c).1 h.1)]
  unfold Lib.decFrom;rw[hd];show Lib.decFrom (n*10+(c.toNat-48)) l=_
  rw[decFrom_dec l _ h.2,dF,cV n 10]
theorem atoi_dec{l:List UInt8}(hl:l≠[])(h:l.all dgB=true):Lib.atoi l=some ((zBL l:Nat):Int):=by
 cases l with
 |nil=>exact absurd rfl hl
 |cons c l =>
  have hc:48<=c.toNat/\c.toNat<=57:=by
   simp only[List.all_cons,eE]at h;exact(zDJ c).1 h.1
  have e1:(c == 45)=false:=by
   rw[bW];intro e;rw[e]at hc;have h2:=hc.1;simp at h2
  have e2:(c == 43)=false:=by
   rw[bW];intro e;rw[e]at hc;have h2:=hc.1;simp at h2
  show(if (c == 45)=true then _ else if (c == 43)=true then _ else (Lib.decNat (c::l)).map fun(m:Nat)=>(m:Int))=_
  rw[e1,e2];have e3:Lib.decNat (c::l)=some (zBL (c::l)):=decFrom_dec (c::l) 0 h;simp[e3]
theorem below_bytes(w:World)(e:TypeId)(t:BA):Below w.heap.size w (Lib.bytesWorld w e t):=
 ⟨rfl,rfl,rfl,by simp[Lib.bytesWorld,World.freeze,World.alloc,World.drew,-World.alloc_eq,-World.drew_eq],fun k hk=>Lib.bytesWorld_at_old w e t k hk⟩
theorem atoi_c(s:BA)(w:World)(h0:0<s.size)(h1:s.size<=18)(h:s.data.toList.all dgB=true): Calls Tryz.prog 242 #[.string s] w (zAf (.tuple #[.int .i64 ((zBL s.data.toList:Nat):Int),.nilIface]) w):=by
 have J:s.data.toList≠[]:=fun e=>by
  have:=Lib.size_eq s;rw[e,aY]at this;omega
 have hA:=Any.strconv_Atoi Tryz.lays172 s _ h1 (atoi_dec J h) w;change Calls Tryz.prog 242 _ _ _ at hA;refine hA.mono fun e w' ⟨he,t,hw⟩=>⟨he,?_⟩
 rw[hw];exact below_bytes w _ t
theorem len_data(s:BA):s.data.toList.length=s.size:=(Lib.size_eq s).symm
def LmbRel(w:World)(l:List UInt8)(m:Nat)(sv ov:Value)(wr:World):Prop:=
 ∃(t:BA)(out:List Nat),t.size=m/\sv=.string t/\t.data.toList.all dgB=true/\WLt BT out/\out.length+t.size<=l.length/\zBL l=zBL t.data.toList*BT^out.length+K BT out/\OwnI wr w.heap.size ov out/\Below w.heap.size w wr
theorem zCQ(s:BA)(w:World)(hd:s.data.toList.all dgB=true)(hs:s.size<=400000000):Calls Tryz.prog 186 #[.string s] w (zDa (zBL s.data.toList) w):=by
 have hsl:=len_data s
 go_enter Tryz.func186,Tryz.ntmps186;go_wp2
 go_loopg[0,3] s.size (LmbRel w s.data.toList)
 case atStart=>exact⟨s,[],rfl,rfl,hd,WLt.nil,by simp[hsl],qu,zAv.nil _ _ _ _ _,aR _ _⟩
 case round =>
  obtain⟨t,out,hm,rfl,htd,how,hol,hv,hown,hbw⟩:=hrel;have HTD:=zq htd;have HW:=zq how;have HV:=zq hv;have HB:=zq hbw;have htl:=len_data t;have HM:=zq hm;clear htd how hv hbw hm
  rcases bI t.size with h0|h0
  ·have htn:t.data.toList=[]:=List.length_eq_zero_iff.1 za
   have HE:Hid (K BT out=zBL s.data.toList):=by
    show _=_
    have:=HV.o;rw[htn]at this;rw[this];simp[zBL]
   obtain⟨A9,c9,rfl⟩:=own_slice' hown;have HT:=zq (trimL_n A9 c9 out wr w za (own_capI hown).1 (own_lms hown) HW.o HB.o HE.o);exact tb2
  ·obtain⟨k,hk⟩:∃k,k=t.size-4:=⟨_,rfl⟩
   have hki:max (0:Int) ((t.size:Int)-4)=(k:Int):=za;have hk2:k<t.size/\t.size<=k+4:=za;have HK:=zq hk;clear hk
   have hxl:(t.extract k t.size).data.toList=t.data.toList.drop k:=by
    rw[Lib.extract_data,bT (by rw[dH,htl];omega)]
   have hyl:(t.extract 0 k).data.toList=t.data.toList.take k:=by
    rw[Lib.extract_data,aX,Nat.sub_zero]
   have hxs:(t.extract k t.size).size=t.size-k:=by rw[<-len_data,hxl,dH,htl]
   have hys:(t.extract 0 k).size=k:=by rw[<-len_data,hyl,bF,htl];omega
   have HXL:=zq hxl;have HYL:=zq hyl;obtain⟨x,hx⟩:∃x,x=zBL (t.data.toList.drop k):=⟨_,rfl⟩
   have hxB:x<10000:=by
    have h1:=decV_lt (l:=t.data.toList.drop k) (fun c hc=>by
     have:=List.all_eq_true.1 HTD.o c (List.mem_of_mem_drop hc);have:=(zDJ c).1 this;omega)
    rw[<-hx,dH,htl]at h1;have h2:(10:Nat)^(t.size-k)<=10^4:=dI zd za;have h3:(10:Nat)^4=10000:=zd;omega
   have HA:=zq (atoi_c (t.extract k t.size) wr za za (by rw[hxl,List.all_eq_true];exact fun c hc=>List.all_eq_true.1 HTD.o c (List.mem_of_mem_drop hc)));rw[hxl,<-hx]at HA
   have HC:Hid (zBL t.data.toList=zBL (t.data.toList.take k)*10^(t.size-k)+x):=by
    show _=_
    rw[hx,<-htl];exact decV_cut _ k
   clear hxl hyl hx;(go_wp2_with fail);(with_reducible refine HA.o.mono ?_);rintro e w2⟨rfl,D⟩;have HO2:=zq (hown.below D);have HB2:=zq (zAa HB.o D);clear HA D hown HB
   go_wp2_with (at_builtin;refine zBl _ _ _ elI rfl rfl w.heap.size _ out rfl (zAv.alloc HO2.o _) w2.heap.size 1 x rfl (aJ _ _) rfl zr zn za (by simp;exact Nat.le_succ_of_le HB2.o.size) ?_;intro A7 c7 w7 P hg7 hb7 hat7)
   have HB7:=zq ((HB2.o.alloc HB2.o.size _).trans hb7);have HN7:=zq P;clear P hg7 hb7 hat7 HO2 HB2;go_wp2
   go_roundg k
   case measure=>have:=HM.o;omega
   case rel =>
    refine⟨t.extract 0 k,out++[x],hys,rfl,?_,HW.o.append (WLt.cons jf WLt.nil),by rw[eA,List.length_singleton,hys];omega,?_,HN7.o,HB7.o⟩
    ·rw[HYL.o,List.all_eq_true];exact fun c hc=>List.all_eq_true.1 HTD.o c (dJ hc)
    ·rw[HYL.o,eA,List.length_singleton,zBh,zCp,HV.o,HC.o]
     have e1:zBL (t.data.toList.take k)*10^(t.size-k)=zBL (t.data.toList.take k)*BT:=by
      rcases bI k with h1|h1
      ·subst h1;simp[zBL]
      ·have:=HK.o
       rw[show t.size-k=4 by omega];rfl
     rw[e1,cX,cT,cW,cV BT,cV x];omega
end Go.Proofs.YtbbchlpccgkikaaGreatDoor
namespace Go.Proofs.YtbbchlpccgkikaaGreatDoor
open Go.RowKit Dw
abbrev zBB:Array Value:=#[.bool false,.slice none 0 0,.slice none 0 0]
abbrev nuC(ng:Bool)(A:OA)(c n:Nat)(Z:OA)(c2 d:Nat):Array Value:=#[.bool ng,.slice A (zAc BT n).length c,.slice Z (zAc BT d).length c2]
abbrev nuV(ng:Bool)(A:OA)(c n:Nat)(Z:OA)(c2 d:Nat):Value:=.agg (nuC ng A c n Z c2 d)
def zCo(ng:Bool)(n d:Nat)(w:World)(e:Ending)(w':World):Prop:=∃A c Z c2,e=.returned (nuV ng A c n Z c2 d)/\Lt w' A c n/\Lt w' Z c2 d/\Below w.heap.size w w'
theorem lms_ne{w:World}{A:OA}{l:List Nat}(h:Lms w A l)(hl:0<l.length){R:Nat}{cs:Array Value}{T:TypeId}(I:Bx w R cs T)(hc:∀(i:Nat)(n:Int),cs[i]?≠some (Value.int .i64 n)):∀b o,A=some ⟨b,o,none⟩->b≠R:=fun b o e1 e2=>by
 subst e2;obtain⟨b',o',e3,hcl⟩:=h hl;rw[e1]at e3
 injection e3 with e3
 injection e3 with e4 e5 _
 subst e4 e5;have h1:=hcl 0 hl;rw[bK w b _ _ _ _ I]at h1;exact hc _ _ h1
theorem Lms.setR{w:World}{A:OA}{l:List Nat}(h:Lms w A l){R:Nat}{cs:Array Value}{T:TypeId}(I:Bx w R cs T)(hc:∀(i:Nat)(n:Int),cs[i]?≠some (Value.int .i64 n))(i:Nat)(u:Value):Lms (w.setCell ⟨R,i,none⟩ u) A l:=fun hl =>
 lms_set h (lms_ne h hl I hc) u hl
theorem zNum_no:∀(i:Nat)(n:Int),zBB[i]?≠some (Value.int .i64 n):=fun i n h=>by
 match i,h with
 |0,h=>simp[zBB]at h
 |1,h=>simp[zBB]at h
 |2,h=>simp[zBB]at h
 |i+3,h=>simp[zBB]at h
theorem Bx.set0{w:World}{R:Nat}{a b c:Value}{T:TypeId}(h:Bx w R #[a,b,c] T)(u:Value):Bx (w.setCell ⟨R,0,none⟩ u) R #[u,b,c] T:=eP w R 0 _ _ u h
theorem Bx.set1{w:World}{R:Nat}{a b c:Value}{T:TypeId}(h:Bx w R #[a,b,c] T)(u:Value):Bx (w.setCell ⟨R,1,none⟩ u) R #[a,u,c] T:=eP w R 1 _ _ u h
theorem no3{a b c:Value}(ha:∀n,a≠.int .i64 n)(I:∀n,b≠.int .i64 n)(hc:∀n,c≠.int .i64 n):∀(i:Nat)(n:Int),(#[a,b,c]:Array Value)[i]?≠some (Value.int .i64 n):=fun i n h=>by
 match i,h with
 |0,h=>simp at h;exact ha n h
 |1,h=>simp at h;exact I n h
 |2,h=>simp at h;exact hc n h
 |i+3,h=>simp at h
theorem Lt.setR{w:World}{A:OA}{c n R:Nat}{T:TypeId}(h:Lt w A c n)(I:Bx w R zBB T)(ng:Bool)(A1:OA)(n1 c1:Nat)(v:Value):Lt (((w.setCell ⟨R,0,none⟩ (.bool ng)).setCell ⟨R,1,none⟩ (.slice A1 n1 c1)).setCell ⟨R,2,none⟩ v) A c n:=by
 refine⟨?_,h.cap⟩
 have k0:=h.rd.setR I zNum_no 0 (.bool ng);have b1:=Bx.set0 I (.bool ng);have k1:=k0.setR b1 (no3 ze ze ze) 1 (.slice A1 n1 c1);have b2:=Bx.set1 b1 (.slice A1 n1 c1);exact k1.setR b2 (no3 ze ze ze) 2 v
theorem zBA{w0 w:World}{R:Nat}(h:Below w0.heap.size w0 w)(hR:w0.heap.size<=R)(a b c:Value):Below w0.heap.size w0 (((w.setCell ⟨R,0,none⟩ a).setCell ⟨R,1,none⟩ b).setCell ⟨R,2,none⟩ c):=
 ((h.setCell (p:=⟨R,0,none⟩) hR a).setCell (p:=⟨R,1,none⟩) hR b).setCell (p:=⟨R,2,none⟩) hR c
theorem words_oneT:zAc BT 1=[1]:=qb
theorem zDc(w:World):Lt (w.alloc (.cells #[.int .i64 1] 3)) (some ⟨w.heap.size,0,none⟩) 1 1:=
 ⟨by rw[words_oneT];exact lms_one w 1,by rw[words_oneT];exact aK _⟩
theorem cmp1_c(A:OA)(c a:Nat)(w:World)(h:Lms w A (zAc BT a))(J:(zAc BT a).length<=1000000000): Calls Tryz.prog 184 #[lmV A c a,.slice (some ⟨w.heap.size,0,none⟩) 1 1] (w.alloc (.cells #[.int .i64 1] 3)) (zBI (.int .i64 (zDj a 1)) (w.alloc (.cells #[.int .i64 1] 3))):=
 cmpL_c A (some ⟨w.heap.size,0,none⟩) c 1 a 1 _ (Rd1.alloc h _) (zDc w).rd J
theorem pos_lenT{n:Nat}(h:0<n):0<(zAc BT n).length:=by
 refine Nat.pos_of_ne_zero fun e=>?_
 have:=(zCC zAR (n:=n)).1 (eB e);omega
theorem lowP_zeroT(d:Nat)(h:0<d):zBX 0 d=(0,1):=by unfold zBX;rw[Nat.gcd_zero_left,Nat.div_self h,Nat.zero_div]
theorem lowest_c(ng:Bool)(A Z:OA)(c c2 n d:Nat)(w:World)(h:Lt w A c n)(h2:Lt w Z c2 d)(hd0:0<d)(J:(zAc BT n).length<=200000000)(hm:(zAc BT d).length<=200000000): Calls Tryz.prog 182 #[.bool ng,lmV A c n,lmV Z c2 d] w (zCo (ng&&decide (n≠0)) (zBX n d).1 (zBX n d).2 w):=by
 have HB0:Hid (Below w.heap.size w (w.alloc (.cells zBB 202))):=(aR w.heap.size w).alloc (aK _) _;have HZ0:Hid (Bx (w.alloc (.cells zBB 202)) w.heap.size zBB 202):=Bx.new _ _ _;have HA0:=zq (h.below HB0.o);have HD0:=zq (h2.below HB0.o)
 rcases bI n with h0|h0
 ·subst h0
  have e1:(ng&&decide (0≠0))=false:=ze;rw[lowP_zeroT d hd0,e1];unfold lmV;have hz:(zAc BT 0).length=0:=rfl;have hz1:(zAc BT 1).length=1:=by rw[words_oneT];rfl
  rw[hz]
  go_enter Tryz.func182,Tryz.ntmps182;go_wp2;refine aC (v:=nuV false none 0 0 (some ⟨w.heap.size+1,0,none⟩) 1 1) (by simp[results,Tryz.results182,go_sem,hz,hz1]) rfl ⟨none,0,_,1,rfl,⟨Rd1.nil,cZ _⟩,?_,((aR w.heap.size w).alloc (aK _) _).alloc ze _⟩
  have:=zDc (w.alloc (.cells #[.bool false,.slice none 0 0,.slice (some ⟨w.heap.size+1,0,none⟩) 1 1] 202))
  simpa using this
 ·have hl:=pos_lenT h0
  have hlb:(((zAc BT n).length:Int) == 0)=false:=by simp;intro e;rw[e]at hl;simp at hl
  have e1:(ng&&decide (n≠0))=ng:=zg;rw[e1];have hg0:0<Nat.gcd n d:=eI n hd0;have hgl:(zAc BT (Nat.gcd n d)).length<=200000000:=dX (zAw zAR (Nat.gcd_le_right n hd0)) hm;have HLP:Hid (zBX n d=(n/Nat.gcd n d,d/Nat.gcd n d)):=rfl;rw[HLP.o];have HC:=zq (commonL_c A Z c c2 n d _ HA0.o HD0.o J hm);obtain⟨G,hG⟩:∃G,Nat.gcd n d=G:=⟨_,rfl⟩;rw[hG]at hg0 hgl HC ⊢;clear hG HLP e1;obtain⟨W,hW⟩:∃W,W=w.alloc (.cells zBB 202):=⟨_,rfl⟩;rw[<-hW]at HC HA0 HD0 HZ0 HB0;unfold lmV at HC ⊢
  go_enter Tryz.func182,Tryz.ntmps182;(go_wp2_with fail);rw[<-hW];clear hW;(with_reducible refine HC.o.mono ?_);rintro e w1⟨A5,c5,rfl,h5,hb5⟩;have HB1:=zq (zAa HB0.o hb5);have HZ1:=zq (HZ0.o.below hb5);have HA1:=zq (HA0.o.below hb5);have m:=zq (HD0.o.below hb5);have H5:=zq h5;clear hb5 h5 HC HA0 HD0 HZ0 HB0 hlb;(go_wp2_with fail);(with_reducible refine(cmp1_c A5 c5 G w1 H5.o.rd za).mono ?_);rintro e w2⟨rfl,nd,rfl⟩;have hba:Below w1.heap.size w1 ((w1.alloc (.cells #[.int .i64 1] 3)).drewN nd):=zAb ((aR w1.heap.size w1).alloc (aK _) _) nd;have HB2:=zq (zAa HB1.o hba);have HZ2:=zq (HZ1.o.below hba);have HA2:=zq (HA1.o.below hba);have HD2:=zq (m.o.below hba);have H52:=zq (H5.o.below hba);clear hba HB1 HZ1 HA1 m H5;obtain⟨w2,hw2⟩:∃w2,w2=(w1.alloc (.cells #[.int .i64 1] 3)).drewN nd:=⟨_,rfl⟩;rw[<-hw2]at HB2 HZ2 HA2 HD2 H52 ⊢;clear hw2
  by_cases h1:G=1
  ·have hcb:(zDj G 1 == 0)=true:=by rw[h1];rfl
   have HG1:=zq h1;obtain⟨z0,z1,z2⟩:=HZ2.o.t;have f0:=HZ2.o.frozen;have hsz:=HZ2.o.lt;clear h1;go_wp2;rw[HG1.o,Nat.div_one,Nat.div_one];refine aC (v:=nuV ng A c n Z c2 d) (by simp[results,Tryz.results182,go_sem,z0,z1,z2]) rfl ⟨A,c,Z,c2,rfl,HA2.o.setR HZ2.o _ _ _ _ _,HD2.o.setR HZ2.o _ _ _ _ _,zBA HB2.o (aK _) _ _ _⟩
  ·have hcb:(zDj G 1 == 0)=false:=by rw[zBS za];rfl
   clear h1;(go_wp2_with fail);(with_reducible refine(divL_c A A5 c c5 n G w2 HA2.o.rd H52.o.rd J hgl hg0).mono ?_);rintro e w3⟨A6,c6,A7,c7,rfl,h6,_,hb3⟩;have HB3:=zq (zAa HB2.o hb3);have HZ3:=zq (HZ2.o.below hb3);have HD3:=zq (HD2.o.below hb3);have H53:=zq (H52.o.below hb3);have H6:=zq h6;clear hb3 h6 HB2 HZ2 HD2 H52 HA2 hcb;(go_wp2_with fail);(with_reducible refine(divL_c Z A5 c2 c5 d G w3 HD3.o.rd H53.o.rd hm hgl hg0).mono ?_);rintro e w4⟨A8,c8,A9,c9,rfl,h8,_,hb4⟩;have HB4:=zq (zAa HB3.o hb4);have HZ4:=zq (HZ3.o.below hb4);have H64:=zq (H6.o.below hb4);have H8:=zq h8;clear hb4 h8 HB3 HZ3 HD3 H53 H6;obtain⟨z0,z1,z2⟩:=HZ4.o.t;have f0:=HZ4.o.frozen;have hsz:=HZ4.o.lt;go_wp2;refine aC (v:=nuV ng A6 c6 (n/G) A8 c8 (d/G)) (by simp[results,Tryz.results182,go_sem,z0,z1,z2]) rfl ⟨A6,c6,A8,c8,rfl,H64.o.setR HZ4.o _ _ _ _ _,H8.o.setR HZ4.o _ _ _ _ _,zBA HB4.o (aK _) _ _ _⟩
theorem smallF_0(w:World):Calls Tryz.prog 289 #[.int .i64 0] w (zAG (.string ⟨#[48]⟩) w):=by
 go_enter Tryz.func289,Tryz.ntmps289;go_wp2;go_ret
 exact zAG.mk zk rfl
theorem fmtI_0(w:World):Calls Tryz.prog 243 #[.int .u64 0,.int .i64 10] w (zAG (.string ⟨#[48]⟩) w):=by
 go_enter Tryz.func243,Tryz.ntmps243;(go_wp2_with fail);(with_reducible refine(smallF_0 w).mono ?_);exact tfc
theorem fmt_0(w:World):Calls Tryz.prog 187 #[.int .u64 0,.int .i64 10] w (zAG (.string ⟨#[48]⟩) w):=by
 go_enter Tryz.func187,Tryz.ntmps187;(go_wp2_with fail);(with_reducible refine(fmtI_0 w).mono ?_);exact tfc
theorem Int_0(w:World):Calls Tryz.prog 121 #[.int .i64 0] w (zCo false 0 1 w):=by
 have HB0:Hid (Below w.heap.size w (w.alloc (.cells zBB 202))):=(aR w.heap.size w).alloc (aK _) _;have HZ0:Hid (Bx (w.alloc (.cells zBB 202)) w.heap.size zBB 202):=Bx.new _ _ _
 go_enter Tryz.func121,Tryz.ntmps121;(go_wp2_with fail);(with_reducible refine(fmt_0 _).mono ?_);rintro e w1⟨rfl,rfl⟩;have HL:=zq (zCQ ⟨#[48]⟩ (w.alloc (.cells zBB 202)) zd zd);have hd:zBL (⟨#[48]⟩:BA).data.toList=0:=zd;rw[hd]at HL;clear hd;(go_wp2_with fail);(with_reducible refine HL.o.mono ?_);rintro e w1⟨A1,c1,rfl,h1,hb1⟩;have hba:Below w1.heap.size w1 (w1.alloc (.cells #[.int .i64 1] 3)):=(aR w1.heap.size w1).alloc (aK _) _;have HB1:=zq (zAa (zAa HB0.o hb1) hba);have HZ1:=zq ((HZ0.o.below hb1).below hba)
 have HW:Hid (Calls Tryz.prog 182 #[.bool false,lmV A1 c1 0,.slice (some ⟨w1.heap.size,0,none⟩) 1 1] (w1.alloc (.cells #[.int .i64 1] 3)) (zCo false 0 1 (w1.alloc (.cells #[.int .i64 1] 3)))):=
  lowest_c false A1 (some ⟨w1.heap.size,0,none⟩) c1 1 0 1 _ (h1.below hba) (zDc w1) za qb qb
 clear hb1 h1 hba HB0 HZ0 HL;(go_wp2_with fail);(with_reducible refine HW.o.mono ?_);rintro e w2⟨Z,c2,A3,c3,rfl,h2,h3,D⟩;have HB2:=zq (zAa HB1.o D);have HZ2:=zq (HZ1.o.below D);have H2:=zq h2;have H3:=zq h3;clear D h2 h3 HB1 HZ1 HW;obtain⟨z0,z1,z2⟩:=HZ2.o.t;have f0:=HZ2.o.frozen;have hsz:=HZ2.o.lt;go_wp2;refine aC (v:=nuV false Z c2 0 A3 c3 1) (by simp[results,Tryz.results121,go_sem,z0,z1,z2]) rfl ⟨Z,c2,A3,c3,rfl,H2.o.setR HZ2.o _ _ _ _ _,H3.o.setR HZ2.o _ _ _ _ _,zBA HB2.o (aK _) _ _ _⟩
theorem smallF_1(w:World):Calls Tryz.prog 289 #[.int .i64 1] w (zAG (.string ⟨#[49]⟩) w):=by
 go_enter Tryz.func289,Tryz.ntmps289;go_wp2;go_ret
 exact zAG.mk zk rfl
theorem fmtI_1(w:World):Calls Tryz.prog 243 #[.int .u64 1,.int .i64 10] w (zAG (.string ⟨#[49]⟩) w):=by
 go_enter Tryz.func243,Tryz.ntmps243;(go_wp2_with fail);(with_reducible refine(smallF_1 w).mono ?_);exact tfc
theorem fmt_1(w:World):Calls Tryz.prog 187 #[.int .u64 1,.int .i64 10] w (zAG (.string ⟨#[49]⟩) w):=by
 go_enter Tryz.func187,Tryz.ntmps187;(go_wp2_with fail);(with_reducible refine(fmtI_1 w).mono ?_);exact tfc
theorem Int_1(w:World):Calls Tryz.prog 121 #[.int .i64 1] w (zCo false 1 1 w):=by
 have HB0:Hid (Below w.heap.size w (w.alloc (.cells zBB 202))):=(aR w.heap.size w).alloc (aK _) _;have HZ0:Hid (Bx (w.alloc (.cells zBB 202)) w.heap.size zBB 202):=Bx.new _ _ _
 go_enter Tryz.func121,Tryz.ntmps121;(go_wp2_with fail);(with_reducible refine(fmt_1 _).mono ?_);rintro e w1⟨rfl,rfl⟩;have HL:=zq (zCQ ⟨#[49]⟩ (w.alloc (.cells zBB 202)) zd zd);have hd:zBL (⟨#[49]⟩:BA).data.toList=1:=zd;rw[hd]at HL;clear hd;(go_wp2_with fail);(with_reducible refine HL.o.mono ?_);rintro e w1⟨A1,c1,rfl,h1,hb1⟩;have hba:Below w1.heap.size w1 (w1.alloc (.cells #[.int .i64 1] 3)):=(aR w1.heap.size w1).alloc (aK _) _;have HB1:=zq (zAa (zAa HB0.o hb1) hba);have HZ1:=zq ((HZ0.o.below hb1).below hba)
 have HW:Hid (Calls Tryz.prog 182 #[.bool false,lmV A1 c1 1,.slice (some ⟨w1.heap.size,0,none⟩) 1 1] (w1.alloc (.cells #[.int .i64 1] 3)) (zCo false 1 1 (w1.alloc (.cells #[.int .i64 1] 3)))):=
  lowest_c false A1 (some ⟨w1.heap.size,0,none⟩) c1 1 1 1 _ (h1.below hba) (zDc w1) za qb qb
 clear hb1 h1 hba HB0 HZ0 HL;(go_wp2_with fail);(with_reducible refine HW.o.mono ?_);rintro e w2⟨Z,c2,A3,c3,rfl,h2,h3,D⟩;have HB2:=zq (zAa HB1.o D);have HZ2:=zq (HZ1.o.below D);have H2:=zq h2;have H3:=zq h3;clear D h2 h3 HB1 HZ1 HW;obtain⟨z0,z1,z2⟩:=HZ2.o.t;have f0:=HZ2.o.frozen;have hsz:=HZ2.o.lt;go_wp2;refine aC (v:=nuV false Z c2 1 A3 c3 1) (by simp[results,Tryz.results121,go_sem,z0,z1,z2]) rfl ⟨Z,c2,A3,c3,rfl,H2.o.setR HZ2.o _ _ _ _ _,H3.o.setR HZ2.o _ _ _ _ _,zBA HB2.o (aK _) _ _ _⟩
theorem isZero_c(ng:Bool)(A Z:OA)(c c2 n d:Nat)(w:World):Calls Tryz.prog 115 #[nuV ng A c n Z c2 d] w (zAf (.bool (decide (n=0))) w):=by
 have I:(((zAc BT n).length:Int) == 0)=decide (n=0):=by
  rcases bI n with h0|h0
  ·subst h0;rfl
  ·have:=pos_lenT h0
   have h1:decide (n=0)=false:=zg;rw[h1];simp;intro e;rw[e]at this;simp at this
 have HB0:Hid (Below w.heap.size w (w.alloc (.cells (nuC ng A c n Z c2 d) 202))):=(aR w.heap.size w).alloc (aK _) _
 go_enter Tryz.func115,Tryz.ntmps115;go_wp2;go_ret
 exact zAf.mk rfl HB0.o
def GivesMi(ng:Bool)(A:OA)(c n:Nat)(Z:OA)(c2 d:Nat)(w:World)(e:Ending)(w':World):Prop:=e=.returned (nuV (!ng&&decide (n≠0)) A c n Z c2 d)/\Below w.heap.size w w'
theorem minus_c(ng:Bool)(A Z:OA)(c c2 n d:Nat)(w:World):Calls Tryz.prog 122 #[nuV ng A c n Z c2 d] w (GivesMi ng A c n Z c2 d w):=by
 have HB0:Hid (Below w.heap.size w ((w.alloc (.cells (nuC ng A c n Z c2 d) 202)).alloc (.cells #[.bool (!ng&&decide (n≠0)),.slice A (zAc BT n).length c,.slice Z (zAc BT d).length c2] 202))):=((aR w.heap.size w).alloc (aK _) _).alloc ze _
 cases ng with
 |true =>
  go_enter Tryz.func122,Tryz.ntmps122;go_wp2;refine aC (v:=nuV false A c n Z c2 d) (by simp[results,Tryz.results122,go_sem]) rfl ⟨rfl,?_⟩
  exact HB0.o
 |false =>
  rcases bI n with h0|h0
  ·subst h0
   have hz:(zAc BT 0).length=0:=rfl;unfold nuV nuC;rw[hz]
   go_enter Tryz.func122,Tryz.ntmps122;go_wp2;refine aC (v:=nuV false A c 0 Z c2 d) (by simp[results,Tryz.results122,go_sem,hz]) rfl ⟨rfl,?_⟩
   exact HB0.o
  ·have hl:=pos_lenT h0
   have J:decide (n≠0)=true:=zg;rw[J]at HB0
   go_enter Tryz.func122,Tryz.ntmps122;go_wp2;refine aC (v:=nuV true A c n Z c2 d) (by simp[results,Tryz.results122,go_sem]) rfl ⟨by rw[J];rfl,?_⟩
   exact HB0.o
theorem zDD(a b:Nat):(zAc BT (a*b)).length<=(zAc BT a).length+(zAc BT b).length:=by
 refine zBa zAR ?_;rw[dV];have h1:=zBu zAR a;have h2:=zBu zAR b;exact cY (dC a (dD h2)) (dY h1 (Nat.pow_pos BT_pos))
theorem len_addT(a b:Nat):(zAc BT (a+b)).length<=max (zAc BT a).length (zAc BT b).length+1:=by
 refine zBa zAR ?_;have h1:=zBu zAR a;have h2:=zBu zAR b;have h3:BT^(zAc BT a).length<=BT^max (zAc BT a).length (zAc BT b).length:=dI BT_pos (Nat.le_max_left _ _);have h4:BT^(zAc BT b).length<=BT^max (zAc BT a).length (zAc BT b).length:=dI BT_pos (Nat.le_max_right _ _);rw[cT];have h5:=dC (BT^max (zAc BT a).length (zAc BT b).length) (show 2<=BT by decide);omega
def zDY(ng:Bool)(n d:Nat)(ng2:Bool)(m e:Nat):Bool×Nat×Nat:=
 if ng=ng2 then (ng&&decide (n*e+m*d≠0),zBX (n*e+m*d) (d*e))
 else if m*d<=n*e then (ng&&decide (n*e-m*d≠0),zBX (n*e-m*d) (d*e))
 else (ng2&&decide (m*d-n*e≠0),zBX (m*d-n*e) (d*e))
theorem cmpN_ge{a b:Nat}(h:b<=a):decide (0<=zDj a b)=true:=by
 rcases aI b a with h1|h1
 ·rw[zBS h1];rfl
 ·rw[zCL za];rfl
theorem cmpN_nge{a b:Nat}(h:¬b<=a):decide (0<=zDj a b)=false:=by rw[zBJ za];rfl
theorem plus_c(ng ng2:Bool)(A Z A3 A4:OA)(c c2 c3 c4 n d m e:Nat)(w:World)(h:Lt w A c n)(h2:Lt w Z c2 d)(h3:Lt w A3 c3 m)(h4:Lt w A4 c4 e)(J:(zAc BT n).length<=50000000)(hd:(zAc BT d).length<=50000000)(hm:(zAc BT m).length<=50000000)(he:(zAc BT e).length<=50000000)(hd0:0<d)(he0:0<e): Calls Tryz.prog 120 #[nuV ng A c n Z c2 d,nuV ng2 A3 c3 m A4 c4 e] w (zCo (zDY ng n d ng2 m e).1 (zDY ng n d ng2 m e).2.1 (zDY ng n d ng2 m e).2.2 w):=by
 have HM1:=zq (fun W (x:Lt W A c n) (y:Lt W A4 c4 e)=>timesL_c A A4 c c4 n e W x.rd y.rd za za);have HM2:=zq (fun W (x:Lt W A3 c3 m) (y:Lt W Z c2 d)=>timesL_c A3 Z c3 c2 m d W x.rd y.rd za za);have HM3:=zq (fun W (x:Lt W Z c2 d) (y:Lt W A4 c4 e)=>timesL_c Z A4 c2 c4 d e W x.rd y.rd za za);have hl1:(zAc BT (n*e)).length<=100000000:=dX (zDD n e) za;have hl2:(zAc BT (m*d)).length<=100000000:=dX (zDD m d) za;have hl3:(zAc BT (d*e)).length<=100000000:=dX (zDD d e) za;have hr0:0<d*e:=dZ hd0 he0;have HP:Hid (zDY ng n d ng2 m e=if ng=ng2 then (ng&&decide (n*e+m*d≠0),zBX (n*e+m*d) (d*e)) else if m*d<=n*e then (ng&&decide (n*e-m*d≠0),zBX (n*e-m*d) (d*e)) else (ng2&&decide (m*d-n*e≠0),zBX (m*d-n*e) (d*e))):=rfl;obtain⟨res,C⟩:∃res,res=zDY ng n d ng2 m e:=⟨_,rfl⟩;rw[<-C]at HP ⊢;clear C;obtain⟨p,hp⟩:∃p,n*e=p:=⟨_,rfl⟩;obtain⟨q,hq⟩:∃q,m*d=q:=⟨_,rfl⟩;obtain⟨r,hr⟩:∃r,d*e=r:=⟨_,rfl⟩;rw[hp]at HM1 hl1 HP;rw[hq]at HM2 hl2 HP;rw[hr]at HM3 hl3 hr0 HP;clear hp hq hr J hd hm he hd0 he0;have G:Hid (Bx (((w.alloc (.cells (nuC ng A c n Z c2 d) 202)).alloc (.cells (nuC ng2 A3 c3 m A4 c4 e) 202)).alloc (.cells zBB 202)) w.heap.size (nuC ng A c n Z c2 d) 202):=((Bx.new _ _ _).alloc _).alloc _;have Q:Hid (Bx (((w.alloc (.cells (nuC ng A c n Z c2 d) 202)).alloc (.cells (nuC ng2 A3 c3 m A4 c4 e) 202)).alloc (.cells zBB 202)) (w.heap.size+1) (nuC ng2 A3 c3 m A4 c4 e) 202):=(Bx.new1 _ _ _ _).alloc _;have HZ0:Hid (Bx (((w.alloc (.cells (nuC ng A c n Z c2 d) 202)).alloc (.cells (nuC ng2 A3 c3 m A4 c4 e) 202)).alloc (.cells zBB 202)) (w.heap.size+1+1) zBB 202):=Bx.new2 _ _ _ _ _;have HB0:Hid (Below w.heap.size w (((w.alloc (.cells (nuC ng A c n Z c2 d) 202)).alloc (.cells (nuC ng2 A3 c3 m A4 c4 e) 202)).alloc (.cells zBB 202))):=(((aR w.heap.size w).alloc (aK _) _).alloc ze _).alloc zg _;obtain⟨W,hW⟩:∃W,W=(((w.alloc (.cells (nuC ng A c n Z c2 d) 202)).alloc (.cells (nuC ng2 A3 c3 m A4 c4 e) 202)).alloc (.cells zBB 202)):=⟨_,rfl⟩;rw[<-hW]at G Q HZ0 HB0;have g1:=zq (h.below HB0.o);have g2:=zq (h2.below HB0.o);have g3:=zq (h3.below HB0.o);have g4:=zq (h4.below HB0.o);clear h h2 h3 h4
 go_enter Tryz.func120,Tryz.ntmps120;(go_upto_region 1 with fail);rw[<-hW];clear hW;obtain⟨a0,a1,a2⟩:=G.o.t;obtain⟨b0,b1,b2⟩:=Q.o.t
 go_region_held3 (fun w'=>(w'.cell? ⟨w.heap.size,0,none⟩=some (.bool ng)/\w'.cell? ⟨w.heap.size,1,none⟩=some (.slice A (zAc BT n).length c)/\w'.cell? ⟨w.heap.size,2,none⟩=some (.slice Z (zAc BT d).length c2))/\(w'.cell? ⟨w.heap.size+1,0,none⟩=some (.bool ng2)/\w'.cell? ⟨w.heap.size+1,1,none⟩=some (.slice A3 (zAc BT m).length c3)/\w'.cell? ⟨w.heap.size+1,2,none⟩=some (.slice A4 (zAc BT e).length c4)))
  ((refine⟨⟨?_,?_,?_⟩,?_,?_,?_⟩<;>first|with_reducible assumption|go_simp))
  (first
   |((go_at_call 181;(with_reducible refine(HM1.o W.drew (g1.out.drew) (g4.out.drew)).mono ?_);rintro x w1⟨A5,c5,rfl,h5,I⟩;have HB1:=zq ((zAb HB0.o 1).trans (I.mono HB0.o.size));have X:=zq ((G.o.drew).below I);have HY1:=zq ((Q.o.drew).below I);have HZ1:=zq ((HZ0.o.drew).below I);have g21:=zq ((g2.out.drew).below I);have g31:=zq ((g3.out.drew).below I);have g41:=zq ((g4.out.drew).below I);have H5:=zq h5;clear h5 I;clear a0 a1 a2 b0 b1 b2;obtain⟨a0,a1,a2⟩:=X.o.t;obtain⟨b0,b1,b2⟩:=HY1.o.t))
   |((go_at_call 181;(with_reducible refine(HM2.o w1 g31.out g21.out).mono ?_);rintro x w2⟨A6,c6,rfl,h6,I⟩;have HB2:=zq (zAa HB1.o I);have HX2:=zq (X.o.below I);have HY2:=zq (HY1.o.below I);have HZ2:=zq (HZ1.o.below I);have g22:=zq (g21.out.below I);have g42:=zq (g41.out.below I);have H52:=zq (H5.o.below I);have H6:=zq h6;clear h6 I;clear a0 a1 a2 b0 b1 b2;obtain⟨a0,a1,a2⟩:=HX2.o.t;obtain⟨b0,b1,b2⟩:=HY2.o.t))
   |((go_at_call 181;(with_reducible refine(HM3.o w2 g22.out g42.out).mono ?_);rintro x w3⟨A7,c7,rfl,h7,I⟩;have HB3:=zq (zAa HB2.o I);have HX3:=zq (HX2.o.below I);have HY3:=zq (HY2.o.below I);have HZ3:=zq (HZ2.o.below I);have H53:=zq (H52.o.below I);have H63:=zq (H6.o.below I);have H7:=zq h7;clear h7 I;clear a0 a1 a2 b0 b1 b2;obtain⟨a0,a1,a2⟩:=HX3.o.t;obtain⟨b0,b1,b2⟩:=HY3.o.t)))
 clear HB0 HB1 HB2 G X HX2 Q HY1 HY2 HZ0 HZ1 HZ2 g1 g2 g3 g4 g21 g31 g41 g22 g42 H5 H52 H6 HM1 HM2 HM3
 by_cases hs:ng=ng2
 ·have hsb:(ng == ng2)=true:=by simpa using hs
  have HR:Hid (res=(ng&&decide (p+q≠0),zBX (p+q) r)):=by show _=_;rw[HP.o,aF hs]
  have hre:=HR.o;clear hs HP HR;subst hre;have hla:=len_addT p q;have HA:=zq (fun W (x:Lt W A5 c5 p) (y:Lt W A6 c6 q)=>addL_c A5 A6 c5 c6 p q W x.rd y.rd za za);have HW:=zq (fun A8 c8 W (x:Lt W A8 c8 (p+q)) (y:Lt W A7 c7 r)=>lowest_c ng A8 A7 c8 c7 (p+q) r W x y hr0 za za);clear hla hl1 hl2 hl3 hr0;generalize p+q=pq at *;go_upto_region 3 with fail
  go_region_held3 (fun w'=>(w'.cell? ⟨w.heap.size,0,none⟩=some (.bool ng)/\w'.cell? ⟨w.heap.size,1,none⟩=some (.slice A (zAc BT n).length c)/\w'.cell? ⟨w.heap.size,2,none⟩=some (.slice Z (zAc BT d).length c2))/\(w'.cell? ⟨w.heap.size+1,0,none⟩=some (.bool ng2)/\w'.cell? ⟨w.heap.size+1,1,none⟩=some (.slice A3 (zAc BT m).length c3)/\w'.cell? ⟨w.heap.size+1,2,none⟩=some (.slice A4 (zAc BT e).length c4)))
   ((refine⟨⟨?_,?_,?_⟩,?_,?_,?_⟩<;>first|with_reducible assumption|go_simp))
   (first
    |((go_at_call 183;(with_reducible refine(HA.o w3.drew (H53.o.drew) (H63.o.drew)).mono ?_);rintro x w5⟨A8,c8,rfl,h8,I⟩;have HB5:=zq ((zAb HB3.o 1).trans (I.mono HB3.o.size));have HX5:=zq ((HX3.o.drew).below I);have HY5:=zq ((HY3.o.drew).below I);have HZ5:=zq ((HZ3.o.drew).below I);have H75:=zq ((H7.o.drew).below I);have H8:=zq h8;clear h8 I;clear a0 a1 a2 b0 b1 b2;obtain⟨a0,a1,a2⟩:=HX5.o.t;obtain⟨b0,b1,b2⟩:=HY5.o.t))
    |((go_at_call 182;(with_reducible refine(HW.o _ _ w5 H8.o H75.o).mono ?_);rintro x w6⟨A9,c9,A10,c10,rfl,h9,h10,I⟩;have HB6:=zq (zAa HB5.o I);have HX6:=zq (HX5.o.below I);have HY6:=zq (HY5.o.below I);have HZ6:=zq (HZ5.o.below I);have H9:=zq h9;have H10:=zq h10;clear h9 h10 I;clear a0 a1 a2 b0 b1 b2;obtain⟨a0,a1,a2⟩:=HX6.o.t;obtain⟨b0,b1,b2⟩:=HY6.o.t;obtain⟨r0,r1,r2⟩:=HZ6.o.t;have rf:=HZ6.o.frozen;have V:=HZ6.o.lt;have rn:¬(w.heap.size=w.heap.size+1+1):=za;have rm:¬(w.heap.size+1=w.heap.size+1+1):=za)))
  exact tbl
 ·have hsb:(ng == ng2)=false:=by simpa using hs
  (go_upto_region 4 with fail);(go_wp2_with fail);(with_reducible refine(cmpL_c A5 A6 c5 c6 p q w3 H53.o.rd H63.o.rd za).mono ?_);rintro x w4⟨rfl,nd,rfl⟩;have HX4:=zq (HX3.o.drewN nd);have HY4:=zq (HY3.o.drewN nd);have HZ4:=zq (HZ3.o.drewN nd);have HB4:=zq (zAb HB3.o nd);have H54:=zq (H53.o.drewN nd);have H64:=zq (H63.o.drewN nd);have H74:=zq (H7.o.drewN nd);clear HX3 HY3 HZ3 HB3 H53 H63 H7;clear a0 a1 a2 b0 b1 b2;obtain⟨w4,hw4⟩:∃w4,w4=w3.drewN nd:=⟨_,rfl⟩;rw[<-hw4]at HX4 HY4 HZ4 HB4 H54 H64 H74 ⊢;clear hw4;obtain⟨a0,a1,a2⟩:=HX4.o.t;obtain⟨b0,b1,b2⟩:=HY4.o.t
  by_cases hc:q<=p
  ·have hcb:=cmpN_ge hc
   have HR:Hid (res=(ng&&decide (p-q≠0),zBX (p-q) r)):=by show _=_;rw[HP.o,aO hs,aF hc]
   have hre:=HR.o;have HA:=zq (fun W (x:Lt W A5 c5 p) (y:Lt W A6 c6 q)=>lessL_c A5 A6 c5 c6 p q W x.rd y.rd za hc);have hla:=zAw zAR (Nat.sub_le p q);have HW:=zq (fun A8 c8 W (x:Lt W A8 c8 (p-q)) (y:Lt W A7 c7 r)=>lowest_c ng A8 A7 c8 c7 (p-q) r W x y hr0 za za);clear hla hl1 hl2 hl3 hr0 hs HP HR hc;subst hre;generalize p-q=pq at *;go_upto_region 5 with fail
   go_region_held3 (fun w'=>(w'.cell? ⟨w.heap.size,0,none⟩=some (.bool ng)/\w'.cell? ⟨w.heap.size,1,none⟩=some (.slice A (zAc BT n).length c)/\w'.cell? ⟨w.heap.size,2,none⟩=some (.slice Z (zAc BT d).length c2))/\(w'.cell? ⟨w.heap.size+1,0,none⟩=some (.bool ng2)/\w'.cell? ⟨w.heap.size+1,1,none⟩=some (.slice A3 (zAc BT m).length c3)/\w'.cell? ⟨w.heap.size+1,2,none⟩=some (.slice A4 (zAc BT e).length c4)))
    ((refine⟨⟨?_,?_,?_⟩,?_,?_,?_⟩<;>first|with_reducible assumption|go_simp))
    (first
     |((go_at_call 185;(with_reducible refine(HA.o w4.drew (H54.o.drew) (H64.o.drew)).mono ?_);rintro x w5⟨A8,c8,rfl,h8,I⟩;have HB5:=zq ((zAb HB4.o 1).trans (I.mono HB4.o.size));have HX5:=zq ((HX4.o.drew).below I);have HY5:=zq ((HY4.o.drew).below I);have HZ5:=zq ((HZ4.o.drew).below I);have H75:=zq ((H74.o.drew).below I);have H8:=zq h8;clear h8 I;clear a0 a1 a2 b0 b1 b2;obtain⟨a0,a1,a2⟩:=HX5.o.t;obtain⟨b0,b1,b2⟩:=HY5.o.t))
     |((go_at_call 182;(with_reducible refine(HW.o _ _ w5 H8.o H75.o).mono ?_);rintro x w6⟨A9,c9,A10,c10,rfl,h9,h10,I⟩;have HB6:=zq (zAa HB5.o I);have HX6:=zq (HX5.o.below I);have HY6:=zq (HY5.o.below I);have HZ6:=zq (HZ5.o.below I);have H9:=zq h9;have H10:=zq h10;clear h9 h10 I;clear a0 a1 a2 b0 b1 b2;obtain⟨a0,a1,a2⟩:=HX6.o.t;obtain⟨b0,b1,b2⟩:=HY6.o.t;obtain⟨r0,r1,r2⟩:=HZ6.o.t;have rf:=HZ6.o.frozen;have V:=HZ6.o.lt;have rn:¬(w.heap.size=w.heap.size+1+1):=za;have rm:¬(w.heap.size+1=w.heap.size+1+1):=za)))
   exact tbl
  ·have hcb:=cmpN_nge hc
   have HR:Hid (res=(ng2&&decide (q-p≠0),zBX (q-p) r)):=by show _=_;rw[HP.o,aO hs,aO hc]
   have hre:=HR.o;have HA:=zq (fun W (x:Lt W A6 c6 q) (y:Lt W A5 c5 p)=>lessL_c A6 A5 c6 c5 q p W x.rd y.rd za za);have hla:=zAw zAR (Nat.sub_le q p);have HW:=zq (fun A8 c8 W (x:Lt W A8 c8 (q-p)) (y:Lt W A7 c7 r)=>lowest_c ng2 A8 A7 c8 c7 (q-p) r W x y hr0 za za);clear hla hl1 hl2 hl3 hr0 hs HP HR hc;subst hre;generalize q-p=pq at *;go_upto_region 6 with fail
   go_region_held3 (fun w'=>(w'.cell? ⟨w.heap.size,0,none⟩=some (.bool ng)/\w'.cell? ⟨w.heap.size,1,none⟩=some (.slice A (zAc BT n).length c)/\w'.cell? ⟨w.heap.size,2,none⟩=some (.slice Z (zAc BT d).length c2))/\(w'.cell? ⟨w.heap.size+1,0,none⟩=some (.bool ng2)/\w'.cell? ⟨w.heap.size+1,1,none⟩=some (.slice A3 (zAc BT m).length c3)/\w'.cell? ⟨w.heap.size+1,2,none⟩=some (.slice A4 (zAc BT e).length c4)))
    ((refine⟨⟨?_,?_,?_⟩,?_,?_,?_⟩<;>first|with_reducible assumption|go_simp))
    (first
     |((go_at_call 185;(with_reducible refine(HA.o w4.drew (H64.o.drew) (H54.o.drew)).mono ?_);rintro x w5⟨A8,c8,rfl,h8,I⟩;have HB5:=zq ((zAb HB4.o 1).trans (I.mono HB4.o.size));have HX5:=zq ((HX4.o.drew).below I);have HY5:=zq ((HY4.o.drew).below I);have HZ5:=zq ((HZ4.o.drew).below I);have H75:=zq ((H74.o.drew).below I);have H8:=zq h8;clear h8 I;clear a0 a1 a2 b0 b1 b2;obtain⟨a0,a1,a2⟩:=HX5.o.t;obtain⟨b0,b1,b2⟩:=HY5.o.t))
     |((go_at_call 182;(with_reducible refine(HW.o _ _ w5 H8.o H75.o).mono ?_);rintro x w6⟨A9,c9,A10,c10,rfl,h9,h10,I⟩;have HB6:=zq (zAa HB5.o I);have HX6:=zq (HX5.o.below I);have HY6:=zq (HY5.o.below I);have HZ6:=zq (HZ5.o.below I);have H9:=zq h9;have H10:=zq h10;clear h9 h10 I;clear a0 a1 a2 b0 b1 b2;obtain⟨a0,a1,a2⟩:=HX6.o.t;obtain⟨b0,b1,b2⟩:=HY6.o.t;obtain⟨r0,r1,r2⟩:=HZ6.o.t;have rf:=HZ6.o.frozen;have V:=HZ6.o.lt;have rn:¬(w.heap.size=w.heap.size+1+1):=za;have rm:¬(w.heap.size+1=w.heap.size+1+1):=za)))
   go_wp2;refine aC (v:=nuV (ng2&&decide (pq≠0)) A9 c9 (zBX pq r).1 A10 c10 (zBX pq r).2) (by simp[results,Tryz.results120,go_sem,r0,r1,r2]) rfl ⟨A9,c9,A10,c10,rfl,H9.o.setR HZ6.o _ _ _ _ _,H10.o.setR HZ6.o _ _ _ _ _,zBA HB6.o za _ _ _⟩
theorem lowP_pos{n d:Nat}(J:0<n):0<(zBX n d).1:=Nat.div_pos (Nat.le_of_dvd J (Nat.gcd_dvd_left n d)) (Nat.gcd_pos_of_pos_left d J)
theorem lowP_fst{n d:Nat}:(zBX n d).1=0↔n=0:=by
 constructor
 ·intro h
  rcases bI n with h0|h0
  ·exact h0
  ·have:=lowP_pos (d:=d) h0;omega
 ·rintro rfl;unfold zBX;exact Nat.zero_div _
theorem plusN_cmp(n d m e:Nat):zDj (n*e) (m*d)=if (zDY false n d (!false&&decide (m≠0)) m e).2.1=0 then 0 else if (zDY false n d (!false&&decide (m≠0)) m e).1=true then -1 else 1:=by
 unfold zDY
 by_cases hm:m=0
 ·subst hm
  have e1:(!false&&decide (0≠0))=false:=rfl;rw[e1,aF rfl];simp only[eK,Nat.zero_mul,dT,lowP_fst]
  by_cases h0:n*e=0
  ·rw[aF h0,zCL h0]
  ·rw[aO h0,zBS za];rfl
 ·have e1:(!false&&decide (m≠0))=true:=by simp[hm]
  rw[e1];simp only[eR,aL]
  by_cases hc:m*d<=n*e
  ·rw[aF hc]
   simp only[eK,lowP_fst]
   by_cases h0:n*e-m*d=0
   ·rw[aF h0,zCL za]
   ·rw[aO h0,zBS za];rfl
  ·rw[aO hc]
   have h0:¬m*d-n*e=0:=za;simp only[eL,lowP_fst];rw[aO h0,aF (by simp[h0]),zBJ za]
def CoRel(w:World)(ng:Bool)(n d:Nat)(v:Value)(wx:World):Prop:=∃g A c Z c2,v=.pointer (some ⟨g,0,none⟩)/\Bx wx g (nuC ng A c n Z c2 d) 202/\Below w.heap.size w wx
theorem co_new{w wx:World}{ng:Bool}{A Z:OA}{c c2 n d:Nat}(h:Below w.heap.size w wx):CoRel w ng n d (.pointer (some ⟨wx.heap.size,0,none⟩)) (wx.alloc (.cells (nuC ng A c n Z c2 d) 202)):=⟨_,A,c,Z,c2,rfl,Bx.new _ _ _,h.alloc h.size _⟩
theorem co_set{w wx:World}{ng:Bool}{A Z:OA}{c c2 n d g:Nat}(h:Below w.heap.size w wx)(hz:Bx wx g zBB 202)(hg:w.heap.size<=g):CoRel w ng n d (.pointer (some ⟨g,0,none⟩)) (((wx.setCell ⟨g,0,none⟩ (.bool ng)).setCell ⟨g,1,none⟩ (.slice A (zAc BT n).length c)).setCell ⟨g,2,none⟩ (.slice Z (zAc BT d).length c2)):=by
 have k0:=Bx.set0 hz (.bool ng);have k1:=Bx.set1 k0 (.slice A (zAc BT n).length c);exact⟨g,A,c,Z,c2,rfl,eP _ g 2 _ _ _ k1,zBA h hg _ _ _⟩
theorem compare_cT(A Z A3 A4:OA)(c c2 c3 c4 n d m e:Nat)(w:World)(h:Lt w A c n)(h2:Lt w Z c2 d)(h3:Lt w A3 c3 m)(h4:Lt w A4 c4 e)(J:(zAc BT n).length<=50000000)(hd:(zAc BT d).length<=50000000)(hm:(zAc BT m).length<=50000000)(he:(zAc BT e).length<=50000000)(hd0:0<d)(he0:0<e): Calls Tryz.prog 131 #[nuV false A c n Z c2 d,nuV false A3 c3 m A4 c4 e] w (zAf (.int .i64 (zDj (n*e) (m*d))) w):=by
 rw[plusN_cmp];have HMI:=zq (fun W=>minus_c false A3 A4 c3 c4 m e W);unfold GivesMi at HMI;obtain⟨mg,hmg⟩:∃mg,mg=(!false&&decide (m≠0)):=⟨_,rfl⟩;rw[<-hmg]at HMI ⊢;clear hmg;have G:Hid (Bx ((w.alloc (.cells (nuC false A c n Z c2 d) 202)).alloc (.cells (nuC false A3 c3 m A4 c4 e) 202)) w.heap.size (nuC false A c n Z c2 d) 202):=(Bx.new _ _ _).alloc _;have Q:Hid (Bx ((w.alloc (.cells (nuC false A c n Z c2 d) 202)).alloc (.cells (nuC false A3 c3 m A4 c4 e) 202)) (w.heap.size+1) (nuC false A3 c3 m A4 c4 e) 202):=Bx.new1 _ _ _ _;have HB0:Hid (Below w.heap.size w ((w.alloc (.cells (nuC false A c n Z c2 d) 202)).alloc (.cells (nuC false A3 c3 m A4 c4 e) 202))):=((aR w.heap.size w).alloc (aK _) _).alloc ze _;obtain⟨W,hW⟩:∃W,W=((w.alloc (.cells (nuC false A c n Z c2 d) 202)).alloc (.cells (nuC false A3 c3 m A4 c4 e) 202)):=⟨_,rfl⟩;rw[<-hW]at G Q HB0;have g1:=zq (h.below HB0.o);have g2:=zq (h2.below HB0.o);have g3:=zq (h3.below HB0.o);have g4:=zq (h4.below HB0.o);clear h h2 h3 h4
 go_enter Tryz.func131,Tryz.ntmps131;(go_upto_region 1 with fail);rw[<-hW];clear hW
 go_cut[5] (fun v wx=>CoRel w (zDY false n d mg m e).1 (zDY false n d mg m e).2.1 (zDY false n d mg m e).2.2 v wx)
 case first =>
  obtain⟨a0,a1,a2⟩:=G.o.t;obtain⟨b0,b1,b2⟩:=Q.o.t;have sx:=G.o.lt;have sy:=Q.o.lt
  go_region_held3 (fun w'=>(w'.cell? ⟨w.heap.size,0,none⟩=some (.bool false)/\w'.cell? ⟨w.heap.size,1,none⟩=some (.slice A (zAc BT n).length c)/\w'.cell? ⟨w.heap.size,2,none⟩=some (.slice Z (zAc BT d).length c2))/\(w'.cell? ⟨w.heap.size+1,0,none⟩=some (.bool false)/\w'.cell? ⟨w.heap.size+1,1,none⟩=some (.slice A3 (zAc BT m).length c3)/\w'.cell? ⟨w.heap.size+1,2,none⟩=some (.slice A4 (zAc BT e).length c4)))
   ((refine⟨⟨?_,?_,?_⟩,?_,?_,?_⟩<;>first|with_reducible assumption|go_simp))
   (first
    |((go_at_call 122;(with_reducible refine(HMI.o (W.alloc (.cells zBB 202)).drew).mono ?_);rintro x w1⟨rfl,I⟩;have X:=zq (((G.o.alloc (.cells zBB 202)).drew).below I);have HY1:=zq (((Q.o.alloc (.cells zBB 202)).drew).below I);have HB1:=zq ((zAb (HB0.o.alloc HB0.o.size (.cells zBB 202)) 1).trans (I.mono (zAb (HB0.o.alloc HB0.o.size (.cells zBB 202)) 1).size));have k1:=zq (((g1.out.below ((aR _ _).alloc (aK _) (.cells zBB 202))).drew).below I);have k2:=zq (((g2.out.below ((aR _ _).alloc (aK _) (.cells zBB 202))).drew).below I);have k3:=zq (((g3.out.below ((aR _ _).alloc (aK _) (.cells zBB 202))).drew).below I);have k4:=zq (((g4.out.below ((aR _ _).alloc (aK _) (.cells zBB 202))).drew).below I);have HZ1:=zq ((Bx.new W zBB 202).drew.below I);have hzg:w.heap.size<=W.heap.size:=HB0.o.size;have sy0:=Q.o.lt;have q1:¬(w.heap.size=W.heap.size):=za;have q2:¬(w.heap.size+1=W.heap.size):=za;have q3:¬(W.heap.size=w.heap.size):=za;have q4:¬(W.heap.size=w.heap.size+1):=za;obtain⟨z0,z1,z2⟩:=HZ1.o.t;have zf:=HZ1.o.frozen;have zs:=HZ1.o.lt;clear I;clear a0 a1 a2 b0 b1 b2 sx sy;obtain⟨a0,a1,a2⟩:=X.o.t;obtain⟨b0,b1,b2⟩:=HY1.o.t;have sx:=X.o.lt;have sy:=HY1.o.lt))
    |((go_at_call 122;(with_reducible refine(HMI.o W.drew).mono ?_);rintro x w1⟨rfl,I⟩;have X:=zq ((G.o.drew).below I);have HY1:=zq ((Q.o.drew).below I);have HB1:=zq ((zAb HB0.o 1).trans (I.mono (zAb HB0.o 1).size));have k1:=zq ((g1.out.drew).below I);have k2:=zq ((g2.out.drew).below I);have k3:=zq ((g3.out.drew).below I);have k4:=zq ((g4.out.drew).below I);skip;clear I;clear a0 a1 a2 b0 b1 b2 sx sy;obtain⟨a0,a1,a2⟩:=X.o.t;obtain⟨b0,b1,b2⟩:=HY1.o.t;have sx:=X.o.lt;have sy:=HY1.o.lt))
    |((go_at_call 120;(with_reducible refine(plus_c false mg A Z A3 A4 c c2 c3 c4 n d m e (w1.alloc (.cells zBB 202)) (k1.out.below ((aR _ _).alloc (aK _) (.cells zBB 202))) (k2.out.below ((aR _ _).alloc (aK _) (.cells zBB 202))) (k3.out.below ((aR _ _).alloc (aK _) (.cells zBB 202))) (k4.out.below ((aR _ _).alloc (aK _) (.cells zBB 202))) J hd hm he hd0 he0).mono ?_);rintro x w2⟨A5,c5,A6,c6,rfl,h5,h6,I⟩;have HX2:=zq ((X.o.alloc (.cells zBB 202)).below I);have HY2:=zq ((HY1.o.alloc (.cells zBB 202)).below I);have HB2:=zq ((HB1.o.alloc HB1.o.size (.cells zBB 202)).trans (I.mono (HB1.o.alloc HB1.o.size (.cells zBB 202)).size));have HZ2:=zq ((Bx.new w1 zBB 202).below I);have hzg:w.heap.size<=w1.heap.size:=HB1.o.size;have sy1:=HY1.o.lt;have q1:¬(w.heap.size=w1.heap.size):=za;have q2:¬(w.heap.size+1=w1.heap.size):=za;have q3:¬(w1.heap.size=w.heap.size):=za;have q4:¬(w1.heap.size=w.heap.size+1):=za;obtain⟨z0,z1,z2⟩:=HZ2.o.t;have zf:=HZ2.o.frozen;have zs:=HZ2.o.lt;clear I;clear a0 a1 a2 b0 b1 b2 sx sy;obtain⟨a0,a1,a2⟩:=HX2.o.t;obtain⟨b0,b1,b2⟩:=HY2.o.t;have sx:=HX2.o.lt;have sy:=HY2.o.lt))
    |((go_at_call 120;(with_reducible refine(plus_c false mg A Z A3 A4 c c2 c3 c4 n d m e w1 k1.out k2.out k3.out k4.out J hd hm he hd0 he0).mono ?_);rintro x w2⟨A5,c5,A6,c6,rfl,h5,h6,I⟩;have HX2:=zq (X.o.below I);have HY2:=zq (HY1.o.below I);have HB2:=zq (HB1.o.trans (I.mono HB1.o.size));(first|(have HZ2:=zq (HZ1.o.below I);clear z0 z1 z2 zf zs;obtain⟨z0,z1,z2⟩:=HZ2.o.t;have zf:=HZ2.o.frozen;have zs:=HZ2.o.lt)|skip);clear I;clear a0 a1 a2 b0 b1 b2 sx sy;obtain⟨a0,a1,a2⟩:=HX2.o.t;obtain⟨b0,b1,b2⟩:=HY2.o.t;have sx:=HX2.o.lt;have sy:=HY2.o.lt)))
  all_goals
   (go_wp2_with fail);go_meet
   first
    |exact co_set HB2.o HZ2.o hzg
    |exact co_new HB2.o
 case rest =>
  obtain⟨g,A5,c5,A6,c6,rfl,hbx,hbw⟩:=hcut;have HBX:=zq hbx;have HBW:=zq hbw;clear hbx hbw;generalize (zDY false n d mg m e).1=ng at *;generalize (zDY false n d mg m e).2.1=p at *;generalize (zDY false n d mg m e).2.2=q at *;have x0:=HBX.o.c 0 rfl;have x1:=HBX.o.c 1 rfl;have xs:=HBX.o.lt
  by_cases h0:p=0
  ·subst h0
   have hz:(zAc BT 0).length=0:=rfl;have x1:_=some (Value.slice A5 0 c5):=x1;go_wp2;go_ret
   exact zAf.mk ze HBW.o
  ·have hl:=pos_lenT (Nat.pos_of_ne_zero h0)
   have hlb:(((zAc BT p).length:Int) == 0)=false:=by simp;intro e;rw[e]at hl;simp at hl
   cases ng with
   |true =>
    go_wp2;go_ret
    exact zAf.mk ze HBW.o
   |false =>
    go_wp2;go_ret
    exact zAf.mk ze HBW.o
abbrev rtC(nu de:BA):Array Value:=#[.string nu,.string de]
theorem head_get(s:BA)(h:0<s.size):s[0]'h=s.data.toList.headD 0:=by
 have h1:=Lib.getD_at s 0 h;rw[h1]
 cases s.data.toList<;>rfl
theorem negB_yes{s:BA}(h:zDf s=true):0<s.size/\(∀h0:0<s.size,(((s[0]'h0).toNat:Int) == 45)=true)/\s.extract 1 s.size=zAU s:=by
 have h':=h;unfold zDf at h';simp only[eE,bX]at h';refine⟨h'.1,fun h0=>?_,?_⟩
 ·rw[head_get s h0,h'.2];rfl
 ·have e:(s.extract 1 s.size).data.toList=(zAU s).data.toList:=by
   rw[Lib.extract_data];unfold zAU absL;rw[aF h];show(s.data.toList.drop 1).take (s.size-1)=s.data.toList.tail
   rw[bT (by rw[dH,<-Lib.size_eq];omega),List.drop_one]
  have e2:=bE List.toArray e;simp only[Array.toArray_toList]at e2;exact bE ByteArray.mk e2
theorem negB_no{s:BA}(h:zDf s=false):(¬0<s.size\/(0<s.size/\∀h0:0<s.size,(((s[0]'h0).toNat:Int) == 45)=false))/\zAU s=s:=by
 have h':=h;unfold zDf at h';refine⟨?_,?_⟩
 ·rcases bI s.size with h0|h0
  ·exact .inl za
  ·refine .inr ⟨h0,fun h1=>?_⟩
   simp only[Bool.and_eq_false_iff,decide_eq_false_iff_not]at h';have h2:=h'.resolve_left (fun h=>h h0);rw[head_get s h1,bW];intro e;exact h2 za
 ·unfold zAU absL
  rw[aO (by rw[h];simp)]
theorem Of_neg(nu de:BA)(w:World)(J:zDf nu=true)(hd:(zAU nu).data.toList.all dgB=true)(hs:(zAU nu).size<=2000)(hd2:de.data.toList.all dgB=true)(hs2:de.size<=2000): Calls Tryz.prog 176 #[.agg (rtC nu de)] w (zCo true (zAy (zAU nu)) (zAy de) w):=by
 have HB0:Hid (Below w.heap.size w ((w.alloc (.cells (rtC nu de) 36)).alloc (.cells zBB 202))):=((aR w.heap.size w).alloc (aK _) _).alloc ze _;have G:Hid (Bx ((w.alloc (.cells (rtC nu de) 36)).alloc (.cells zBB 202)) w.heap.size (rtC nu de) 36):=(Bx.new _ _ _).alloc _;have HZ0:Hid (Bx ((w.alloc (.cells (rtC nu de) 36)).alloc (.cells zBB 202)) (w.heap.size+1) zBB 202):=Bx.new1 _ _ _ _;have HL1:=zq (fun W=>zCQ (zAU nu) W hd za);have HL2:=zq (fun W=>zCQ de W hd2 za);obtain⟨W,hW⟩:∃W,W=((w.alloc (.cells (rtC nu de) 36)).alloc (.cells zBB 202)):=⟨_,rfl⟩;rw[<-hW]at HB0 G HZ0;obtain⟨hz,I,he⟩:=negB_yes J;have hb0:=I hz;clear J I
 go_enter Tryz.func176,Tryz.ntmps176;(go_upto_region 4 with fail);rw[<-hW];clear hW;have x0:=G.o.c 0 rfl;have x1:=G.o.c 1 rfl;have xs:=G.o.lt
 go_region_held3 (fun w'=>w'.cell? ⟨w.heap.size,0,none⟩=some (.string nu)/\w'.cell? ⟨w.heap.size,1,none⟩=some (.string de)) (first|(refine⟨?_,?_⟩<;>with_reducible assumption)|go_keep)
  (first
   |((go_at_call 186;(with_reducible refine(HL1.o W.drew).mono ?_);rintro x w1⟨A1,c1,rfl,h1,hb1⟩;have X:=zq (G.o.drew.below hb1);have HZ1:=zq (HZ0.o.drew.below hb1);have HB1:=zq ((zAb HB0.o 1).trans (hb1.mono HB0.o.size));have y0:=X.o.c 0 rfl;have y1:=X.o.c 1 rfl;have ys:=X.o.lt;have H1:=zq h1;clear h1 hb1))
   |((go_at_call 186;(with_reducible refine(HL2.o w1).mono ?_);rintro x w2⟨Z,c2,rfl,h2,D⟩;have HX2:=zq (X.o.below D);have HZ2:=zq (HZ1.o.below D);have HB2:=zq (zAa HB1.o D);have H12:=zq (H1.o.below D);have z0:=HX2.o.c 0 rfl;have z1:=HX2.o.c 1 rfl;have zs:=HX2.o.lt;have H2:=zq h2;obtain⟨r0,r1,r2⟩:=HZ2.o.t;have rf:=HZ2.o.frozen;have V:=HZ2.o.lt;have rn:¬(w.heap.size=w.heap.size+1):=za;clear h2 D)))
 go_wp2;refine aC (v:=nuV true A1 c1 (zBL (zAU nu).data.toList) Z c2 (zBL de.data.toList)) (by simp[results,Tryz.results176,go_sem,r0,r1,r2]) rfl ⟨A1,c1,Z,c2,rfl,H12.o.setR HZ2.o _ _ _ _ _,H2.o.setR HZ2.o _ _ _ _ _,zBA HB2.o za _ _ _⟩
theorem Of_pos(nu de:BA)(w:World)(J:zDf nu=false)(hd:(zAU nu).data.toList.all dgB=true)(hs:(zAU nu).size<=2000)(hd2:de.data.toList.all dgB=true)(hs2:de.size<=2000): Calls Tryz.prog 176 #[.agg (rtC nu de)] w (zCo false (zAy (zAU nu)) (zAy de) w):=by
 have HB0:Hid (Below w.heap.size w ((w.alloc (.cells (rtC nu de) 36)).alloc (.cells zBB 202))):=((aR w.heap.size w).alloc (aK _) _).alloc ze _;have G:Hid (Bx ((w.alloc (.cells (rtC nu de) 36)).alloc (.cells zBB 202)) w.heap.size (rtC nu de) 36):=(Bx.new _ _ _).alloc _;have HZ0:Hid (Bx ((w.alloc (.cells (rtC nu de) 36)).alloc (.cells zBB 202)) (w.heap.size+1) zBB 202):=Bx.new1 _ _ _ _;have HL1:=zq (fun W=>zCQ (zAU nu) W hd za);have HL2:=zq (fun W=>zCQ de W hd2 za);obtain⟨W,hW⟩:∃W,W=((w.alloc (.cells (rtC nu de) 36)).alloc (.cells zBB 202)):=⟨_,rfl⟩;rw[<-hW]at HB0 G HZ0;obtain⟨hcase,he⟩:=negB_no J;rw[he]at HL1 ⊢;clear J hd hs
 rcases hcase with hz|⟨hz,I⟩
 ·clear he
  exact tae
 ·have hb0:=I hz
  clear I he;exact tae
theorem Of_cT(nu de:BA)(w:World)(hd:(zAU nu).data.toList.all dgB=true)(hs:(zAU nu).size<=2000)(hd2:de.data.toList.all dgB=true)(hs2:de.size<=2000): Calls Tryz.prog 176 #[.agg (rtC nu de)] w (zCo (zDf nu) (zAy (zAU nu)) (zAy de) w):=by
 cases J:zDf nu with
 |true=>exact Of_neg nu de w J hd hs hd2 hs2
 |false=>exact Of_pos nu de w J hd hs hd2 hs2
def NumRel(w:World)(s:BA)(m:Nat)(i:Value)(wr:World):Prop:=
 wr=w/\∃k:Nat,k+m=s.size/\i=.int .i64 k/\(s.data.toList.take k).all dgB=true
theorem get_list(s:BA)(k:Nat)(h:k<s.size):∃h2:k<s.data.toList.length,s.data.toList[k]=s[k]'h:=by
 have h2:k<s.data.toList.length:=by rw[<-Lib.size_eq];exact h
 refine⟨h2,?_⟩
 rw[Lib.getD_at s k h,List.getD_eq_getElem?_getD,List.getElem?_eq_getElem h2]
 rfl
theorem numB_small{s:BA}(h:¬0<s.size):zCG s=false:=by
 unfold zCG;have h1:decide (s.size=1)=false:=zg;have h2:decide (1<s.size)=false:=zg;rw[h1,h2];simp
theorem numB_zero{s:BA}(h:1<s.size)(h0:(s.data.toList.headD 0).toNat=48):zCG s=false:=by
 unfold zCG;have h1:decide (s.size=1)=false:=zg;rw[h1,h0];simp
theorem numB_allT{s:BA}(h:s.size=1\/(1<s.size/\(s.data.toList.headD 0).toNat≠48)):zCG s=s.data.toList.all dgB:=by
 unfold zCG
 rcases h with h|⟨h1,h2⟩
 ·simp[h]
 ·rw[aD h1,aD h2];simp
theorem number_c(s:BA)(w:World)(hz:s.size<=9223372036854775807):Calls Tryz.prog 283 #[.string s] w (zAG (.bool (zCG s)) w):=by
 rcases bI s.size with h0|h0
 ·have hs:s=emp:=by
   have h1:s.data.toList=emp.data.toList:=by
    have h2:s.data.toList.length=0:=by rw[<-Lib.size_eq];exact h0
    rw[List.length_eq_zero_iff.1 h2];rfl
   have h2:=bE List.toArray h1;simp only[Array.toArray_toList]at h2;exact bE ByteArray.mk h2
  have he:=zAr hs;rw[numB_small za];clear hs
  go_enter Tryz.func283,Tryz.ntmps283;go_wp2;go_ret
  exact zAG.mk rfl rfl
 ·have he:s.toList.isEmpty=false:=zAq (fun e=>by rw[e]at h0;exact absurd h0 zd)
  have hh:=head_get s h0
  by_cases hA:1<s.size/\(s.data.toList.headD 0).toNat=48
  ·obtain⟨h1,h48⟩:=hA
   rw[numB_zero h1 h48];have I:(((s[0]'h0).toNat:Int) == 48)=true:=by rw[hh,h48];rfl
   clear hh h48
   go_enter Tryz.func283,Tryz.ntmps283;go_wp2;go_ret
   exact zAG.mk rfl rfl
  ·have HN:Hid (zCG s=s.data.toList.all dgB):=numB_allT (by
    by_cases h1:1<s.size
    ·exact .inr ⟨h1,fun e=>hA ⟨h1,e⟩⟩
    ·exact .inl za)
   have hcase:¬1<s.size\/(1<s.size/\(((s[0]'h0).toNat:Int) == 48)=false):=by
    by_cases h1:1<s.size
    ·refine .inr ⟨h1,?_⟩
     rw[hh,bW];intro e;exact hA ⟨h1,za⟩
    ·exact .inl h1
   clear hA hh
   rcases hcase with h1|⟨h1,I⟩
   all_goals
    go_enter Tryz.func283,Tryz.ntmps283;go_wp2
    go_loopg[3] s.size (NumRel w s)
    case atStart=>exact⟨rfl,0,za,rfl,ze⟩
    case round =>
     obtain⟨hw,k,hk,rfl,F⟩:=hrel;subst hw;have HA:=zq F;have HK:=zq hk;clear F hk
     by_cases Y:k<s.size
     ·obtain⟨h2,hg⟩:=get_list s k Y
      have HG:=zq hg;clear hg
      by_cases h48:48<=(s[k]'Y).toNat
      ·by_cases h57:(s[k]'Y).toNat<=57
       ·go_wp2
        go_roundg (gk-1)
        case measure=>have:=HK.o;omega
        case rel =>
         refine⟨rfl,k+1,zh,zi,?_⟩
         rw[aG h2,eD,HA.o,HG.o];simp[dgB,h48,h57]
       ·have HF:Hid (zCG s=false):=by
         show _=_
         rw[HN.o,List.all_eq_false];exact⟨_,aH h2,by rw[HG.o];simp[dgB,h57]⟩
        exact tft
      ·have HF:Hid (zCG s=false):=by
        show _=_
        rw[HN.o,List.all_eq_false];exact⟨_,aH h2,by rw[HG.o];simp[dgB,h48]⟩
       exact tft
     ·obtain rfl:k=s.size:=by have:=HK.o;omega
      have HF:Hid (zCG s=true):=by
       show _=_
       rw[HN.o];have:=HA.o
       rwa [bT (by rw[<-Lib.size_eq];exact aK _)]at this
      exact tft
end Go.Proofs.YtbbchlpccgkikaaGreatDoor
