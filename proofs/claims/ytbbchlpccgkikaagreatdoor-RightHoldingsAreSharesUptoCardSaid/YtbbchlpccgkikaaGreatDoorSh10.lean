/- Parts of the proof, joined: Package right: Check of a title (its walk printed by gen_check.py). Pa. -/
import Derived.Test.YtbbchlpccgkikaaGreatDoorSh08
import Derived.Test.YtbbchlpccgkikaaGreatDoorSh09
import Derived.Shelf.Strconv.Atoi
set_option maxRecDepth 100000
set_option maxHeartbeats 8000000
namespace Go.Proofs.YtbbchlpccgkikaaGreatDoor
open Go.RowKit Dw
def Des(w:World)(A:Option Addr)(l:List De):Prop:=
 0<l.length->∃b o:Nat,A=some ⟨b,o,none⟩/\b<w.heap.size/\∀i (h:i<l.length),w.rangeAt b (o+i*16) (deC l[i]).toList/\DeOk w l[i]
theorem Des.below{w w':World}{A:Option Addr}{l:List De}(h:Des w A l)(hb:Below w.heap.size w w'):Des w' A l:=fun hl=>by
 obtain⟨b,o,rfl,hlt,hc⟩:=h hl;refine⟨b,o,rfl,aB hlt hb.size,fun i hi=>⟨fun j v hv=>?_,(hc i hi).2.below hb⟩⟩
 rw[hb.cell hlt];exact(hc i hi).1 j v hv
abbrev tiC(RA:Option Addr)(rc:Nat)(rs:List Rg)(UA:Option Addr)(uc:Nat)(us:List BA)(DA:Option Addr)(dc:Nat)(ds:List De):Array Value:=#[.slice RA rs.length rc,.slice UA us.length uc,.slice DA ds.length dc]
def zBK(rs:List Rg)(us:List BA)(ds:List De)(k:Nat):Option Int:=
 if progF rs us (ds.take k) (ds.getD k default)≠0 then some (progF rs us (ds.take k) (ds.getD k default)) else none
def chkP(rs:List Rg)(us:List BA)(ds:List De):Int:=
 if chkR rs≠0 then chkR rs else if us=[] then 9 else if 20<us.length then 2 else
 match (List.range us.length).findSome? (zBB us)with
 |some f=>f
 |none=>if 200<ds.length then 2 else match (List.range ds.length).findSome? (zBK rs us ds)with
  |some f=>f
  |none=>0
def chkP2(rs:List Rg)(us:List BA)(ds:List De):Int:=if 200<ds.length then 2 else match (List.range ds.length).findSome? (zBK rs us ds)with
  |some f=>f
  |none=>0
theorem chkP_un{rs:List Rg}{us:List BA}{ds:List De}{k:Nat}{f:Int}(h0:chkR rs=0)(h1:us≠[])(h2:¬20<us.length)(hk:k<us.length)(hp:∀j,j<k->zBB us j=none)(hf:zBB us k=some f):chkP rs us ds=f:=by
 unfold chkP;rw[aW (fun h=>h h0),aW h1,aW h2,zBf hk hp hf]
theorem chkP_de{rs:List Rg}{us:List BA}{ds:List De}(h0:chkR rs=0)(h1:us≠[])(h2:¬20<us.length)(hp:∀j,j<us.length->zBB us j=none):chkP rs us ds=chkP2 rs us ds:=by
 unfold chkP chkP2;rw[aW (fun h=>h h0),aW h1,aW h2,zBl hp]
theorem progF_zero{rs:List Rg}{us:List BA}{pre:List De}{d:De}(h:progF rs us pre d=0):(1<=d.kd/\d.kd<=5)/\zAw d=false/\pre.any (zBA d.id)=false:=by
 unfold progF at h
 split at h
 ·cases h
 unfold prog1 at h
 split at h
 ·cases h
 unfold prog2 at h
 split at h
 ·cases h
 unfold prog3 at h
 split at h
 ·cases h
 next h3 =>
 unfold prog4 at h
 split at h
 ·cases h
 next h4 =>
 unfold prog5 at h
 split at h
 ·cases h
 next h5 =>
 exact⟨za,by simpa using h5,by simpa using h3⟩
def UnRel(w:World)(us:List BA)(m:Nat)(i:Value)(wr:World):Prop:=
 ∃k:Nat,k+m=us.length/\i=.int .i64 k/\(∀j,j<k->zBB us j=none)/\Below w.heap.size w wr
def DeRel(w0:World)(ci:Nat)(RA:Option Addr)(rc r1 r2 g1 g2:Nat)(AL:Option Addr)(cL:Nat)(rs:List Rg)(UA:Option Addr)(uc:Nat)(us:List BA)(m2 m3 m4 m5 lo hi:Nat)(ds:List De)(m:Nat)(i:Value)(wr:World):Prop:=
 ∃(k:Nat)(p:De),k+m=ds.length/\i=.int .i64 k/\CS w0 wr ci RA rc r1 r2 g1 g2 AL cL rs UA uc us m2 m3 m4 m5 lo hi p (ds.take k)/\∀j,j<k->zBK rs us ds j=none
theorem Check_c(RA:Option Addr)(rc:Nat)(rs:List Rg)(UA:Option Addr)(uc:Nat)(us:List BA)(DA:Option Addr)(dc:Nat)(ds:List De)(w:World)(hr:Rgs w RA rs)(hu:Strs w UA us)(hd:Des w DA ds)(hz:∀i (h:i<rs.length),(rs[i]).nm.size<=9223372036854775807)(hz2:∀i (h:i<us.length),(us[i]).size<=9223372036854775807): Calls Tryz.prog 40 #[.agg (tiC RA rc rs UA uc us DA dc ds)] w (zAg (.int .i64 (chkP rs us ds)) w):=by
 generalize hres:chkP rs us ds=res;have HR:=zq hres;clear hres;have hbW:Below w.heap.size w (w.alloc (.cells (tiC RA rc rs UA uc us DA dc ds) 26)):=(aJ _ _).alloc (aE _) _;have HX:Hid (Bx (w.alloc (.cells (tiC RA rc rs UA uc us DA dc ds) 26)) w.heap.size (tiC RA rc rs UA uc us DA dc ds) 26):=Bx.new _ _ _;obtain⟨W,hW⟩:∃W,W=w.alloc (.cells (tiC RA rc rs UA uc us DA dc ds) 26):=⟨_,rfl⟩;rw[<-hW]at HX hbW;have HB:=zq hbW;have HRG:=zq (hr.below hbW);have HUS:=zq (hu.below hbW);have HDE:=zq (hd.below hbW);clear hbW hr hu hd
 go_enter Tryz.func40,Tryz.ntmps40;(go_wp2_with fail);rw[<-hW];clear hW;have x0:=HX.o.c 0 rfl;have hsz:=HX.o.lt;(go_wp2_with fail);(with_reducible refine(CheckRegions_c RA rc rs W HRG.o hz).mono ?_);rintro e w1⟨rfl,hb1⟩;have HB1:=zq (zAa HB.o hb1);have HX1:=zq (HX.o.below hb1);have HRG1:=zq (HRG.o.below hb1);have HUS1:=zq (HUS.o.below hb1);have HDE1:=zq (HDE.o.below hb1);clear x0 hsz hb1 HB HX HRG HUS HDE hz
 by_cases hcr:chkR rs=0
 case neg =>
  have hcb:(chkR rs != 0)=true:=by simpa using hcr
  have HS:Hid (res=chkR rs):=by
   show _=_
   rw[<-HR.o];unfold chkP;rw[aD hcr]
  clear hcr HR;exact tdg
 have HCR:=zq hcr;have g:=zDt hcr;rw[hcr];clear hcr;have x1:=HX1.o.c 1 rfl;have hsz:=HX1.o.lt
 by_cases hu0:us=[]
 ·have hlb:((us.length:Int) == 0)=true:=by rw[hu0];rfl
  have HS:Hid (res=9):=by
   show _=_
   rw[<-HR.o];unfold chkP;rw[aW (fun h=>h HCR.o),aD hu0]
  clear hu0 HR;exact tdg
 have hup:0<us.length:=List.length_pos_iff.2 hu0;have hlb:((us.length:Int) == 0)=false:=by rw[beq_eq_false_iff_ne];omega
 have HU0:=zq hu0;clear hu0
 by_cases hu20:20<us.length
 ·have HS:Hid (res=2):=by
   show _=_
   rw[<-HR.o];unfold chkP;rw[aW (fun h=>h HCR.o),aW HU0.o,aD hu20]
  have h20:(20:Int)<(us.length:Int):=za;clear hu20 HR;exact tdg
 have h20:¬(20:Int)<(us.length:Int):=za;have HH:Hid (∀k f,k<us.length->(∀j,j<k->zBB us j=none)->zBB us k=some f->res=f):=fun k f hk hp hf=>by rw[<-HR.o];exact chkP_un HCR.o HU0.o hu20 hk hp hf
 have HN:Hid ((∀j,j<us.length->zBB us j=none)->res=chkP2 rs us ds):=fun hp=>by rw[<-HR.o];exact chkP_de HCR.o HU0.o hu20 hp
 have hul:us.length<=1000000:=za;have HZ2:=zq hz2;clear hu20 HR hz2;obtain⟨b,o,hA,hbu,hcu⟩:=HUS1.o.at_ hup;have HCU:=zq hcu;clear hcu;go_wp2
 go_loopg[27] us.length (UnRel w1 us)
 case atStart=>exact⟨0,za,rfl,fun j hj=>absurd hj za,aJ _ _⟩
 case round =>
  obtain⟨k,hkm,rfl,hpre,hbel⟩:=hrel;have HK:=zq hkm;have HP:=zq hpre;have HBL:=zq hbel;have HX2:=zq (HX1.o.below hbel);have hk1:k<=us.length:=za;have hbr:b<wr.heap.size:=aB hbu hbel.size;clear hkm hpre hbel x1 hsz
  by_cases hlt:k<us.length
  ·have hc0:wr.cell? ⟨b,o+k,none⟩=some (.string us[k]):=(HBL.o.cell hbu).trans (HCU.o k hlt)
   have hzk:=HZ2.o k hlt;subst hA;(go_wp2_with fail);(with_reducible refine(zBE us[k] _ hzk).mono ?_);rintro e w2⟨rfl,hb2⟩;have HBL2:=zq (zAa HBL.o hb2);have HX3:=zq (HX2.o.below hb2);clear hc0 hb2 HBL HX2
   cases hnm:zBi us[k]with
   |false =>
    have HS:Hid (res=5):=HH.o k 5 hlt HP.o (by unfold zBB;rw[usAt_of hlt,aD hnm]);clear hnm;go_wp2;go_ret
    exact zAg.mk (zCp HS.o.symm) (zAa HB1.o HBL2.o)
   |true =>
    have HNM:=zq hnm;clear hnm;have x1:=HX3.o.c 1 rfl;have hsz:=HX3.o.lt
    by_cases hk0:0<k
    case pos =>
     have zp:w2.cell? ⟨b,o+(k-1),none⟩=some (.string (us[k-1]'(by omega))):=(HBL2.o.cell hbu).trans (HCU.o (k-1) za);have hdk:decide ((0:Int)<(k:Int))=true:=ze
     cases hle:sle us[k] (us[k-1]'(by omega))with
     |true =>
      have HS:Hid (res=8):=HH.o k 8 hlt HP.o (by unfold zBB;rw[usAt_of hlt,usAt_of (show k-1<us.length by omega),aW (by rw[HNM.o];simp),aD ⟨hk0,hle⟩]);unfold sle at hle;go_wp2;go_ret
      exact zAg.mk (zCp HS.o.symm) (zAa HB1.o HBL2.o)
     |false =>
      have HF:Hid (zBB us k=none):=by
       show _=_
       unfold zBB;rw[usAt_of hlt,usAt_of (show k-1<us.length by omega),aW (by rw[HNM.o];simp),aW (fun hh=>by rw[hle]at hh;cases hh.2)]
      unfold sle at hle;exact tax
    case neg =>
     have hdk:decide ((0:Int)<(k:Int))=false:=ze
     have HF:Hid (zBB us k=none):=by
      show _=_
      unfold zBB;rw[usAt_of hlt,aW (by rw[HNM.o];simp),aW (fun hh=>hk0 hh.1)]
     exact tax
  ·obtain rfl:k=us.length:=by omega
   have HE:Hid (chkP2 rs us ds=res):=(HN.o HP.o).symm;have x2:=HX2.o.c 2 rfl;have hsz:=HX2.o.lt;have HBW:=zq (zAa HB1.o HBL.o);have HRG2:=zq (HRG1.o.below HBL.o);have HUS2:=zq (HUS1.o.below HBL.o);have HDE2:=zq (HDE1.o.below HBL.o);clear HK HP HN HH HCU HRG1 HUS1 HDE1 HX1 hbr hlt hk1 HBL HB1 hbu hA
   by_cases hd200:200<ds.length
   ·have HS:Hid (res=2):=by
     show _=_
     rw[<-HE.o];unfold chkP2;rw[aD hd200]
    have h200:(200:Int)<(ds.length:Int):=za;clear hd200 HE;go_wp2;go_ret
    exact zAg.mk (zCp HS.o.symm) HBW.o
   have h200:¬(200:Int)<(ds.length:Int):=za
   have HH:Hid (∀k f,k<ds.length->(∀j,j<k->zBK rs us ds j=none)->zBK rs us ds k=some f->res=f):=fun k f hk hp hf=>by
    rw[<-HE.o];unfold chkP2;rw[aW hd200,zBf hk hp hf]
   have HN:Hid ((∀j,j<ds.length->zBK rs us ds j=none)->res=0):=fun hp=>by
    rw[<-HE.o];unfold chkP2;rw[aW hd200,zBl hp]
   have hdl:ds.length<=200:=za;clear hd200 HE;obtain⟨w5,hw5⟩:∃w5:World,w5=wr:=⟨_,rfl⟩;subst hw5;(go_wp2_with fail);refine region18 g HX2.o HRG2.o HUS2.o rfl zb zb zb rfl zd ⟨_,_,_,rfl⟩ ⟨_,_,_,rfl⟩ ⟨_,_,_,rfl⟩ ⟨_,_,_,rfl⟩ ⟨_,_,_,rfl⟩ ⟨_,_,_,rfl⟩ ⟨_,_,_,rfl⟩ ⟨_,_,_,rfl⟩ ⟨_,_,_,rfl⟩ ⟨_,_,_,rfl⟩ ⟨_,_,_,rfl⟩ ⟨_,_,_,rfl⟩ zb zb zb zb zb zb zb zb zb zb zb ?_;intro ci r1 r2 g1 g2 AL cL m2 m3 m4 m5 lo hi vals w3 hcs v0 v1 v2 v3 v4 v5 v6 v7 v8 v9 v10;simp[zAj,Act.put,v0,v1,v2,v3,v4,v5,v6,v7,v8,v9,v10,List.range_succ]
   have HCS:=zq hcs;clear v0 v1 v2 v3 v4 v5 v6 v7 v8 v9 v10 vals x2 hsz hcs;have HX4:=zq (HX2.o.below HCS.o.bel);have x2:=HX4.o.c 2 rfl;have hsz:=HX4.o.lt;go_wp2
   go_loopg[65] ds.length (DeRel w5 ci RA rc r1 r2 g1 g2 AL cL rs UA uc us m2 m3 m4 m5 lo hi ds)
   case atStart=>exact⟨0,zDe,za,rfl,HCS.o,fun j hj=>absurd hj za⟩
   clear HCS HX4 x2 hsz
   case round =>
    obtain⟨k,p,hkm,rfl,hcs,hpre⟩:=hrel;have HK:=zq hkm;have HP:=zq hpre;have HC:=zq hcs;have hk1:k<=ds.length:=za;clear hkm hpre hcs
    by_cases hlt:k<ds.length
    ·obtain⟨b,o,hA,hbu,hcd⟩:=HDE2.o za
     have hdk:=(hcd k hlt);have HOK:=zq hdk.2;have hrange0:=hdk.1;clear hdk hcd;obtain⟨d,hdd⟩:∃d,d=ds[k]:=⟨_,rfl⟩;rw[<-hdd]at HOK hrange0;have hgd:ds.getD k default=d:=by rw[hdd];simp[List.getD,hlt]
     have htk:ds.take (k+1)=ds.take k++[d]:=by rw[hdd];exact bA hlt
     have HGD:=zq hgd;have HTK:=zq htk;have hrange:∀j v,(deC d).toList[j]?=some v->wr.cell? ⟨b,o+k*16+j,none⟩=some v:=fun j v hv=>(HC.o.bel.cell hbu).trans (hrange0 j v hv)
     have HOK2:=zq (HOK.o.below HC.o.bel)
     have hgk:∀q∈ds.take k,1<=q.kd:=fun q hq=>by
      obtain⟨j,hj,rfl⟩:=dO hq;rw[cC]at hj;have hjk:j<k:=za;have h1:=HP.o j hjk;unfold zBK at h1
      split at h1
      ·cases h1
      ·next h2 =>
       have h3:=(progF_zero (Decidable.not_not.1 h2)).1.1;rw[aP];have e:ds.getD j default=ds[j]'(by omega):=by simp[List.getD,show j<ds.length by omega]
       rwa [e]at h3
     have HGK:=zq hgk;have HOT:=zq htk;clear hgd htk hgk hdd HOT HOK hrange0;have c0:wr.cell? ⟨b,o+k*16,none⟩=some (deC d)[0]:=hrange 0 _ rfl;have c1:wr.cell? ⟨b,o+k*16+1,none⟩=some (deC d)[1]:=hrange 1 _ rfl;have c2:wr.cell? ⟨b,o+k*16+2,none⟩=some (deC d)[2]:=hrange 2 _ rfl;have c3:wr.cell? ⟨b,o+k*16+3,none⟩=some (deC d)[3]:=hrange 3 _ rfl;have c4:wr.cell? ⟨b,o+k*16+4,none⟩=some (deC d)[4]:=hrange 4 _ rfl;have c5:wr.cell? ⟨b,o+k*16+5,none⟩=some (deC d)[5]:=hrange 5 _ rfl;have c6:wr.cell? ⟨b,o+k*16+6,none⟩=some (deC d)[6]:=hrange 6 _ rfl;have c7:wr.cell? ⟨b,o+k*16+7,none⟩=some (deC d)[7]:=hrange 7 _ rfl;have c8:wr.cell? ⟨b,o+k*16+8,none⟩=some (deC d)[8]:=hrange 8 _ rfl;have c9:wr.cell? ⟨b,o+k*16+9,none⟩=some (deC d)[9]:=hrange 9 _ rfl;have c10:wr.cell? ⟨b,o+k*16+10,none⟩=some (deC d)[10]:=hrange 10 _ rfl;have c11:wr.cell? ⟨b,o+k*16+11,none⟩=some (deC d)[11]:=hrange 11 _ rfl;have c12:wr.cell? ⟨b,o+k*16+12,none⟩=some (deC d)[12]:=hrange 12 _ rfl;have c13:wr.cell? ⟨b,o+k*16+13,none⟩=some (deC d)[13]:=hrange 13 _ rfl;have c14:wr.cell? ⟨b,o+k*16+14,none⟩=some (deC d)[14]:=hrange 14 _ rfl;have c15:wr.cell? ⟨b,o+k*16+15,none⟩=some (deC d)[15]:=hrange 15 _ rfl;have HC2:=zq (HC.o.below (w':=wr.alloc (.cells (deC d) 126)) ((aJ _ _).alloc (aE _) _));have HOK3:=zq (HOK2.o.below (w':=wr.alloc (.cells (deC d) 126)) ((aJ _ _).alloc (aE _) _));have HDC:=zq (deed_c w5 ci RA rc r1 r2 g1 g2 AL cL rs UA uc us m2 m3 m4 m5 lo hi p (ds.take k) d _ g hul HGK.o HC2.o HOK3.o);clear hrange HC;subst hA;(go_wp2_with fail);(with_reducible refine HDC.o.mono ?_);rintro e w6⟨rfl,hb6,hn6⟩;have HB6:=zq (zAa HBW.o hb6);have HN6:=zq hn6;clear c0 c1 c2 c3 c4 c5 c6 c7 c8 c9 c10 c11 c12 c13 c14 c15 hb6 hn6 HC2 HOK2 HOK3 HDC
     by_cases hpz:progF rs us (ds.take k) d=0
     case neg =>
      have hpb:(progF rs us (ds.take k) d != 0)=true:=by simpa using hpz
      have HS:Hid (res=progF rs us (ds.take k) d):=HH.o k _ hlt HP.o (by unfold zBK;rw[HGD.o,aD hpz]);clear hpz;go_wp2;go_ret
      exact zAg.mk (zCp HS.o.symm) HB6.o
     have HF:Hid (zBK rs us ds k=none):=by
      show _=_
      unfold zBK;rw[HGD.o,aW (fun h=>h hpz)]
     have HC6:=zq (HN6.o hpz);rw[hpz];clear hpz HN6;go_wp2
     go_roundg (gk-1)
     case measure=>have:=HK.o;omega
     case rel =>
      refine⟨k+1,d,zh,zi,by rw[HTK.o];exact HC6.o,fun j hj=>?_⟩;exact tdn
    ·obtain rfl:k=ds.length:=by omega
     have HS:Hid (res=0):=HN.o HP.o;go_wp2;go_ret
     exact zAg.mk (zCp HS.o.symm) (zAa HBW.o HC.o.bel)
theorem need_fr{d:De}(hk:d.kd=1)(h:zAw d=false):d.fr=emp:=by
 unfold zAw at h;rw[hk]at h;simp[zAl]at h
 exact h.1.1.1.1.1.1
theorem need_th{d:De}(hk:d.kd=5)(h:zAw d=false):d.th=emp:=by
 unfold zAw at h;rw[hk]at h;simp[zAl]at h
 exact h.1.1.1.1.1.1
def Gd(pre:List De):Prop:=(∀q∈pre,(1<=q.kd/\q.kd<=5)/\zAw q=false)/\pre.Pairwise (fun a b=>a.id≠b.id)
theorem kN_cons(a:De)(t:List De)(x:BA):kN (a::t) x=if a.id=x then a.kd else kN t x:=by
 unfold kN
 by_cases h:a.id=x
 ·rw[List.find?_cons_of_pos (by simp[zBA,h]),aD h]
 ·rw[List.find?_cons_of_neg (by simp[zBA,h]),aW h]
theorem kN_any:∀(pre:List De)(x:BA),pre.Pairwise (fun a b=>a.id≠b.id)->zAl (kN pre x)=pre.any fun p=>decide (p.id=x)&&zAl p.kd
 |[],_,_=>rfl
 |a::t,x,h=>by
  rw[eN]at h;rw[kN_cons,List.any_cons]
  by_cases e:a.id=x
  ·rw[aD e]
   have:(t.any fun p=>decide (p.id=x)&&zAl p.kd)=false:=by
    rw[dV];intro q hq;have:=h.1 q hq;simp
    intro e2;exact absurd (e.trans e2.symm) this
   rw[this];simp[e]
  ·rw[aW e,kN_any t x h.2]
   simp[e]
theorem any_born{pre:List De}{d:De}(hg:∀q∈pre,(1<=q.kd/\q.kd<=5)/\zAw q=false)(hk:d.kd=1)(hd:zAw d=false): (pre.any fun p=>decide (p.kd=d.kd)&&decide (p.th=d.th)&&decide (p.fr=d.fr))=bornB pre d.th:=by
 unfold bornB;rw[hk,need_fr hk hd]
 induction pre with
 |nil=>rfl
 |cons a t ih =>
  rw[List.any_cons,List.any_cons,ih fun q hq=>hg q (by simp[hq])]
  congr 1
  by_cases h:a.kd=1
  ·rw[need_fr h (hg a zd).2];simp
  ·simp[h]
theorem any_gone{pre:List De}{d:De}(hg:∀q∈pre,(1<=q.kd/\q.kd<=5)/\zAw q=false)(hk:d.kd=5)(hd:zAw d=false): (pre.any fun p=>decide (p.kd=d.kd)&&decide (p.th=d.th)&&decide (p.fr=d.fr))=goneB pre d.fr:=by
 unfold goneB;rw[hk,need_th hk hd]
 induction pre with
 |nil=>rfl
 |cons a t ih =>
  rw[List.any_cons,List.any_cons,ih fun q hq=>hg q (by simp[hq])]
  congr 1
  by_cases h:a.kd=5
  ·rw[need_th h (hg a zd).2];simp
  ·simp[h]
theorem progF_chkD{l:List Rg}{us:List BA}{pre:List De}{d:De}(hg:Gd pre):progF l us pre d=chkD l us pre d:=by
 unfold progF chkD
 by_cases h1:zBi d.id=false
 ·rw[aD h1,aD h1]
 rw[aW h1,aW h1];unfold prog1
 by_cases h2:zCF d.day=false
 ·rw[aD h2,aD h2]
 rw[aW h2,aW h2];unfold prog2
 by_cases h3:ordB pre d=false
 ·rw[aD h3,aD h3]
 rw[aW h3,aW h3];unfold prog3;have e4:(pre.any fun p=>decide (p.id=d.id))=pre.any (zBA d.id):=rfl;rw[e4]
 by_cases h4:pre.any (zBA d.id)=true
 ·rw[aD h4,aD h4]
 rw[aW h4,aW h4];unfold prog4
 by_cases h5:d.kd<1\/5<d.kd
 ·rw[aD h5,aD h5]
 rw[aW h5,aW h5];unfold prog5
 by_cases h6:zAw d=true
 ·rw[aD h6,aD h6]
 rw[aW h6,aW h6];have hn:zAw d=false:=by simpa using h6
 have hk:d.kd=1\/d.kd=2\/d.kd=3\/d.kd=4\/d.kd=5:=za;unfold prog6 valF;have tw0:d.kd≠1->d.kd≠5->twB pre d=false:=fun a b=>by unfold twB;simp[a,b]
 rcases hk with hk|hk|hk|hk|hk
 ·have hgv:¬zAl d.kd=true:=by rw[hk];decide
  rw[aW hgv,aW (show ¬d.kd=4 by omega),aW hgv,aW (show ¬d.kd=4 by omega)];have ht:twB pre d=bornB pre d.th:=by unfold twB;rw[hk];simp
  unfold divV divF;rw[ht,any_born hg.1 hk hn];unfold zCw;have hk5:¬d.kd=5:=za
  by_cases q1:(d.kd=1/\zBi d.th=false)\/(d.kd=5/\zBi d.fr=false)
  ·simp[q1]
  ·rw[aW q1,aW q1]
   by_cases q2:zCF d.bg=false
   ·simp[q2]
   ·by_cases q3:shF d.kd d.sh=0
    ·simp[q2,q3,hk5]
    ·simp[q2,q3]
 ·exact tbo
 ·exact tbo
 ·have hgv:¬zAl d.kd=true:=by rw[hk];decide
  rw[aW hgv,aD hk,aW hgv,aD hk,tw0 za za];have ha:=kN_any pre d.ot hg.2;unfold endV endF;rw[<-ha];have hb:endB pre d.ot=pre.any fun p=>decide (p.kd=4)&&decide (p.ot=d.ot):=rfl
  rw[<-hb];have hgk:(kN pre d.ot≠2/\kN pre d.ot≠3)↔zAl (kN pre d.ot)=false:=by unfold zAl;simp
  by_cases q2:zCF d.bg=false
  ·simp[q2]
  ·by_cases q3:zAl (kN pre d.ot)=false
   ·have:=hgk.2 q3
    simp[q2,q3,this]
   ·have:¬(kN pre d.ot≠2/\kN pre d.ot≠3):=fun h=>q3 (hgk.1 h)
    rw[aW q2,aW q2,aW this,aW q3]
    cases endB pre d.ot<;>simp
 ·have hgv:¬zAl d.kd=true:=by rw[hk];decide
  rw[aW hgv,aW (show ¬d.kd=4 by omega),aW hgv,aW (show ¬d.kd=4 by omega)];have ht:twB pre d=goneB pre d.fr:=by unfold twB;rw[hk];simp
  unfold divV divF;rw[ht,any_gone hg.1 hk hn];unfold zCw
  by_cases q1:(d.kd=1/\zBi d.th=false)\/(d.kd=5/\zBi d.fr=false)
  ·simp[q1]
  ·rw[aW q1,aW q1]
   by_cases q2:zCF d.bg=false
   ·simp[q2]
   ·by_cases q3:shF d.kd d.sh=0
    ·by_cases q4:(d.sh.any fun s=>decide (s.pt=d.fr))=true
     ·exact tca
     ·exact tca
    ·simp[q2,q3]
theorem gd_take{rs:List Rg}{us:List BA}{ds:List De}:∀(k:Nat),k<=ds.length->(∀j,j<k->zBK rs us ds j=none)->Gd (ds.take k)
 |0,_,_=>⟨zd,zd⟩
 |k+1,hk,hp=>by
  have ih:=gd_take k za fun j hj=>hp j za
  have h1:=hp k za;have hlt:k<ds.length:=za;have hgd:ds.getD k default=ds[k]:=by simp[List.getD,hlt]
  unfold zBK at h1;rw[hgd]at h1
  split at h1
  ·cases h1
  ·next h2 =>
   obtain⟨a,b,c⟩:=progF_zero (Decidable.not_not.1 h2);rw[bA hlt];refine⟨fun q hq=>?_,?_⟩
   ·rcases List.mem_append.1 hq with hq|hq
    ·exact ih.1 q hq
    ·rw[List.mem_singleton]at hq
     subst hq;exact⟨a,b⟩
   ·rw[List.pairwise_append]
    refine⟨ih.2,zd,fun x hx y hy=>?_⟩;rw[List.mem_singleton]at hy;subst hy;rw[dV]at c;have:=c x hx
    simpa[zBA]using this
theorem pe_de{rs:List Rg}{us:List BA}{ds:List De}:∀(n:Nat),n<=ds.length->(List.range n).findSome? (zBK rs us ds)=(List.range n).findSome? (deFault rs us ds)
 |0,_=>rfl
 |n+1,hn=>by
  rw[dP,List.findSome?_append,List.findSome?_append,pe_de n za]
  cases h:(List.range n).findSome? (deFault rs us ds)with
  |some f=>rfl
  |none =>
   have hp:∀j,j<n->zBK rs us ds j=none:=fun j hj=>by
    have h2:=pe_de (rs:=rs) (us:=us) (ds:=ds) n za;rw[h,List.findSome?_eq_none_iff]at h2;exact h2 j (List.mem_range.2 hj)
   have hg:=gd_take n za hp
   have e:zBK rs us ds n=deFault rs us ds n:=by
    unfold zBK deFault;rw[progF_chkD hg]
   simp[e]
theorem chkP_chkT(rs:List Rg)(us:List BA)(ds:List De):chkP rs us ds=zBQ rs us ds:=by
 unfold chkP zBQ;rw[pe_de ds.length (aE _)]
 rfl
theorem CheckT_c(RA:Option Addr)(rc:Nat)(rs:List Rg)(UA:Option Addr)(uc:Nat)(us:List BA)(DA:Option Addr)(dc:Nat)(ds:List De)(w:World)(hr:Rgs w RA rs)(hu:Strs w UA us)(hd:Des w DA ds)(hz:∀i (h:i<rs.length),(rs[i]).nm.size<=9223372036854775807)(hz2:∀i (h:i<us.length),(us[i]).size<=9223372036854775807): Calls Tryz.prog 40 #[.agg (tiC RA rc rs UA uc us DA dc ds)] w (zAg (.int .i64 (zBQ rs us ds)) w):=by
 rw[<-chkP_chkT];exact Check_c RA rc rs UA uc us DA dc ds w hr hu hd hz hz2
end Go.Proofs.YtbbchlpccgkikaaGreatDoor
namespace Go.Proofs.YtbbchlpccgkikaaGreatDoor
open Dw
theorem inc_pair{l:List BA}(h:∀i (h:i+1<l.length),slt l[i] l[i+1]=true):l.Pairwise fun a b=>slt a b=true:=by
 rw[List.pairwise_iff_getElem];intro i j hi hj hij;obtain⟨d,rfl⟩:∃d,j=i+d+1:=⟨j-i-1,za⟩
 induction d with
 |zero=>exact h i hj
 |succ d ih=>exact slt_trans (ih za za) (h (i+d+1) hj)
theorem uses_len{us l:List BA}(h:useF us l=0):l.length<=us.length:=by
 unfold useF at h
 split at h
 ·next f hf =>
  exfalso;obtain⟨k,_,hk⟩:=List.exists_of_findSome?_eq_some hf;unfold zBd at hk;exact tdq
 ·next hn =>
  rw[List.findSome?_eq_none_iff]at hn
  have hall:∀i (h:i<l.length),l[i]∈us/\(0<i->sle l[i] (l[i-1]'(by omega))=false):=fun i hi=>by
   have:=hn i yf;have e1:usAt l i=l[i]:=by unfold usAt;rw[List.getD_eq_getElem?_getD,List.getElem?_eq_getElem hi];rfl
   have e2:usAt l (i-1)=l[i-1]:=by unfold usAt;rw[List.getD_eq_getElem?_getD,List.getElem?_eq_getElem za];rfl
   unfold zBd at this;rw[e1,e2]at this
   split at this
   ·cases this
   ·next h1 =>
    split at this
    ·cases this
    ·next h2 =>
     refine⟨zBz.1 qc,fun hp=>?_⟩
     cases hs:sle l[i] l[i-1]with
     |false=>rfl
     |true=>exact absurd ⟨hp,hs⟩ h2
  have hp:l.Pairwise fun a b=>slt a b=true:=inc_pair fun i hi=>zBq ((hall (i+1) hi).2 za)
  have hnd:l.Nodup:=hp.imp fun h=>zCc h
  exact hnd.length_le_of_subset fun x hx=>by
   obtain⟨i,hi,rfl⟩:=dO hx;exact(hall i hi).1
theorem chkA_len{rs:List Rg}{a:List Ar}(h:zCX rs a=0):a.length<=100:=by
 unfold zCX at h
 split at h
 ·cases h
 ·omega
theorem shF_len{k:Int}{l:List Sh}(h:shF k l=0):l.length<=20:=by
 unfold shF at h
 split at h
 ·cases h
 split at h
 ·cases h
 omega
theorem chkD_lens{rs:List Rg}{us:List BA}{pre:List De}{d:De}(h:chkD rs us pre d=0)(hu:us.length<=20):d.ar.length<=100/\d.us.length<=20/\d.sh.length<=20:=by
 unfold chkD at h
 split at h
 ·cases h
 split at h
 ·cases h
 split at h
 ·cases h
 split at h
 ·cases h
 split at h
 ·cases h
 split at h
 ·cases h
 next hnd =>
 simp only[zAw,Bool.not_eq_true,bH,Bool.and_eq_false_iff]at hnd;obtain⟨⟨⟨⟨⟨_,_⟩,hau⟩,_⟩,hsh⟩,_⟩:=hnd
 split at h
 ·next hg =>
  unfold giftF at h
  split at h
  ·cases h
  split at h
  ·cases h
  split at h
  ·next h1=>exact absurd h h1
  split at h
  ·next h1=>exact absurd h h1
  next ha =>
  split at h
  ·cases h
  split at h
  ·next h1=>exact absurd h h1
  next hus =>
  have e1:=chkA_len (by simpa using ha);have e2:=uses_len (us:=us) (l:=d.us) (by simpa using hus)
  have e3:d.sh=[]:=by
   rcases hsh with hs|hs
   ·exfalso
    simp only[zAl,Bool.or_eq_true,bG]at hg;simp at hs
    omega
   ·simpa using hs
  rw[e3];exact⟨e1,za,zd⟩
 ·next hg =>
  have e12:d.ar=[]/\d.us=[]:=by
   rcases hau with hs|hs
   ·simp at hs;exact absurd hs hg
   ·simpa using hs
  rw[e12.1,e12.2];refine⟨zd,zd,?_⟩
  split at h
  ·next h4 =>
   have e3:d.sh=[]:=by
    rcases hsh with hs|hs
    ·exfalso
     simp at hs
     omega
    ·simpa using hs
   rw[e3];simp
  ·unfold divF at h
   split at h
   ·cases h
   split at h
   ·cases h
   split at h
   ·next h1=>exact absurd h h1
   next h1=>exact shF_len qc
theorem zAT{rs:List Rg}{us:List BA}{ds:List De}(h:zBQ rs us ds=0):us.length<=20/\∀k (hk:k<ds.length),chkD rs us (ds.take k) ds[k]=0:=by
 unfold zBQ at h
 split at h
 ·next h1=>exact absurd h h1
 split at h
 ·cases h
 split at h
 ·cases h
 next h3 =>
 refine⟨za,fun k hk=>?_⟩
 split at h
 ·next f hf =>
  exact ta5
 ·split at h
  ·cases h
  split at h
  ·next f hf =>
   exfalso;obtain⟨k,_,hk⟩:=List.exists_of_findSome?_eq_some hf;unfold deFault at hk
   split at hk
   ·next hne=>cases hk;exact hne h
   ·cases hk
  ·next hn =>
   rw[List.findSome?_eq_none_iff]at hn;have:=hn k (by simpa using hk);unfold deFault at this;rw[List.getD_eq_getElem?_getD,List.getElem?_eq_getElem hk]at this
   split at this
   ·cases this
   ·next h0=>simpa using h0
theorem zBM{rs:List Rg}{us:List BA}{ds:List De}(h:zBQ rs us ds=0):chkR rs=0/\us.length<=20/\ds.length<=200:=by
 unfold zBQ at h
 split at h
 ·next h1=>exact absurd h h1
 next h1 =>
 split at h
 ·cases h
 split at h
 ·cases h
 next h3 =>
 split at h
 ·next f hf =>
  exact ta5
 ·split at h
  ·cases h
  ·next h4=>exact⟨qc,za,za⟩
open Go Go.RowKit Dw
end Go.Proofs.YtbbchlpccgkikaaGreatDoor
namespace Go.Proofs.YtbbchlpccgkikaaGreatDoor
open Go.RowKit Dw
def BT:Nat:=10000
theorem BT_gt:1<BT:=zc
section
variable {w w':World} {g:Nat} {L:List Nat}
end
end Go.Proofs.YtbbchlpccgkikaaGreatDoor
namespace Dw
open Go Go.RowKit
def RdK{α:Type}(enc:α->List Value)(w:World)(A:Option Addr)(l:List α):Prop:=
 0<l.length->∃b o:Nat,A=some ⟨b,o,none⟩/\∀j v,(l.flatMap enc)[j]?=some v->w.cell? ⟨b,o+j,none⟩=some v
theorem flat_len{α:Type}{enc:α->List Value}{k:Nat}(hk:∀x,(enc x).length=k):∀(l:List α),(l.flatMap enc).length=l.length*k
 |[]=>zd
 |a::t=>by rw[bK,dI,hk,flat_len hk t,bP,bT];omega
theorem flat_at{α:Type}{enc:α->List Value}{k:Nat}(hk:∀x,(enc x).length=k):∀(l:List α)(i:Nat)(h:i<l.length)(c:Nat),c<k->(l.flatMap enc)[i*k+c]?=(enc l[i])[c]?
 |[],i,h,_,_=>by simp at h
 |a::t,0,_,c,hc=>by
  rw[bK,List.getElem?_append_left (by rw[hk];omega)];simp
 |a::t,i+1,h,c,hc=>by
  rw[bK,List.getElem?_append_right (by rw[hk,bT];omega),hk,show(i+1)*k+c-k=i*k+c by rw[bT];omega,flat_at hk t i zr c hc];simp
theorem addN(b o j:Nat):(⟨b,o,none⟩:Addr).add j=⟨b,o+j,none⟩:=by unfold Addr.add;split<;>simp_all
theorem zAs.rdk{α:Type}{enc:α->List Value}{k:Nat}{w:World}{base:Nat}{e:TypeId}{v:Value}{l:List α}(h:zAs enc k w base e v l):∃A c,v=.slice A l.length c/\RdK enc w A l:=by
 rcases h.2 with ⟨rfl,hn⟩|⟨g,cap,cur,rfl,hb,hgg,hnc,_,hsz,htake⟩
 ·exact⟨none,0,by rw[hn],fun hl=>za⟩
 ·refine⟨_,_,rfl,fun _=>⟨g,0,rfl,fun j v hv=>?_⟩⟩
  rw[<-htake,List.getElem?_take]at hv
  split at hv
  ·rw[bJ,aX w g j _ _ _ hgg]
   simpa using hv
  ·cases hv
section
variable {w:World} {A:Option Addr}
end
end Dw
namespace Go.Proofs.YtbbchlpccgkikaaGreatDoor
open Go.RowKit Dw
end Go.Proofs.YtbbchlpccgkikaaGreatDoor
namespace Go.Proofs
open Go.Shelf
end Go.Proofs
namespace Go.Proofs.YtbbchlpccgkikaaGreatDoor
open Go.Shelf Go.RowKit Go.Lib Dw
end Go.Proofs.YtbbchlpccgkikaaGreatDoor
namespace Go.Proofs.YtbbchlpccgkikaaGreatDoor
open Go.RowKit Dw
theorem Bx.set0{w:World}{R:Nat}{a b c:Value}{T:TypeId}(h:Bx w R #[a,b,c] T)(u:Value):Bx (w.setCell ⟨R,0,none⟩ u) R #[u,b,c] T:=eC w R 0 _ _ u h
theorem Bx.set1{w:World}{R:Nat}{a b c:Value}{T:TypeId}(h:Bx w R #[a,b,c] T)(u:Value):Bx (w.setCell ⟨R,1,none⟩ u) R #[a,u,c] T:=eC w R 1 _ _ u h
theorem below_box{w0 w:World}{R:Nat}(h:Below w0.heap.size w0 w)(hR:w0.heap.size<=R)(a b c:Value):Below w0.heap.size w0 (((w.setCell ⟨R,0,none⟩ a).setCell ⟨R,1,none⟩ b).setCell ⟨R,2,none⟩ c):=
 ((h.setCell (p:=⟨R,0,none⟩) hR a).setCell (p:=⟨R,1,none⟩) hR b).setCell (p:=⟨R,2,none⟩) hR c
end Go.Proofs.YtbbchlpccgkikaaGreatDoor
