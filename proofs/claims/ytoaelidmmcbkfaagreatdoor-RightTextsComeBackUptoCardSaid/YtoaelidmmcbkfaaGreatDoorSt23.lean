/- Parts of the proof, joined: Package right: Check of a title (its walk printed by gen_check.py). Pa. -/
import Derived.Test.YtoaelidmmcbkfaaGreatDoorSt21
import Derived.Test.YtoaelidmmcbkfaaGreatDoorSt22
set_option maxRecDepth 100000
set_option maxHeartbeats 8000000
namespace Go.Proofs.YtoaelidmmcbkfaaGreatDoor
open Go.RowKit Dw
def Des (w:World) (A:Option Addr) (l:List De):Prop :=
 0<l.length→∃ b o:Nat,A=some ⟨b,o,none⟩∧b<w.heap.size∧∀ i (h:i<l.length),w.rangeAt b (o+i*16) (deC l[i]).toList∧DeOk w l[i]
theorem Des.below {w w':World} {A:Option Addr} {l:List De} (h:Des w A l) (hb:Below w.heap.size w w'):Des w' A l:=fun hl=>by
 obtain ⟨b,o,rfl,hlt,hc⟩:=h hl;refine ⟨b,o,rfl,cP hlt hb.size,fun i hi=>⟨fun j v hv=>?_,(hc i hi).2.below hb⟩⟩
 rw [hb.cell hlt];exact (hc i hi).1 j v hv
abbrev tiC (RA:Option Addr) (rc:Nat) (rs:List Rg) (UA:Option Addr) (uc:Nat) (us:List BA) (DA:Option Addr) (dc:Nat) (ds:List De):Array Value:=#[.slice RA rs.length rc,.slice UA us.length uc,.slice DA ds.length dc]
def zBJ (rs:List Rg) (us:List BA) (ds:List De) (k:Nat):Option Int :=
 if progF rs us (ds.take k) (ds.getD k default)≠0 then some (progF rs us (ds.take k) (ds.getD k default)) else none
def chkP (rs:List Rg) (us:List BA) (ds:List De):Int :=
 if chkR rs≠0 then chkR rs else if us=[] then 9 else if 20<us.length then 2 else
 match (List.range us.length).findSome? (zBu us) with
 | some f=>f
 | none=>if 200<ds.length then 2 else match (List.range ds.length).findSome? (zBJ rs us ds) with
  | some f=>f
  | none=>0
def chkP2 (rs:List Rg) (us:List BA) (ds:List De):Int:=if 200<ds.length then 2 else match (List.range ds.length).findSome? (zBJ rs us ds) with
  | some f=>f
  | none=>0
theorem chkP_un {rs:List Rg} {us:List BA} {ds:List De} {k:Nat} {f:Int} (h0:chkR rs=0) (h1:us≠[]) (h2:¬ 20<us.length) (hk:k<us.length) (hp:∀ j,j<k→zBu us j=none) (hf:zBu us k=some f):chkP rs us ds=f:=by
 unfold chkP;rw [aC (fun h=>h h0),aC h1,aC h2,zBi hk hp hf]
theorem chkP_de {rs:List Rg} {us:List BA} {ds:List De} (h0:chkR rs=0) (h1:us≠[]) (h2:¬ 20<us.length) (hp:∀ j,j<us.length→zBu us j=none):chkP rs us ds=chkP2 rs us ds:=by
 unfold chkP chkP2;rw [aC (fun h=>h h0),aC h1,aC h2,zBs hp]
theorem progF_zero {rs:List Rg} {us:List BA} {pre:List De} {d:De} (h:progF rs us pre d=0):(1≤d.kd∧d.kd≤5)∧zAq d=false∧pre.any (zBG d.id)=false:=by
 unfold progF at h
 split at h
 ·cases h
 unfold prog1 at h
 split at h
 ·cases h
 unfold prog2 at h
 split at h
 ·cases h
 unfold prog3 at h
 split at h
 ·cases h
 next h3 =>
 unfold prog4 at h
 split at h
 ·cases h
 next h4 =>
 unfold prog5 at h
 split at h
 ·cases h
 next h5 =>
 exact ⟨za,by simpa using h5,by simpa using h3⟩
def UnRel (w:World) (us:List BA) (m:Nat) (i:Value) (wr:World):Prop :=
 ∃ k:Nat,k+m=us.length∧i = .int .i64 k∧(∀ j,j<k→zBu us j=none)∧Below w.heap.size w wr
def DeRel (w0:World) (ci:Nat) (RA:Option Addr) (rc r1 r2 g1 g2:Nat) (AL:Option Addr) (cL:Nat) (rs:List Rg) (UA:Option Addr) (uc:Nat) (us:List BA) (m2 m3 m4 m5 lo hi:Nat) (ds:List De) (m:Nat) (i:Value) (wr:World):Prop :=
 ∃ (k:Nat) (p:De),k+m=ds.length∧i = .int .i64 k∧CS w0 wr ci RA rc r1 r2 g1 g2 AL cL rs UA uc us m2 m3 m4 m5 lo hi p (ds.take k)∧∀ j,j<k→zBJ rs us ds j=none
theorem Check_c (RA:Option Addr) (rc:Nat) (rs:List Rg) (UA:Option Addr) (uc:Nat) (us:List BA) (DA:Option Addr) (dc:Nat) (ds:List De) (w:World)
  (hr:Rgs w RA rs) (hu:Strs w UA us) (hd:Des w DA ds) (hz:∀ i (h:i<rs.length),(rs[i]).nm.size≤9223372036854775807) (hz2:∀ i (h:i<us.length),(us[i]).size≤9223372036854775807) :
  Calls Tryz.prog 13 #[.agg (tiC RA rc rs UA uc us DA dc ds)] w (zAe (.int .i64 (chkP rs us ds)) w):=by
 generalize hres:chkP rs us ds=res;have HR:=zq hres;clear hres;have hbW:Below w.heap.size w (w.alloc (.cells (tiC RA rc rs UA uc us DA dc ds) 26)):=(bN _ _).alloc (aB _) _;have HX:Hid (Bx (w.alloc (.cells (tiC RA rc rs UA uc us DA dc ds) 26)) w.heap.size (tiC RA rc rs UA uc us DA dc ds) 26):=Bx.new _ _ _;obtain ⟨W,hW⟩:∃ W,W=w.alloc (.cells (tiC RA rc rs UA uc us DA dc ds) 26):=⟨_,rfl⟩;rw [←hW] at HX hbW;have HB:=zq hbW;have HRG:=zq (hr.below hbW);have HUS:=zq (hu.below hbW);have HDE:=zq (hd.below hbW);clear hbW hr hu hd
 go_enter Tryz.func13,Tryz.ntmps13
 go_wp2_with fail
 rw [←hW];clear hW;have x0:=HX.o.c 0 rfl;have hsz:=HX.o.lt
 go_wp2_with fail
 with_reducible refine (CheckRegions_c RA rc rs W HRG.o hz).mono ?_
 rintro e w1 ⟨rfl,hb1⟩;have HB1:=zq (zAb HB.o hb1);have HX1:=zq (HX.o.below hb1);have HRG1:=zq (HRG.o.below hb1);have HUS1:=zq (HUS.o.below hb1);have HDE1:=zq (HDE.o.below hb1);clear x0 hsz hb1 HB HX HRG HUS HDE hz
 by_cases hcr:chkR rs=0
 case neg =>
  have hcb:(chkR rs != 0)=true:=by simpa using hcr
  have HS:Hid (res=chkR rs):=by
   show _=_
   rw [←HR.o];unfold chkP;rw [aE hcr]
  clear hcr HR;go_wp2;go_ret
  exact zAe.mk (zBa HS.o.symm) HB1.o
 have HCR:=zq hcr;have g:=good_of hcr;rw [hcr];clear hcr;have x1:=HX1.o.c 1 rfl;have hsz:=HX1.o.lt
 by_cases hu0:us=[]
 ·have hlb:((us.length:Int) == 0)=true:=by rw [hu0];rfl
  have HS:Hid (res=9):=by
   show _=_
   rw [←HR.o];unfold chkP;rw [aC (fun h=>h HCR.o),aE hu0]
  clear hu0 HR;go_wp2;go_ret
  exact zAe.mk (zBa HS.o.symm) HB1.o
 have hup:0<us.length:=List.length_pos_iff.2 hu0;have hlb:((us.length:Int) == 0)=false:=by rw [aG];omega
 have HU0:=zq hu0;clear hu0
 by_cases hu20:20<us.length
 ·have HS:Hid (res=2):=by
   show _=_
   rw [←HR.o];unfold chkP;rw [aC (fun h=>h HCR.o),aC HU0.o,aE hu20]
  have h20:(20:Int)<(us.length:Int):=za;clear hu20 HR;go_wp2;go_ret
  exact zAe.mk (zBa HS.o.symm) HB1.o
 have h20:¬ (20:Int)<(us.length:Int):=za;have HH:Hid (∀ k f,k<us.length→(∀ j,j<k→zBu us j=none)→zBu us k=some f→res=f):=fun k f hk hp hf=>by rw [←HR.o];exact chkP_un HCR.o HU0.o hu20 hk hp hf
 have HN:Hid ((∀ j,j<us.length→zBu us j=none)→res=chkP2 rs us ds):=fun hp=>by rw [←HR.o];exact chkP_de HCR.o HU0.o hu20 hp
 have hul:us.length≤1000000:=za;have HZ2:=zq hz2;clear hu20 HR hz2;obtain ⟨b,o,hA,hbu,hcu⟩:=HUS1.o.at_ hup;have HCU:=zq hcu;clear hcu;go_wp2
 go_loopg [27] us.length (UnRel w1 us)
 case atStart=>exact ⟨0,za,rfl,fun j hj=>absurd hj za,bN _ _⟩
 case round =>
  obtain ⟨k,hkm,rfl,hpre,hbel⟩:=hrel;have HK:=zq hkm;have HP:=zq hpre;have HBL:=zq hbel;have HX2:=zq (HX1.o.below hbel);have hk1:k≤us.length:=za;have hbr:b<wr.heap.size:=cP hbu hbel.size;clear hkm hpre hbel x1 hsz
  by_cases hlt:k<us.length
  ·have hc0:wr.cell? ⟨b,o+k,none⟩=some (.string us[k]):=(HBL.o.cell hbu).trans (HCU.o k hlt)
   have hzk:=HZ2.o k hlt;subst hA
   go_wp2_with fail
   with_reducible refine (zBM us[k] _ hzk).mono ?_
   rintro e w2 ⟨rfl,hb2⟩;have HBL2:=zq (zAb HBL.o hb2);have HX3:=zq (HX2.o.below hb2);clear hc0 hb2 HBL HX2
   cases hnm:zAC us[k] with
   | false =>
    have HS:Hid (res=5):=HH.o k 5 hlt HP.o (by unfold zBu;rw [usAt_of hlt,aE hnm])
    clear hnm;go_wp2;go_ret
    exact zAe.mk (zBa HS.o.symm) (zAb HB1.o HBL2.o)
   | true =>
    have HNM:=zq hnm;clear hnm;have x1:=HX3.o.c 1 rfl;have hsz:=HX3.o.lt
    by_cases hk0:0<k
    case pos =>
     have zp:w2.cell? ⟨b,o+(k - 1),none⟩=some (.string (us[k - 1]'(by omega))):=(HBL2.o.cell hbu).trans (HCU.o (k - 1) za)
     have hdk:decide ((0:Int)<(k:Int))=true:=zj
     cases hle:sle us[k] (us[k - 1]'(by omega)) with
     | true =>
      have HS:Hid (res=8):=HH.o k 8 hlt HP.o (by unfold zBu;rw [usAt_of hlt,usAt_of (show k - 1<us.length by omega),aC (by rw [HNM.o];simp),aE ⟨hk0,hle⟩])
      unfold sle at hle;go_wp2;go_ret
      exact zAe.mk (zBa HS.o.symm) (zAb HB1.o HBL2.o)
     | false =>
      have HF:Hid (zBu us k=none):=by
       show _=_
       unfold zBu;rw [usAt_of hlt,usAt_of (show k - 1<us.length by omega),aC (by rw [HNM.o];simp),aC (fun hh=>by rw [hle] at hh;cases hh.2)]
      unfold sle at hle;go_wp2
      go_roundg (gk - 1)
      case measure=>have:=HK.o;omega
      case rel =>
       refine ⟨k+1,zk,zx,fun j hj=>?_,HBL2.o⟩
       rcases bK j k with h9 | h9
       ·exact HP.o j h9
       ·obtain rfl:j=k:=by omega
        exact HF.o
    case neg =>
     have hdk:decide ((0:Int)<(k:Int))=false:=zj
     have HF:Hid (zBu us k=none):=by
      show _=_
      unfold zBu;rw [usAt_of hlt,aC (by rw [HNM.o];simp),aC (fun hh=>hk0 hh.1)]
     go_wp2
     go_roundg (gk - 1)
     case measure=>have:=HK.o;omega
     case rel =>
      refine ⟨k+1,zk,zx,fun j hj=>?_,HBL2.o⟩
      rcases bK j k with h9 | h9
      ·exact HP.o j h9
      ·obtain rfl:j=k:=by omega
       exact HF.o
  ·obtain rfl:k=us.length:=by omega
   have HE:Hid (chkP2 rs us ds=res):=(HN.o HP.o).symm;have x2:=HX2.o.c 2 rfl;have hsz:=HX2.o.lt;have HBW:=zq (zAb HB1.o HBL.o);have HRG2:=zq (HRG1.o.below HBL.o);have HUS2:=zq (HUS1.o.below HBL.o);have HDE2:=zq (HDE1.o.below HBL.o);clear HK HP HN HH HCU HRG1 HUS1 HDE1 HX1 hbr hlt hk1 HBL HB1 hbu hA
   by_cases hd200:200<ds.length
   ·have HS:Hid (res=2):=by
     show _=_
     rw [←HE.o];unfold chkP2;rw [aE hd200]
    have h200:(200:Int)<(ds.length:Int):=za;clear hd200 HE;go_wp2;go_ret
    exact zAe.mk (zBa HS.o.symm) HBW.o
   have h200:¬ (200:Int)<(ds.length:Int):=za
   have HH:Hid (∀ k f,k<ds.length→(∀ j,j<k→zBJ rs us ds j=none)→zBJ rs us ds k=some f→res=f):=fun k f hk hp hf=>by
    rw [←HE.o];unfold chkP2;rw [aC hd200,zBi hk hp hf]
   have HN:Hid ((∀ j,j<ds.length→zBJ rs us ds j=none)→res=0):=fun hp=>by
    rw [←HE.o];unfold chkP2;rw [aC hd200,zBs hp]
   have hdl:ds.length≤200:=za;clear hd200 HE;obtain ⟨w5,hw5⟩:∃ w5:World,w5=wr:=⟨_,rfl⟩;subst hw5
   go_wp2_with fail
   refine region18 g HX2.o HRG2.o HUS2.o rfl zb zb zb rfl zg ⟨_,_,_,rfl⟩ ⟨_,_,_,rfl⟩ ⟨_,_,_,rfl⟩ ⟨_,_,_,rfl⟩ ⟨_,_,_,rfl⟩ ⟨_,_,_,rfl⟩ ⟨_,_,_,rfl⟩ ⟨_,_,_,rfl⟩ ⟨_,_,_,rfl⟩ ⟨_,_,_,rfl⟩ ⟨_,_,_,rfl⟩ ⟨_,_,_,rfl⟩ zb zb zb zb zb zb zb zb zb zb zb ?_
   intro ci r1 r2 g1 g2 AL cL m2 m3 m4 m5 lo hi vals w3 hcs v0 v1 v2 v3 v4 v5 v6 v7 v8 v9 v10;simp [zAl,Act.put,v0,v1,v2,v3,v4,v5,v6,v7,v8,v9,v10,List.range_succ]
   have HCS:=zq hcs;clear v0 v1 v2 v3 v4 v5 v6 v7 v8 v9 v10 vals x2 hsz hcs;have HX4:=zq (HX2.o.below HCS.o.bel);have x2:=HX4.o.c 2 rfl;have hsz:=HX4.o.lt;go_wp2
   go_loopg [65] ds.length (DeRel w5 ci RA rc r1 r2 g1 g2 AL cL rs UA uc us m2 m3 m4 m5 lo hi ds)
   case atStart=>exact ⟨0,zDe,za,rfl,HCS.o,fun j hj=>absurd hj za⟩
   clear HCS HX4 x2 hsz
   case round =>
    obtain ⟨k,p,hkm,rfl,hcs,hpre⟩:=hrel;have HK:=zq hkm;have HP:=zq hpre;have HC:=zq hcs;have hk1:k≤ds.length:=za;clear hkm hpre hcs
    by_cases hlt:k<ds.length
    ·obtain ⟨b,o,hA,hbu,hcd⟩:=HDE2.o za
     have hdk:=(hcd k hlt);have HOK:=zq hdk.2;have hrange0:=hdk.1;clear hdk hcd;obtain ⟨d,hdd⟩:∃ d,d=ds[k]:=⟨_,rfl⟩;rw [←hdd] at HOK hrange0;have hgd:ds.getD k default=d:=by rw [hdd];simp [List.getD,hlt]
     have htk:ds.take (k+1)=ds.take k++[d]:=by rw [hdd];exact bA hlt
     have HGD:=zq hgd;have HTK:=zq htk;have hrange:∀ j v,(deC d).toList[j]?=some v→wr.cell? ⟨b,o+k*16+j,none⟩=some v:=fun j v hv=>(HC.o.bel.cell hbu).trans (hrange0 j v hv)
     have HOK2:=zq (HOK.o.below HC.o.bel)
     have hgk:∀ q∈ds.take k,1≤q.kd:=fun q hq=>by
      obtain ⟨j,hj,rfl⟩:=bL hq;rw [bB] at hj;have hjk:j<k:=za;have h1:=HP.o j hjk;unfold zBJ at h1
      split at h1
      ·cases h1
      ·next h2 =>
       have h3:=(progF_zero (Decidable.not_not.1 h2)).1.1;rw [bW];have e:ds.getD j default=ds[j]'(by omega):=by simp [List.getD,show j<ds.length by omega]
       rwa [e] at h3
     have HGK:=zq hgk;have HOT:=zq htk;clear hgd htk hgk hdd HOT HOK hrange0;have c0:wr.cell? ⟨b,o+k*16,none⟩=some (deC d)[0]:=hrange 0 _ rfl;have c1:wr.cell? ⟨b,o+k*16+1,none⟩=some (deC d)[1]:=hrange 1 _ rfl;have c2:wr.cell? ⟨b,o+k*16+2,none⟩=some (deC d)[2]:=hrange 2 _ rfl;have c3:wr.cell? ⟨b,o+k*16+3,none⟩=some (deC d)[3]:=hrange 3 _ rfl;have c4:wr.cell? ⟨b,o+k*16+4,none⟩=some (deC d)[4]:=hrange 4 _ rfl;have c5:wr.cell? ⟨b,o+k*16+5,none⟩=some (deC d)[5]:=hrange 5 _ rfl;have c6:wr.cell? ⟨b,o+k*16+6,none⟩=some (deC d)[6]:=hrange 6 _ rfl;have c7:wr.cell? ⟨b,o+k*16+7,none⟩=some (deC d)[7]:=hrange 7 _ rfl;have c8:wr.cell? ⟨b,o+k*16+8,none⟩=some (deC d)[8]:=hrange 8 _ rfl;have c9:wr.cell? ⟨b,o+k*16+9,none⟩=some (deC d)[9]:=hrange 9 _ rfl;have c10:wr.cell? ⟨b,o+k*16+10,none⟩=some (deC d)[10]:=hrange 10 _ rfl;have c11:wr.cell? ⟨b,o+k*16+11,none⟩=some (deC d)[11]:=hrange 11 _ rfl;have c12:wr.cell? ⟨b,o+k*16+12,none⟩=some (deC d)[12]:=hrange 12 _ rfl;have c13:wr.cell? ⟨b,o+k*16+13,none⟩=some (deC d)[13]:=hrange 13 _ rfl;have c14:wr.cell? ⟨b,o+k*16+14,none⟩=some (deC d)[14]:=hrange 14 _ rfl;have c15:wr.cell? ⟨b,o+k*16+15,none⟩=some (deC d)[15]:=hrange 15 _ rfl;have HC2:=zq (HC.o.below (w':=wr.alloc (.cells (deC d) 47)) ((bN _ _).alloc (aB _) _));have HOK3:=zq (HOK2.o.below (w':=wr.alloc (.cells (deC d) 47)) ((bN _ _).alloc (aB _) _));have HDC:=zq (deed_c w5 ci RA rc r1 r2 g1 g2 AL cL rs UA uc us m2 m3 m4 m5 lo hi p (ds.take k) d _ g hul HGK.o HC2.o HOK3.o);clear hrange HC;subst hA
     go_wp2_with fail
     with_reducible refine HDC.o.mono ?_
     rintro e w6 ⟨rfl,hb6,hn6⟩;have HB6:=zq (zAb HBW.o hb6);have HN6:=zq hn6;clear c0 c1 c2 c3 c4 c5 c6 c7 c8 c9 c10 c11 c12 c13 c14 c15 hb6 hn6 HC2 HOK2 HOK3 HDC
     by_cases hpz:progF rs us (ds.take k) d=0
     case neg =>
      have hpb:(progF rs us (ds.take k) d != 0)=true:=by simpa using hpz
      have HS:Hid (res=progF rs us (ds.take k) d):=HH.o k _ hlt HP.o (by unfold zBJ;rw [HGD.o,aE hpz])
      clear hpz;go_wp2;go_ret
      exact zAe.mk (zBa HS.o.symm) HB6.o
     have HF:Hid (zBJ rs us ds k=none):=by
      show _=_
      unfold zBJ;rw [HGD.o,aC (fun h=>h hpz)]
     have HC6:=zq (HN6.o hpz);rw [hpz];clear hpz HN6;go_wp2
     go_roundg (gk - 1)
     case measure=>have:=HK.o;omega
     case rel =>
      refine ⟨k+1,d,zk,zx,by rw [HTK.o];exact HC6.o,fun j hj=>?_⟩
      rcases bK j k with h9 | h9
      ·exact HP.o j h9
      ·obtain rfl:j=k:=by omega
       exact HF.o
    ·obtain rfl:k=ds.length:=by omega
     have HS:Hid (res=0):=HN.o HP.o;go_wp2;go_ret
     exact zAe.mk (zBa HS.o.symm) (zAb HBW.o HC.o.bel)
theorem need_fr {d:De} (hk:d.kd=1) (h:zAq d=false):d.fr=emp:=by
 unfold zAq at h;rw [hk] at h;simp [zAd] at h
 exact h.1.1.1.1.1.1
theorem need_th {d:De} (hk:d.kd=5) (h:zAq d=false):d.th=emp:=by
 unfold zAq at h;rw [hk] at h;simp [zAd] at h
 exact h.1.1.1.1.1.1
def Gd (pre:List De):Prop:=(∀ q∈pre,(1≤q.kd∧q.kd≤5)∧zAq q=false)∧pre.Pairwise (fun a b=>a.id≠b.id)
theorem kN_cons (a:De) (t:List De) (x:BA):kN (a::t) x=if a.id=x then a.kd else kN t x:=by
 unfold kN
 by_cases h:a.id=x
 ·rw [List.find?_cons_of_pos (by simp [zBG,h]),aE h]
 ·rw [List.find?_cons_of_neg (by simp [zBG,h]),aC h]
theorem kN_any:∀ (pre:List De) (x:BA),pre.Pairwise (fun a b=>a.id≠b.id)→zAd (kN pre x)=pre.any fun p=>decide (p.id=x)&&zAd p.kd
 | [],_,_=>rfl
 | a::t,x,h=>by
  rw [List.pairwise_cons] at h;rw [kN_cons,List.any_cons]
  by_cases e:a.id=x
  ·rw [aE e]
   have:(t.any fun p=>decide (p.id=x)&&zAd p.kd)=false:=by
    rw [List.any_eq_false];intro q hq;have:=h.1 q hq;simp
    intro e2;exact absurd (e.trans e2.symm) this
   rw [this];simp [e]
  ·rw [aC e,kN_any t x h.2]
   simp [e]
theorem any_born {pre:List De} {d:De} (hg:∀ q∈pre,(1≤q.kd∧q.kd≤5)∧zAq q=false) (hk:d.kd=1) (hd:zAq d=false) :
  (pre.any fun p=>decide (p.kd=d.kd)&&decide (p.th=d.th)&&decide (p.fr=d.fr))=bornB pre d.th:=by
 unfold bornB;rw [hk,need_fr hk hd]
 induction pre with
 | nil=>rfl
 | cons a t ih =>
  rw [List.any_cons,List.any_cons,ih fun q hq=>hg q (by simp [hq])]
  congr 1
  by_cases h:a.kd=1
  ·rw [need_fr h (hg a zg).2];simp
  ·simp [h]
theorem any_gone {pre:List De} {d:De} (hg:∀ q∈pre,(1≤q.kd∧q.kd≤5)∧zAq q=false) (hk:d.kd=5) (hd:zAq d=false) :
  (pre.any fun p=>decide (p.kd=d.kd)&&decide (p.th=d.th)&&decide (p.fr=d.fr))=goneB pre d.fr:=by
 unfold goneB;rw [hk,need_th hk hd]
 induction pre with
 | nil=>rfl
 | cons a t ih =>
  rw [List.any_cons,List.any_cons,ih fun q hq=>hg q (by simp [hq])]
  congr 1
  by_cases h:a.kd=5
  ·rw [need_th h (hg a zg).2];simp
  ·simp [h]
theorem progF_chkD {l:List Rg} {us:List BA} {pre:List De} {d:De} (hg:Gd pre):progF l us pre d=chkD l us pre d:=by
 unfold progF chkD
 by_cases h1:zAC d.id=false
 ·rw [aE h1,aE h1]
 rw [aC h1,aC h1];unfold prog1
 by_cases h2:zCG d.day=false
 ·rw [aE h2,aE h2]
 rw [aC h2,aC h2];unfold prog2
 by_cases h3:ordB pre d=false
 ·rw [aE h3,aE h3]
 rw [aC h3,aC h3];unfold prog3;have e4:(pre.any fun p=>decide (p.id=d.id))=pre.any (zBG d.id):=rfl
 rw [e4]
 by_cases h4:pre.any (zBG d.id)=true
 ·rw [aE h4,aE h4]
 rw [aC h4,aC h4];unfold prog4
 by_cases h5:d.kd<1∨5<d.kd
 ·rw [aE h5,aE h5]
 rw [aC h5,aC h5];unfold prog5
 by_cases h6:zAq d=true
 ·rw [aE h6,aE h6]
 rw [aC h6,aC h6];have hn:zAq d=false:=by simpa using h6
 have hk:d.kd=1∨d.kd=2∨d.kd=3∨d.kd=4∨d.kd=5:=za;unfold prog6 valF;have tw0:d.kd≠1→d.kd≠5→twB pre d=false:=fun a b=>by unfold twB;simp [a,b]
 rcases hk with hk | hk | hk | hk | hk
 ·have hgv:¬ zAd d.kd=true:=by rw [hk];decide
  rw [aC hgv,aC (show ¬ d.kd=4 by omega),aC hgv,aC (show ¬ d.kd=4 by omega)]
  have ht:twB pre d=bornB pre d.th:=by unfold twB;rw [hk];simp
  unfold divV divF;rw [ht,any_born hg.1 hk hn];unfold zBV;have hk5:¬ d.kd=5:=za
  by_cases q1:(d.kd=1∧zAC d.th=false)∨(d.kd=5∧zAC d.fr=false)
  ·simp [q1]
  ·rw [aC q1,aC q1]
   by_cases q2:zCG d.bg=false
   ·simp [q2]
   ·by_cases q3:shF d.kd d.sh=0
    ·simp [q2,q3,hk5]
    ·simp [q2,q3]
 ·have hgv:zAd d.kd=true:=by rw [hk];decide
  rw [aE hgv,aE hgv,tw0 za za,giftF_two];simp
  exact fun h=>h.symm
 ·have hgv:zAd d.kd=true:=by rw [hk];decide
  rw [aE hgv,aE hgv,tw0 za za,giftF_two];simp
  exact fun h=>h.symm
 ·have hgv:¬ zAd d.kd=true:=by rw [hk];decide
  rw [aC hgv,aE hk,aC hgv,aE hk,tw0 za za];have ha:=kN_any pre d.ot hg.2;unfold endV endF;rw [←ha];have hb:endB pre d.ot=pre.any fun p=>decide (p.kd=4)&&decide (p.ot=d.ot):=rfl
  rw [←hb];have hgk:(kN pre d.ot≠2∧kN pre d.ot≠3)↔zAd (kN pre d.ot)=false:=by unfold zAd;simp
  by_cases q2:zCG d.bg=false
  ·simp [q2]
  ·by_cases q3:zAd (kN pre d.ot)=false
   ·have:=hgk.2 q3
    simp [q2,q3,this]
   ·have:¬ (kN pre d.ot≠2∧kN pre d.ot≠3):=fun h=>q3 (hgk.1 h)
    rw [aC q2,aC q2,aC this,aC q3]
    cases endB pre d.ot<;>simp
 ·have hgv:¬ zAd d.kd=true:=by rw [hk];decide
  rw [aC hgv,aC (show ¬ d.kd=4 by omega),aC hgv,aC (show ¬ d.kd=4 by omega)]
  have ht:twB pre d=goneB pre d.fr:=by unfold twB;rw [hk];simp
  unfold divV divF;rw [ht,any_gone hg.1 hk hn];unfold zBV
  by_cases q1:(d.kd=1∧zAC d.th=false)∨(d.kd=5∧zAC d.fr=false)
  ·simp [q1]
  ·rw [aC q1,aC q1]
   by_cases q2:zCG d.bg=false
   ·simp [q2]
   ·by_cases q3:shF d.kd d.sh=0
    ·by_cases q4:(d.sh.any fun s=>decide (s.pt=d.fr))=true
     ·have q3':shF 5 d.sh=0:=by rw [←hk];exact q3
      rw [aC q2,aC q2];simp only [q3',hk,q4];simp
     ·have q3':shF 5 d.sh=0:=by rw [←hk];exact q3
      rw [aC q2,aC q2];simp only [q3',hk,q4];simp
    ·simp [q2,q3]
theorem gd_take {rs:List Rg} {us:List BA} {ds:List De}:∀ (k:Nat),k≤ds.length→(∀ j,j<k→zBJ rs us ds j=none)→Gd (ds.take k)
 | 0,_,_=>⟨zg,zg⟩
 | k+1,hk,hp=>by
  have ih:=gd_take k za fun j hj=>hp j za
  have h1:=hp k za;have hlt:k<ds.length:=za;have hgd:ds.getD k default=ds[k]:=by simp [List.getD,hlt]
  unfold zBJ at h1;rw [hgd] at h1
  split at h1
  ·cases h1
  ·next h2 =>
   obtain ⟨a,b,c⟩:=progF_zero (Decidable.not_not.1 h2);rw [bA hlt];refine ⟨fun q hq=>?_,?_⟩
   ·rcases List.mem_append.1 hq with hq | hq
    ·exact ih.1 q hq
    ·rw [List.mem_singleton] at hq
     subst hq;exact ⟨a,b⟩
   ·rw [List.pairwise_append]
    refine ⟨ih.2,zg,fun x hx y hy=>?_⟩
    rw [List.mem_singleton] at hy;subst hy;rw [List.any_eq_false] at c;have:=c x hx
    simpa [zBG] using this
theorem pe_de {rs:List Rg} {us:List BA} {ds:List De}:∀ (n:Nat),n≤ds.length→(List.range n).findSome? (zBJ rs us ds)=(List.range n).findSome? (zCP rs us ds)
 | 0,_=>rfl
 | n+1,hn=>by
  rw [List.range_succ,List.findSome?_append,List.findSome?_append,pe_de n za]
  cases h:(List.range n).findSome? (zCP rs us ds) with
  | some f=>rfl
  | none =>
   have hp:∀ j,j<n→zBJ rs us ds j=none:=fun j hj=>by
    have h2:=pe_de (rs:=rs) (us:=us) (ds:=ds) n za;rw [h,List.findSome?_eq_none_iff] at h2;exact h2 j (List.mem_range.2 hj)
   have hg:=gd_take n za hp
   have e:zBJ rs us ds n=zCP rs us ds n:=by
    unfold zBJ zCP;rw [progF_chkD hg]
   simp [e]
theorem chkP_chkT (rs:List Rg) (us:List BA) (ds:List De):chkP rs us ds=zDh rs us ds:=by
 unfold chkP zDh;rw [pe_de ds.length (aB _)]
 rfl
theorem CheckT_c (RA:Option Addr) (rc:Nat) (rs:List Rg) (UA:Option Addr) (uc:Nat) (us:List BA) (DA:Option Addr) (dc:Nat) (ds:List De) (w:World)
  (hr:Rgs w RA rs) (hu:Strs w UA us) (hd:Des w DA ds) (hz:∀ i (h:i<rs.length),(rs[i]).nm.size≤9223372036854775807) (hz2:∀ i (h:i<us.length),(us[i]).size≤9223372036854775807) :
  Calls Tryz.prog 13 #[.agg (tiC RA rc rs UA uc us DA dc ds)] w (zAe (.int .i64 (zDh rs us ds)) w):=by
 rw [←chkP_chkT];exact Check_c RA rc rs UA uc us DA dc ds w hr hu hd hz hz2
end Go.Proofs.YtoaelidmmcbkfaaGreatDoor
namespace Go.Proofs.YtoaelidmmcbkfaaGreatDoor
open Dw
def zAI (d:De):De:={ d with arA:=none,arc:=0,usA:=none,usc:=0,shA:=none,shc:=0 }
theorem sameD_iff (d e:De):zBp d e↔zAI d=zAI e:=by
 cases d
 cases e
 simp only [zBp,zAI,De.mk.injEq]
 constructor
 ·rintro ⟨h1,h2,h3,h4,h5,h6,⟨h7,h8⟩,h9,h10,h11,h12,h13,h14,h15,h16⟩
  simp_all
 ·intro h
  simp_all
theorem zCs {f:De→Bool} (hf:∀ d,f (zAI d)=f d) (l:List De):(l.map zAI).any f=l.any f:=by
 induction l with
 | nil=>rfl
 | cons a t ih=>rw [dD,List.any_cons,List.any_cons,ih,hf]
theorem ordB_plain (pre:List De) (d:De):ordB (pre.map zAI) (zAI d)=ordB pre d:=by
 unfold ordB;rw [List.getLast?_map]
 cases pre.getLast?<;>rfl
theorem chkD_plain (rs:List Rg) (us:List BA) (pre:List De) (d:De):chkD rs us (pre.map zAI) (zAI d)=chkD rs us pre d:=by
 have h1:(pre.map zAI).any (fun p=>decide (p.id=d.id))=pre.any (fun p=>decide (p.id=d.id)):=zCs (fun _=>rfl) pre
 have h2:(pre.map zAI).any (fun p=>decide (p.id=d.ot)&&zAd p.kd)=pre.any (fun p=>decide (p.id=d.ot)&&zAd p.kd):=zCs (fun _=>rfl) pre
 have h3:(pre.map zAI).any (fun p=>decide (p.kd=4)&&decide (p.ot=d.ot))=pre.any (fun p=>decide (p.kd=4)&&decide (p.ot=d.ot)):=zCs (fun _=>rfl) pre
 have h4:(pre.map zAI).any (fun p=>decide (p.kd=d.kd)&&decide (p.th=d.th)&&decide (p.fr=d.fr))=pre.any (fun p=>decide (p.kd=d.kd)&&decide (p.th=d.th)&&decide (p.fr=d.fr)):=zCs (fun _=>rfl) pre
 have e1:endF (pre.map zAI) (zAI d)=endF pre d:=by
  unfold endF
  show (if zCG d.bg=false then (1:Int) else if ((pre.map zAI).any fun p=>decide (p.id=d.ot)&&zAd p.kd)=false then 9 else if ((pre.map zAI).any fun p=>decide (p.kd=4)&&decide (p.ot=d.ot))=true then 7 else 0)=_
  rw [h2,h3]
 have e2:divF (pre.map zAI) (zAI d)=divF pre d:=by
  unfold divF
  show (if (d.kd=1∧zAC d.th=false)∨(d.kd=5∧zAC d.fr=false) then (5:Int) else if zCG d.bg=false then 1 else if shF d.kd d.sh≠0 then shF d.kd d.sh else if d.kd=5∧(d.sh.any fun s=>decide (s.pt=d.fr))=true then 12
   else if ((pre.map zAI).any fun p=>decide (p.kd=d.kd)&&decide (p.th=d.th)&&decide (p.fr=d.fr))=true then 7 else 0)=_
  rw [h4]
 unfold chkD;rw [ordB_plain,e1,e2]
 show (if zAC d.id=false then (5:Int) else if zCG d.day=false then 1 else if ordB pre d=false then 8 else if ((pre.map zAI).any fun p=>decide (p.id=d.id))=true then 7 else if d.kd<1∨5<d.kd then 4
  else if zAq d=true then 3 else if zAd d.kd=true then giftF rs us d else if d.kd=4 then endF pre d else divF pre d)=_
 rw [h1]
theorem findSome_congr {α:Type} {f g:Nat→Option α}:∀ (l:List Nat),(∀ k∈l,f k=g k)→l.findSome? f=l.findSome? g
 | [],_=>rfl
 | a::t,h=>by
  rw [List.findSome?_cons,List.findSome?_cons,h a zg,findSome_congr t fun k hk=>h k (by simp [hk])]
theorem chkT_plain (rs:List Rg) (us:List BA) (ds:List De):zDh rs us (ds.map zAI)=zDh rs us ds:=by
 unfold zDh
 have e:(List.range (ds.map zAI).length).findSome? (zCP rs us (ds.map zAI))=(List.range ds.length).findSome? (zCP rs us ds):=by
  rw [cO];refine findSome_congr _ fun k hk=>?_
  have hk':=List.mem_range.1 hk;unfold zCP;have e1:(ds.map zAI).getD k default=zAI (ds.getD k default):=by simp [List.getD,hk']
  rw [e1,←List.map_take,chkD_plain]
 rw [e,cO]
open Go.RowKit Dw
abbrev eDq:De→List Value:=fun d=>(deC d).toList
theorem elDq:ElemT Tryz.prog 24 47 (.agg (deC zRde)) 16 224:=⟨Tryz.underlying24,zb,rfl,zc⟩
theorem oneDq (x:De):∀ u∈eDq x,u.oneCell'=true:=yi
theorem step_pushC {P:Program} {w:World} {α:Type} {enc:α→List Value} {k:Nat} {e:TypeId} {z:Value} {bytes:Nat} {ops:Array Oper} {o:Oper} {a:Act} {K:Act→World→Prop} {Q:Exit→Act→World→Prop} {E:Prop} (hgd:o.guard=none) (s x:Operand) (t:TypeId)
  (ho:o.op = .call { callee:=.builtin .append,args:=#[s,x],argTypes:=#[t,t] }) (hT:ElemT P t e z k bytes) (base:Nat) (v:Value) (l:List α) (hs:a.eval s=v) (hown:zAN enc k w base e v l)
  (bk c:Nat) (y:α) (hx:a.eval x = .slice (some ⟨bk,0,none⟩) 1 c) {cs:Array Value} {T:TypeId} {fr:Nat×Nat} (hblk:w.heap[bk]?=some (.cells cs T fr)) (hcs:cs.toList=enc y) (hk:(enc y).length=k) (hone:∀ u∈enc y,u.oneCell'=true)
  (hlen:l.length+1≤maxLen) (hbytes:(l.length+1)*bytes≤140737488355328) (hbase:base≤w.heap.size)
  (h:∀ g cap w',zAN enc k w' base e (.slice (some ⟨g,0,none⟩) (l.length+1) cap) (l++[y])→w.grownBy w' v.ownBlock→(v.ownBlock=some g∨g=w.heap.size)→K (a.put o.dst (.slice (some ⟨g,0,none⟩) (l.length+1) cap)) w') :
  if Region.wanted o (yielded ops a.tmps)=true then Oper.wp P o a w K Q else E:=by
 obtain ⟨i,hi,hz0,hz1,hz2⟩:=info_parts hT.info;refine step_append_lies w hgd s x t ho base e i z k bytes hT.ty hi hz0 hz1 hz2 hT.zs hT.pos v l.length (l.flatMap enc) hs hown ⟨bk,0,none⟩ 1 c (enc y) hx (by rw [hk,Nat.one_mul]) ?_ hone za hlen hbytes hbase w.heap.size rfl ?_
 ·rw [←hcs];exact World.news_of_block hblk
 ·intro g cap w' h1 h2 h3 _
  refine h g cap w' ?_ h2 h3
  unfold zAN;rw [cS,List.flatMap_append]
  simpa using h1
theorem des_own {w:World} {B:Nat} {v:Value} {T:List De} (h:zAN eDq 16 w B 47 v T) (hd:∀ s∈T,DeOk w s):∃ A c,v = .slice A T.length c∧Des w A T:=by
 obtain ⟨A,c,e,hr⟩:=h.rdk;refine ⟨A,c,e,fun hl=>?_⟩
 obtain ⟨b,o,rfl,hc⟩:=hr hl
 have key:∀ i (h:i<T.length) j v,(deC T[i]).toList[j]?=some v→w.cell? ⟨b,o+i*16+j,none⟩=some v:=fun i hi j v hv=>by
  have hj:j<16:=by
   have:=(List.getElem?_eq_some_iff.1 hv).1
   simpa using this
  have:=hc (i*16+j) v (by rw [flat_at (enc:=eDq) (k:=16) (fun _=>rfl) T i hi j hj];exact hv)
  rwa [←bS] at this
 exact ⟨b,o,rfl,World.block_lt_of_cell? w _ (key 0 hl 0 _ rfl),fun i hi=>⟨fun j v hv=>key i hi j v hv,hd _ (aI hi)⟩⟩
structure DsQ (B1:Nat) (v3:Value) (w:World) (d:De):Prop where
 ars:zAN eAr 2 w B1 65 (arSl d) d.ar
 uss:zAN eSt 1 w B1 9 (usSl d) d.us
 shs:Shs w d.shA d.sh
 shq:d.sh≠[]→∀ b o,d.shA=some ⟨b,o,none⟩→B1≤b∧b<w.heap.size∧v3.ownBlock≠some b
 sm:DSm d
section
variable {w w':World} {B1 r q:Nat} {v v':Value} {d:De} {T:List De}
theorem Shs.blk {A:Option Addr} {l:List Sh} (h:Shs w A l) (hk:l≠[]→∀ b o,A=some ⟨b,o,none⟩→w'.heap[b]?=w.heap[b]?):Shs w' A l:=fun h0=>by
 obtain ⟨b,o,hA,hc⟩:=h h0;have hb:=hk (by intro e;rw [e] at h0;simp at h0) b o hA
 have hk2:∀ j v,w.cell? ⟨b,j,none⟩=some v→w'.cell? ⟨b,j,none⟩=some v:=fun j v hv=>(World.cell?_of_block (w:=w) hb).trans hv
 exact ⟨b,o,hA,fun i hi=>⟨hk2 _ _ (hc i hi).1,hk2 _ _ (hc i hi).2.1,hk2 _ _ (hc i hi).2.2⟩⟩
theorem DsQ.grown (h:DsQ B1 v w d) (hg:w.grownBy w' (some r)) (hr:r<B1):DsQ B1 v w' d :=
 ⟨h.ars.grown hg (zAY h.ars hr),h.uss.grown hg (zAY h.uss hr),h.shs.blk fun hn b o e=>hg.block b (h.shq hn b o e).2.1 fun e2=>by have:=dM e2;have:=(h.shq hn b o e).1;omega,
  fun hn b o e=>⟨(h.shq hn b o e).1,cP (h.shq hn b o e).2.1 hg.size,(h.shq hn b o e).2.2⟩,h.sm⟩
theorem DsQ.below (h:DsQ B1 v w d) (hb:Below w.heap.size w w'):DsQ B1 v w' d :=
 ⟨h.ars.below hb,h.uss.below hb,h.shs.below hb,fun hn b o e=>⟨(h.shq hn b o e).1,cP (h.shq hn b o e).2.1 hb.size,(h.shq hn b o e).2.2⟩,h.sm⟩
theorem DsQ.row (h:DsQ B1 v w d) (ho:zAN eDq 16 w B1 47 v T) (hg:w.grownBy w' v.ownBlock) (hv:v'.ownBlock=v.ownBlock∨∃ n,v'.ownBlock=some n∧w.heap.size≤n):DsQ B1 v' w' d :=
 ⟨h.ars.grown hg (zCd h.ars ho zc),h.uss.grown hg (zCd h.uss ho zc),h.shs.blk fun hn b o e=>hg.block b (h.shq hn b o e).2.1 fun e2=>(h.shq hn b o e).2.2 e2.symm,
  fun hn b o e=>⟨(h.shq hn b o e).1,cP (h.shq hn b o e).2.1 hg.size,by
   rcases hv with hv | ⟨n,hv,hn2⟩
   ·rw [hv];exact (h.shq hn b o e).2.2
   ·rw [hv];intro e2;have:=dM e2;have:=(h.shq hn b o e).2.1;omega⟩,h.sm⟩
theorem DsQ.ok (h:DsQ B1 v w d):DeOk w d:=by
 obtain ⟨A,c,e,h1⟩:=h.ars.rd2;obtain ⟨A2,c2,e2,h2⟩:=h.uss.rd1;have e3:d.arA=A:=jd;have e4:d.usA=A2:=by injection e2
 have s:=h.sm.strs;have l:=h.sm.lens;refine ⟨by rw [e3];exact h1,by rw [e4];exact h2,h.shs,⟨za,za,za⟩,⟨za,za,za,za,za,za⟩,fun x hx=>?_⟩
 have:=h.sm.shz x hx;exact ⟨za,za,za⟩
end
structure DsM (w:World) (B0 r q:Nat) (LA:Option Addr) (c:Nat) (L:List Ln) (rs:List Rg) (v1:Value) (us:List BA) (v2:Value) (T:List De) (v3:Value) (k:Nat) (bad:Bool) (wr:World):Prop where
 st:HdS w B0 r q LA
 bx:Bx wr q #[v1,v2,v3] 26
 o1:zAN eRg 2 wr w.heap.size 56 v1 rs
 o2:zAN eSt 1 wr w.heap.size 9 v2 us
 o3:zAN eDq 16 wr w.heap.size 47 v3 T
 ds:bad=false→∀ d∈T,DsQ w.heap.size v3 wr d
 rd:RdI wr r LA c L k bad
 bel:Below B0 w wr
section
variable {w wr w' w4 w9:World} {B0 r q c k k' g cap:Nat} {LA:Option Addr} {L:List Ln} {rs:List Rg} {v1:Value} {us:List BA} {v2:Value} {T:List De} {v3:Value} {bad bad':Bool} {d:De}
theorem HdM.ds (h:HdM w B0 r q LA c L rs v1 us v2 k wr):DsM w B0 r q LA c L rs v1 us v2 [] (.slice none 0 0) k false wr :=
 ⟨h.st,h.bx,h.o1,h.o2,zAN.nil _ _ _ _ _,(fun _ d hd=>by cases hd),h.rd,h.bel⟩
theorem DsM.size (h:DsM w B0 r q LA c L rs v1 us v2 T v3 k bad wr):w.heap.size≤wr.heap.size:=h.bel.size
theorem DsM.below (h:DsM w B0 r q LA c L rs v1 us v2 T v3 k bad wr) (hb:Below wr.heap.size wr w'):DsM w B0 r q LA c L rs v1 us v2 T v3 k bad w' :=
 ⟨h.st,h.bx.below hb,h.o1.below hb,h.o2.below hb,h.o3.below hb,(fun e d hd=>(h.ds e d hd).below hb),h.rd.below hb,h.bel.trans (hb.mono (by have:=h.bx.lt;have:=h.st.bq;omega))⟩
theorem DsM.read (h:DsM w B0 r q LA c L rs v1 us v2 T v3 k false wr) (hi:RdI w' r LA c L k' bad) (hg:wr.grownBy w' (some r)):DsM w B0 r q LA c L rs v1 us v2 T v3 k' bad w':=by
 have hs:=h.st;refine ⟨hs,(hg.block q h.bx.lt fun e=>hs.ne (dM e).symm).trans h.bx,h.o1.grown hg (zAY h.o1 hs.rl),h.o2.grown hg (zAY h.o2 hs.rl),h.o3.grown hg (zAY h.o3 hs.rl),(fun _ d hd=>(h.ds rfl d hd).grown hg hs.rl),hi,?_⟩
 refine h.bel.trans ⟨hg.os,hg.tape,hg.output,hg.size,fun i hi=>hg.block i (by have:=h.size;have:=hs.br;have:=hs.rl;omega) fun e=>?_⟩
 have:=dM e;have:=hs.br;omega
theorem DsM.push (h:DsM w B0 r q LA c L rs v1 us v2 T v3 k bad w4) (hd:bad=false→DsQ w.heap.size v3 w4 d) (ho:zAN eDq 16 w9 w.heap.size 47 (.slice (some ⟨g,0,none⟩) (T.length+1) cap) (T++[d])) (hg:w4.grownBy w9 v3.ownBlock)
  (hv:(Value.slice (some ⟨g,0,none⟩) (T.length+1) cap).ownBlock=v3.ownBlock∨∃ n,(Value.slice (some ⟨g,0,none⟩) (T.length+1) cap).ownBlock=some n∧w4.heap.size≤n) :
  w9.cell? ⟨q,2,none⟩=some v3∧q<w9.heap.size∧(∀ i,w9.frozen? ⟨q,i,none⟩=false)∧DsM w B0 r q LA c L rs v1 us v2 (T++[d]) (.slice (some ⟨g,0,none⟩) (T.length+1) cap) k bad (w9.setCell ⟨q,2,none⟩ (.slice (some ⟨g,0,none⟩) (T.length+1) cap)):=by
 have hs:=h.st;have hb:Below w.heap.size w4 w9:=(bN _ _).grown hg h.size (fun j hj=>(bO h.o3 j hj).1)
 have hx:Bx w9 q #[v1,v2,v3] 26:=(hb.block q hs.ql).trans h.bx;have g2:=zAx w9 ⟨q,2,none⟩ (.slice (some ⟨g,0,none⟩) (T.length+1) cap);have h1:zAN eRg 2 w9 w.heap.size 56 v1 rs:=h.o1.grown hg (zCd h.o1 h.o3 zc);have h2:zAN eSt 1 w9 w.heap.size 9 v2 us:=h.o2.grown hg (zCd h.o2 h.o3 zc);refine ⟨hx.c 2 rfl,hx.lt,hx.frozen,hs,hx.set 2 _,h1.grown g2 (zAY h1 hs.ql),h2.grown g2 (zAY h2 hs.ql),ho.grown g2 (zAY ho hs.ql),fun hbd x hx2=>?_,?_,?_⟩
 ·have:DsQ w.heap.size v3 w4 x:=by
   rcases List.mem_append.1 hx2 with hx2 | hx2
   ·exact h.ds hbd x hx2
   ·rw [List.mem_singleton.1 hx2];exact hd hbd
  exact (this.row h.o3 hg hv).grown g2 hs.ql
 ·exact (h.rd.taken hb hs.rl fun b o e=>(hs.la b o e).1).grown g2 hs.ne fun b o e=>(hs.la b o e).2
 ·exact Below.setCell (h.bel.trans (hb.mono (by have:=hs.bq;have:=hs.ql;omega))) hs.bq _
theorem dsQ_of (h:DeI w' q d) (hq:w.heap.size≤q) (hs:DSm d) (ho:zAN eDq 16 w9 w.heap.size 47 v3 T) (h9:w9.heap.size≤q):DsQ w.heap.size v3 w' d :=
 ⟨zAN.base h.ars za,zAN.base h.uss za,h.shs,fun hn b o e=>by
  have h1:=h.shq b o e;obtain ⟨b',o',hA,hc⟩:=h.shs (by cases hd:d.sh with | nil=>exact absurd hd hn | cons a t=>simp)
  rw [e] at hA;have e2:b=b':=by injection hA with hA;injection hA
  subst e2;have h2:=World.block_lt_of_cell? w' _ (hc 0 (by cases hd:d.sh with | nil=>exact absurd hd hn | cons a t=>simp)).1
  exact ⟨za,h2,fun e3=>by have:=(bO ho _ e3).2;omega⟩,hs⟩
end
/-! ### The plain side -/
theorem Sht.dropk {L:List Ln} (h:Sht L) (k:Nat):Sht (L.drop k):=⟨by have:=h.1;rw [bG];omega,fun l hl=>h.2 l (List.mem_of_mem_drop hl)⟩
def conX (T:List De):Except (List Ln) (List De)→Except (List Ln) (List De)
 | .error e=>.error e
 | .ok l=>.ok (T++l)
theorem conX_nil (x:Except (List Ln) (List De)):conX [] x=x:=by cases x<;>rfl
theorem deedsX_nil (f:Nat):zCa f [] = .ok []:=by cases f<;>rfl
theorem deedsX_bad {f:Nat} {M e:List Ln} (hM:M≠[]) (h:zCt M = .error e):zCa (f+1) M = .error e:=by
 rw [zCa,aC hM,h]
theorem deedsX_more {f:Nat} {M R:List Ln} {d:De} {T:List De} (hM:M≠[]) (h:zCt M = .ok (d,R)):conX T (zCa (f+1) M)=conX (T++[d]) (zCa f R):=by
 rw [zCa,aC hM,h];simp only
 cases zCa f R with
 | error e=>rfl
 | ok l=>simp [conX]
theorem deedX_less {M R:List Ln} {d:De} (h:zCt M = .ok (d,R)):R.length<M.length:=by
 have e:=deedX_ok h;have h1:=dLn_pos d;rw [e,cS];omega
theorem spl_len2 (c:UInt8):∀ l:Ln,(spl c l).length≤l.length+1
 | []=>by simp [spl]
 | b::l=>by
  have ih:=spl_len2 c l;unfold spl
  split
  ·simp only [aM];omega
  ·split
   ·simp
   ·next h t e=>rw [e] at ih;simp only [aM] at ih ⊢;omega
theorem spl_mem (c:UInt8):∀ (l p:Ln),p∈spl c l→p.length≤l.length
 | [],p,h=>by simp [spl] at h;subst h;simp
 | b::l,p,h=>by
  have ih:=spl_mem c l;unfold spl at h
  split at h
  ·rcases List.mem_cons.1 h with rfl | h
   ·simp
   ·have:=ih p h;simp only [aM];omega
  ·split at h
   ·next e=>exact absurd e (spl_ne l)
   ·next x t e =>
    rw [e] at ih
    rcases List.mem_cons.1 h with rfl | h
    ·have:=ih x aK;simp only [aM];omega
    ·have:=ih p (aJ _ h);simp only [aM];omega
def PlX (P0:Except (List Ln) (List De)) (L:List Ln) (T:List De) (k:Nat) (bad:Bool):Prop :=
 (bad=true→P0 = .error (L.drop k))∧(bad=false→∃ f,P0=conX (T.map zAI) (zCa f (L.drop k))∧(L.drop k).length≤f)
theorem PlX.step {P0:Except (List Ln) (List De)} {L:List Ln} {T:List De} {k k':Nat} {bad:Bool} {d:De} (h:PlX P0 L T k false) (hk:k<L.length) (hs:Stp (fun d M=>.ok (d,M)) (zCt (L.drop k)) L d k' bad):PlX P0 L (T++[d]) k' bad∧(bad=false→(L.drop k').length<(L.drop k).length):=by
 obtain ⟨f,hP,hf⟩:=h.2 rfl;have hM:L.drop k≠[]:=fun e=>by have:=aV List.length e;rw [bG] at this;simp at this;omega
 obtain ⟨f',rfl⟩:∃ f',f=f'+1:=⟨f - 1,by have:0<(L.drop k).length:=List.length_pos_iff.2 hM;omega⟩
 cases bad with
 | true =>
  have h1:=hs.1 rfl;refine ⟨⟨fun _=>?_,(fun h=>yg)⟩,(fun h=>yg)⟩
  rw [hP,deedsX_bad hM h1];rfl
 | false =>
  have h1:=(hs.2 rfl).symm;have h2:=deedX_less h1;refine ⟨⟨(fun h=>yg),fun _=>⟨f',?_,za⟩⟩,fun _=>h2⟩
  rw [hP,deedsX_more hM h1,dC];rfl
def zBC (t:Ln) (w:World) (e:Ending) (w':World):Prop :=
 ∃ RA rc rs UA uc us DA dc ds n f,e = .returned (.tuple #[.agg (tiC RA rc rs UA uc us DA dc ds),.int .i64 n,.int .i64 f])∧readF t=((rs,us,ds.map zAI),n,f)∧(Rgs w' RA rs∧Strs w' UA us∧Des w' DA ds) ∧
  (rs.length≤600000∧us.length≤600000∧ds.length≤600002)∧(∀ i (h:i<rs.length),(rs[i]).nm.size≤600000)∧(∀ i (h:i<us.length),(us[i]).size≤600000)∧Below w.heap.size w w'
theorem zBC.no {t:Ln} {w w':World} {n f:Int} (h:readF t=(([],[],[]),n,f)) (hb:Below w.heap.size w w'):zBC t w (.returned (.tuple #[.agg #[.slice none 0 0,.slice none 0 0,.slice none 0 0],.int .i64 n,.int .i64 f])) w' :=
 ⟨none,0,[],none,0,[],none,0,[],n,f,rfl,h,⟨(fun h=>absurd h zg),(fun h=>absurd h zg),(fun h=>absurd h zg)⟩,zg,(fun i h=>absurd h zg),(fun i h=>absurd h zg),hb⟩
theorem zCz {w0 w:World} {g:Nat} (h:Below w0.heap.size w0 w) (hg:w0.heap.size≤g) (a b c:Value):Below w0.heap.size w0 (((w.setCell ⟨g,0,none⟩ a).setCell ⟨g,1,none⟩ b).setCell ⟨g,2,none⟩ c) :=
 Below.setCell (Below.setCell (Below.setCell h hg _) hg _) hg _
theorem regs_small {L:List Ln} (hs:Sht L):(zAO L).1.length≤600000∧(∀ r∈(zAO L).1,r.nm.size≤600000)∧Sht (zAO L).2:=by
 have e:=regsX_ok L;have hs2:=hs;rw [e] at hs2;refine ⟨by have:=hs2.left.1;rw [cO] at this;exact this,fun r hr=>?_,hs2.right⟩
 have h1:=hs2.left.2 (rgW r) (List.mem_map.2 ⟨r,hr,rfl⟩);have h2:=joi_mem [zBj,r.nm.data.toList,if r.par=emp then [45] else r.par.data.toList] (n:=r.nm.data.toList) zg
 unfold rgW at h1;rw [zCC] at h2;omega
theorem fin_rows {w7:World} {z B1:Nat} (hz:z<B1) {A1 A2 A3:Option Addr} {c1 c2 c3:Nat} {rs:List Rg} {us:List BA} {T:List De} (a b c:Value) (o1:zAN eRg 2 w7 B1 56 (.slice A1 rs.length c1) rs) (o2:zAN eSt 1 w7 B1 9 (.slice A2 us.length c2) us)
  (o3:zAN eDq 16 w7 B1 47 (.slice A3 T.length c3) T) (hd:∀ d∈T,DsQ B1 (.slice A3 T.length c3) w7 d) :
  Rgs (((w7.setCell ⟨z,0,none⟩ a).setCell ⟨z,1,none⟩ b).setCell ⟨z,2,none⟩ c) A1 rs∧Strs (((w7.setCell ⟨z,0,none⟩ a).setCell ⟨z,1,none⟩ b).setCell ⟨z,2,none⟩ c) A2 us∧Des (((w7.setCell ⟨z,0,none⟩ a).setCell ⟨z,1,none⟩ b).setCell ⟨z,2,none⟩ c) A3 T:=by
 have g1:=zAx w7 ⟨z,0,none⟩ a;have g2:=zAx (w7.setCell ⟨z,0,none⟩ a) ⟨z,1,none⟩ b;have g3:=zAx ((w7.setCell ⟨z,0,none⟩ a).setCell ⟨z,1,none⟩ b) ⟨z,2,none⟩ c;have p1:=((o1.grown g1 (zAY o1 hz)).grown g2 (zAY o1 hz)).grown g3 (zAY o1 hz);have p2:=((o2.grown g1 (zAY o2 hz)).grown g2 (zAY o2 hz)).grown g3 (zAY o2 hz);have p3:=((o3.grown g1 (zAY o3 hz)).grown g2 (zAY o3 hz)).grown g3 (zAY o3 hz);obtain ⟨X1,d1,e1,h1⟩:=p1.rd2;obtain ⟨X2,d2,e2,h2⟩:=p2.rd1;obtain ⟨X3,d3,e3,h3⟩:=des_own p3 fun d h=>((((hd d h).grown g1 hz).grown g2 hz).grown g3 hz).ok
 have e1:A1=X1:=by injection e1
 have e2:A2=X2:=by injection e2
 have e3:A3=X3:=by injection e3
 rw [e1,e2,e3];exact ⟨h1,h2,h3⟩
def RdQ (w:World) (B0 r q:Nat) (LA:Option Addr) (c:Nat) (L:List Ln) (rs:List Rg) (v1:Value) (us:List BA) (v2:Value) (P0:Except (List Ln) (List De)) (m:Nat) (wr:World):Prop :=
 ∃ (T:List De) (v3:Value) (k:Nat) (bad:Bool),DsM w B0 r q LA c L rs v1 us v2 T v3 k bad wr∧PlX P0 L T k bad∧(bad=false→T.length≤k∧(L.drop k).length+2≤m)∧T.length≤600001∧1≤m
theorem Read_c (s:BA) (w:World) (hG:GOK w) (hs:s.size≤9223372036854775807) :
  Calls Tryz.prog 5 #[.string s] w (zBC s.data.toList w):=by
 have HX:Hid (Bx (w.alloc (.cells #[.slice none 0 0,.slice none 0 0,.slice none 0 0] 26)) w.heap.size #[.slice none 0 0,.slice none 0 0,.slice none 0 0] 26):=Bx.new _ _ _;have HB:Hid (Below w.heap.size w (w.alloc (.cells #[.slice none 0 0,.slice none 0 0,.slice none 0 0] 26))):=(bN _ _).alloc (aB _) _;obtain ⟨W,hW⟩:∃ W,W=w.alloc (.cells #[.slice none 0 0,.slice none 0 0,.slice none 0 0] 26):=⟨_,rfl⟩;rw [←hW] at HX HB;obtain ⟨t,ht⟩:∃ t,t=s.data.toList:=⟨_,rfl⟩;have htl:t.length=s.size:=by rw [ht];rfl
 have HG:=zq (hG.below HB.o)
 have HGK:Hid (gkB<w.heap.size):=by
  obtain ⟨m,hm⟩:=hG;exact World.block_lt_of_cell? w _ hm
 rw [←ht];have HT:=zq ht;clear hG ht
 go_enter Tryz.func5,Tryz.ntmps5
 go_upto_region 1 with fail
 rw [←hW];clear hW
 by_cases hl:500000<s.size
 case pos =>
  have hl1:(500000:Int)<(s.size:Int):=za;have HF:Hid (readF t=(([],[],[]),0,2)):=by show _=_;unfold readF;rw [aE za]
  obtain ⟨z0,z1,z2⟩:=HX.o.t;have f0:=HX.o.frozen 0;have f1:=HX.o.frozen 1;have f2:=HX.o.frozen 2;have hsz:=HX.o.lt;clear hl htl;go_wp2;refine cW (v:=.tuple #[.agg #[.slice none 0 0,.slice none 0 0,.slice none 0 0],.int .i64 0,.int .i64 2]) ?_ rfl ?_
  ·simp [results,Tryz.results5,go_sem,z0,z1,z2]
  ·exact zBC.no HF.o (zCz HB.o (aB _) _ _ _)
 have hl1:¬ (500000:Int)<(s.size:Int):=za;have HSP:=zq (split_c 10 s W za HG.o);rw [←HT.o] at HSP;obtain ⟨L,ll,hL⟩:∃ L ll,spl 10 t=L++[ll]:=⟨_,_,(List.dropLast_concat_getLast (spl_ne t)).symm⟩;rw [hL] at HSP
 have hlen:L.length≤500001:=by
  have h1:=spl_len2 10 t;rw [hL,cS] at h1;simp at h1
  omega
 have HSH:Hid (Sht L):=⟨za,fun l hl=>by
  have:=spl_mem 10 t l (by rw [hL];simp [hl])
  omega⟩
 have HRF:Hid (readF t=match zCa (zAJ [] zCH (zAO L).2).2.length (zAJ [] zCH (zAO L).2).2 with
  | .error e=>(([],[],[]),((L.length - e.length:Nat):Int)+1,10)
  | .ok ds=>if ll≠[] then (([],[],[]),(L.length:Int)+1,10)
   else if zDh (zAO L).1 (zAJ [] zCH (zAO L).2).1 ds≠0 then (([],[],[]),0,zDh (zAO L).1 (zAJ [] zCH (zAO L).2).1 ds)
   else (((zAO L).1,(zAJ [] zCH (zAO L).2).1,ds),0,0)):=by
  show _=_
  unfold readF;rw [aC za,hL,List.dropLast_concat];simp only [List.getLast?_concat,ne_eq,dF]
  rfl
 clear hl htl hL
 go_wp2_with fail
 with_reducible refine HSP.o.mono ?_
 rintro e w2 ⟨b,n,hn,rfl,hlo,hst,hb2⟩;rw [cS,List.length_singleton] at hn;have hns:n=L.length+1:=hn;obtain ⟨b',o',hA,hc2⟩:=hst zg
 injection hA with hA
 injection hA with hA1 hA2 _
 subst hA1;subst hA2
 have c0:w2.cell? ⟨b,L.length,none⟩=some (.string (ofL ll)):=by
  have h1:=hc2 L.length zg;rw [bF] at h1;rw [h1];simp
 have HST:Hid (Strs w2 (some ⟨b,0,none⟩) (L.map ofL)):=fun h0=>⟨b,0,rfl,fun i hi=>by
  rw [cO] at hi;rw [hc2 i zj];simp only [dC];rw [List.getElem_append_left yt]⟩
 have HB2:=zq (zAb HB.o hb2);have HX2:=zq (HX.o.below hb2);have HG2:=zq (HG.o.below hb2)
 have HLO:Hid (w.heap.size+1≤b):=by
  have h1:W.heap.size≤b:=hlo;have h2:=HX.o.lt
  show _≤_
  omega
 have HLT:Hid (b<w2.heap.size):=World.block_lt_of_cell? w2 _ c0;obtain ⟨m,hm⟩:∃ m,m=L.length:=⟨_,rfl⟩;have HM:=zq hm;rw [←hm] at c0 hns hlen;clear hst hc2 hb2 hlo hn HX HB HG HSP hm;have g1:(1:Int)≤(n:Int):=za;have g2:((n:Int) - 1)=(m:Int):=za;have g3:m<n:=za;have g4:n≤500002:=za;go_upto_region 5 with fail
 go_upto_region 6 with fail
 obtain ⟨r,hr⟩:∃ r,r=w2.heap.size:=⟨_,rfl⟩;obtain ⟨w3,hw3⟩:∃ w3,w3=w2.alloc (.cells #[.slice (some ⟨b,0,none⟩) m (m+1),.int .i64 0,.bool false] 39):=⟨_,rfl⟩;have hb3:Below w2.heap.size w2 w3:=by rw [hw3];exact (bN _ _).alloc (aB _) _
 have hs3:w3.heap.size=r+1:=by rw [hw3,hr];simp
 have HR3:Hid (RdI w3 r (some ⟨b,0,none⟩) (m+1) L 0 false):=by
  refine ⟨?_,HST.o.below hb3,fun b' o e=>?_,fun b' o e=>?_,aU _,HSH.o.1,HSH.o.2⟩
  ·rw [hw3,hr,←HM.o];exact Bx.new _ _ _
  ·have h1:=HLT.o
   have e2:b=b':=by injection e with e;injection e
   omega
  ·have h1:=HLT.o
   have e2:b=b':=by injection e with e;injection e
   omega
 have HB3:=zq (zAb HB2.o hb3);have HX3:=zq (HX2.o.below hb3);have HG3:=zq (HG2.o.below hb3);have hzr:w.heap.size<r:=by have:=HX2.o.lt;omega
 have HLR:Hid (b<r):=by show _<_;rw [hr];exact HLT.o
 rw [←hw3,←hr];clear hw3 hb3 HST HB2 HX2 HG2 hr;obtain ⟨w4,hw4⟩:∃ w4,w4=w3.alloc (.cells #[.slice none 0 0,.slice none 0 0,.slice none 0 0] 26):=⟨_,rfl⟩;have hb4:Below w3.heap.size w3 w4:=by rw [hw4];exact (bN _ _).alloc (aB _) _
 have hs4:w4.heap.size=r+2:=by rw [hw4];simp;omega
 have HQ4:Hid (Bx w4 (r+1) (hdC (.slice none 0 0) (.slice none 0 0)) 26):=by show Bx _ _ _ _;rw [hw4,←hs3];exact Bx.new _ _ _
 have HB4:=zq (zAb HB3.o hb4);have HX4:=zq (HX3.o.below hb4);have HR4:=zq (HR3.o.below hb4);have HG4:=zq (HG3.o.below hb4)
 have HDS:Hid (HdS w4 (w.heap.size+1) r (r+1) (some ⟨b,0,none⟩)):=by
  have h1:=HLR.o;refine ⟨za,za,za,za,za,fun b' o e=>?_⟩
  have e2:b=b':=by injection e with e;injection e
  exact ⟨za,za⟩
 have HHD:=zq (head_c (w.heap.size+1) r (r+1) (some ⟨b,0,none⟩) (m+1) L w4 HR4.o HQ4.o HG4.o (by have:=HGK.o;omega) HDS.o)
 obtain ⟨rs,hrs⟩:∃ rs,rs=(zAO L).1:=⟨_,rfl⟩;obtain ⟨us,hus⟩:∃ us,us=(zAJ [] zCH (zAO L).2).1:=⟨_,rfl⟩
 have HM0:Hid ((zAJ [] zCH (zAO L).2).2=L.drop (rs.length+us.length)):=by
  show _=_
  rw [usesX_rest,←hus,regsX_rest,←hrs,bR]
 have HSM:Hid ((rs.length≤600000∧us.length≤600000)∧(∀ i (h:i<rs.length),(rs[i]).nm.size≤600000)∧(∀ i (h:i<us.length),(us[i]).size≤600000)):=by
  obtain ⟨a1,a2,a3⟩:=regs_small HSH.o;obtain ⟨c1,c2,_⟩:=uses_sm (first:=zCH) true [] a3
  rw [←hrs] at a1 a2;have c1':us.length≤600000:=by rw [hus];exact c1
  have c2':∀ u∈us,u.size≤600000:=by rw [hus];exact c2
  exact ⟨⟨a1,c1'⟩,fun i h=>a2 _ (aI h),fun i h=>c2' _ (aI h)⟩
 rw [←hrs,←hus,HM0.o] at HRF;rw [←hrs,←hus] at HHD;obtain ⟨k0,hk0⟩:∃ k0,k0=rs.length+us.length:=⟨_,rfl⟩;rw [←hk0] at HRF HHD;obtain ⟨P0,hP0⟩:∃ P0,P0=zCa (L.drop k0).length (L.drop k0):=⟨_,rfl⟩;rw [←hP0] at HRF;have HPL:Hid (PlX P0 L [] k0 false):=⟨(fun h=>yg),fun _=>⟨_,by rw [hP0,List.map_nil,conX_nil],aB _⟩⟩
 have HTK:Hid (∀ k,(L.drop k).length=L.length - k):=fun k=>bG
 clear hrs hus hk0 hP0 HM0 HR3 HR4 HQ4 HB3 HX3 HG3 c0;go_upto_region 7 with fail
 rw [←hw4];clear hw4 hb4
 go_wp2_with fail
 with_reducible refine HHD.o.mono ?_
 rintro e w5 ⟨rfl,v1,v2,hm5⟩;have HM5:=zq hm5.ds;have hk0:=hm5.rd.le;clear hm5 HHD
 go_wp2_with fail
 go_loopg [] (L.length+2) (RdQ w4 (w.heap.size+1) r (r+1) (some ⟨b,0,none⟩) (m+1) L rs v1 us v2 P0)
 case atStart=>exact ⟨[],_,k0,false,HM5.o,HPL.o,(fun _=>⟨aU _,by have:=HTK.o k0;omega⟩),zg,za⟩
 clear HM5 HPL hk0
 case round =>
  obtain ⟨T,v3,k,bad,hm5,hp,hlt,hTl,hgk⟩:=hrel;have HMr:=zq hm5;have HPr:=zq hp;have HLr:=zq hlt;have HZ:Hid (∀ w',Below (w.heap.size+1) w4 w'→Bx w' w.heap.size #[.slice none 0 0,.slice none 0 0,.slice none 0 0] 26∧Below w.heap.size w w'):=fun w' hb=>⟨(hb.block w.heap.size (Nat.lt_succ_self _)).trans HX4.o,HB4.o.trans (hb.mono (Nat.le_succ _))⟩
  have x0:wr.cell? ⟨r,0,none⟩=some (.slice (some ⟨b,0,none⟩) L.length (m+1)):=hm5.rd.bx.c 0 rfl;have x1:wr.cell? ⟨r,1,none⟩=some (.int .i64 (k:Int)):=hm5.rd.bx.c 1 rfl;have x2:wr.cell? ⟨r,2,none⟩=some (.bool bad):=hm5.rd.bx.c 2 rfl;have xs:=hm5.rd.bx.lt;have hkL:=hm5.rd.le;have hLm:=hm5.rd.many;clear hm5 hp hlt;have hkw:IntKind.i64.wrap ((k:Int)+1)=(k:Int)+1:=IntWalk.i64_in _ za
  cases bad with
  | true =>
   have HERR:Hid (readF t=(([],[],[]),(k:Int)+1,10)):=by
    show _=_
    rw [HRF.o,HPr.o.1 rfl];have e1:L.length - (L.drop k).length=k:=by rw [HTK.o k];omega
    simp only [e1]
   clear HRF;go_upto_region 8 with fail
   go_quiet (fail)
   have HM6:=zq (HMr.o.below (zAc (bN _ _) nq));clear x0 x1 x2 xs HMr;generalize wr.drewN nq=w6 at *;have x2:w6.cell? ⟨r,2,none⟩=some (.bool true):=HM6.o.rd.bx.c 2 rfl;have xs:=HM6.o.rd.bx.lt;go_upto_region 11 with fail
   clear x2 xs;obtain ⟨w7,hw7⟩:∃ w7,w7=w6.drew:=⟨_,rfl⟩;have HM7:Hid (DsM w4 (w.heap.size+1) r (r+1) (some ⟨b,0,none⟩) (m+1) L rs v1 us v2 T v3 k true w7):=yq;have HZ7:Hid (Bx w7 w.heap.size #[.slice none 0 0,.slice none 0 0,.slice none 0 0] 26∧Below w.heap.size w w7):=HZ.o w7 HM7.o.bel;obtain ⟨z0,z1,z2⟩:=HZ7.o.1.t;have f0:=HZ7.o.1.frozen 0;have f1:=HZ7.o.1.frozen 1;have f2:=HZ7.o.1.frozen 2;have hsz:=HZ7.o.1.lt;have HS1:Hid (w7.cell? ⟨r,1,none⟩=some (.int .i64 (k:Int))):=HM7.o.rd.bx.c 1 rfl;clear HM6 HM7;refine dO (S:=(fun w'=>w'.cell? ⟨r,1,none⟩=some (.int .i64 (k:Int)))) zb ?_ (fun hHeld=>?_)
   ·first | exact HS1.o | (rw [←hw7];exact HS1.o) | exact HS8.o
   rw [←hw7];clear hw7;refine Dw.tk 0 ?_ rfl ?_ zi ?_
   rotate_left 1
   ·(intro w _;go_simp;try with_reducible rfl)
   simp only [dS,cB,Act.put,bV,dQ,bP];refine Dw.tk 1 ?_ rfl ?_ zi ?_
   rotate_left 1
   ·(intro w _;go_simp;try with_reducible rfl)
   simp only [Dw.lay,Act.put];refine Dw.tk 2 ?_ rfl ?_ zi ?_
   rotate_left 1
   ·(intro w _;go_simp;try with_reducible rfl)
   simp only [Dw.lay,Act.put];refine Dw.tk 3 ?_ rfl ?_ zi ?_
   rotate_left 1
   ·(intro w _;go_simp;try with_reducible rfl)
   simp only [Dw.lay,Act.put];refine Dw.tk 4 ?_ rfl ?_ zi ?_
   rotate_left 1
   ·(intro w hSw;(try dsimp only at hSw);go_simp;try with_reducible rfl)
   simp only [Dw.lay,Act.put];refine Dw.tk 5 ?_ rfl ?_ zi ?_
   rotate_left 1
   ·(intro w _;go_simp;try with_reducible rfl)
   simp only [Dw.lay,Act.put];refine Dw.rd1 6 rfl (fun K hK=>?_)
   clear hHeld
   go_simp
   have HS8:Hid ((((w7.setCell ⟨w.heap.size,0,none⟩ (.slice none 0 0)).setCell ⟨w.heap.size,1,none⟩ (.slice none 0 0)).setCell ⟨w.heap.size,2,none⟩ (.slice none 0 0)).cell? ⟨r,1,none⟩=some (.int .i64 (k:Int))):=by
    show _=_
    unfold World.cell?;rw [bX _ _ _ _ qr,bX _ _ _ _ qr,bX _ _ _ _ qr];exact HS1.o
   refine hK.out _ _ ?_ (fun hHeld=>?_)
   ·first | exact HS1.o | (rw [←hw7];exact HS1.o) | exact HS8.o
   clear hK K
   try simp only [Dw.lay,Act.put]
   refine Dw.rd1 7 rfl (fun K hK=>?_)
   clear hHeld
   go_simp
   refine hK.out _ _ ?_ (fun hHeld=>?_)
   ·first | exact HS1.o | (rw [←hw7];exact HS1.o) | exact HS8.o
   clear hK K
   try simp only [Dw.lay,Act.put]
   refine Dw.rd1 8 rfl (fun K hK=>?_)
   clear hHeld
   go_simp
   refine hK.out _ _ ?_ (fun hHeld=>?_)
   ·first | exact HS1.o | (rw [←hw7];exact HS1.o) | exact HS8.o
   clear hK K
   try simp only [Dw.lay,Act.put]
   refine wpAnyH_done zb ?_ _
   clear hHeld;have HE:Hid (zBC t w (.returned (.tuple #[.agg #[.slice none 0 0,.slice none 0 0,.slice none 0 0],.int .i64 ((k:Int)+1),.int .i64 10])) (((w7.setCell ⟨w.heap.size,0,none⟩ (.slice none 0 0)).setCell ⟨w.heap.size,1,none⟩ (.slice none 0 0)).setCell ⟨w.heap.size,2,none⟩ (.slice none 0 0))):=zBC.no HERR.o (zCz HZ7.o.2 (aB _) _ _ _);go_wp2;refine cW (v:=.tuple #[.agg #[.slice none 0 0,.slice none 0 0,.slice none 0 0],.int .i64 ((k:Int)+1),.int .i64 10]) ?_ rfl HE.o
   simp [results,Tryz.results5,go_sem,z0,z1,z2]
  | false =>
   by_cases hk:k<L.length
   case neg =>
    have q1:decide ((k:Int)<(L.length:Int))=false:=cF za;go_upto_region 8 with fail
    go_quiet (fail)
    have HM6:=zq (HMr.o.below (zAc (bN _ _) nq));clear x0 x1 x2 xs HMr;generalize wr.drewN nq=w6 at *;have x2:w6.cell? ⟨r,2,none⟩=some (.bool false):=HM6.o.rd.bx.c 2 rfl;have xs:=HM6.o.rd.bx.lt
    have HP:Hid (P0 = .ok (T.map zAI)):=by
     obtain ⟨f,h1,h2⟩:=HPr.o.2 rfl
     show _=_
     rw [h1,List.drop_eq_nil_of_le za,deedsX_nil];simp [conX]
    by_cases hll:ll=[]
    case neg =>
     have q2:(ofL ll).toList.isEmpty=false:=zAn fun e=>hll (by rw [←zAu ll,e];rfl)
     have HERR:Hid (readF t=(([],[],[]),(k:Int)+1,10)):=by
      show _=_
      rw [HRF.o,HP.o];simp only [aE hll];rw [show L.length=k by omega]
     clear HRF HP q1 hll;go_upto_region 11 with fail
     clear x2 xs;obtain ⟨w7,hw7⟩:∃ w7,w7=w6.drew:=⟨_,rfl⟩;have HM7:Hid (DsM w4 (w.heap.size+1) r (r+1) (some ⟨b,0,none⟩) (m+1) L rs v1 us v2 T v3 k false w7):=yq;have HZ7:Hid (Bx w7 w.heap.size #[.slice none 0 0,.slice none 0 0,.slice none 0 0] 26∧Below w.heap.size w w7):=HZ.o w7 HM7.o.bel;obtain ⟨z0,z1,z2⟩:=HZ7.o.1.t;have f0:=HZ7.o.1.frozen 0;have f1:=HZ7.o.1.frozen 1;have f2:=HZ7.o.1.frozen 2;have hsz:=HZ7.o.1.lt;have HS1:Hid (w7.cell? ⟨r,1,none⟩=some (.int .i64 (k:Int))):=HM7.o.rd.bx.c 1 rfl;clear HM6 HM7;refine dO (S:=(fun w'=>w'.cell? ⟨r,1,none⟩=some (.int .i64 (k:Int)))) zb ?_ (fun hHeld=>?_)
     ·first | exact HS1.o | (rw [←hw7];exact HS1.o) | exact HS8.o
     rw [←hw7];clear hw7;refine Dw.tk 0 ?_ rfl ?_ zi ?_
     rotate_left 1
     ·(intro w _;go_simp;try with_reducible rfl)
     simp only [dS,cB,Act.put,bV,dQ,bP];refine Dw.tk 1 ?_ rfl ?_ zi ?_
     rotate_left 1
     ·(intro w _;go_simp;try with_reducible rfl)
     simp only [Dw.lay,Act.put];refine Dw.tk 2 ?_ rfl ?_ zi ?_
     rotate_left 1
     ·(intro w _;go_simp;try with_reducible rfl)
     simp only [Dw.lay,Act.put];refine Dw.tk 3 ?_ rfl ?_ zi ?_
     rotate_left 1
     ·(intro w _;go_simp;try with_reducible rfl)
     simp only [Dw.lay,Act.put];refine Dw.tk 4 ?_ rfl ?_ zi ?_
     rotate_left 1
     ·(intro w hSw;(try dsimp only at hSw);go_simp;try with_reducible rfl)
     simp only [Dw.lay,Act.put];refine Dw.tk 5 ?_ rfl ?_ zi ?_
     rotate_left 1
     ·(intro w _;go_simp;try with_reducible rfl)
     simp only [Dw.lay,Act.put];refine Dw.rd1 6 rfl (fun K hK=>?_)
     clear hHeld
     go_simp
     have HS8:Hid ((((w7.setCell ⟨w.heap.size,0,none⟩ (.slice none 0 0)).setCell ⟨w.heap.size,1,none⟩ (.slice none 0 0)).setCell ⟨w.heap.size,2,none⟩ (.slice none 0 0)).cell? ⟨r,1,none⟩=some (.int .i64 (k:Int))):=by
      show _=_
      unfold World.cell?;rw [bX _ _ _ _ qr,bX _ _ _ _ qr,bX _ _ _ _ qr];exact HS1.o
     refine hK.out _ _ ?_ (fun hHeld=>?_)
     ·first | exact HS1.o | (rw [←hw7];exact HS1.o) | exact HS8.o
     clear hK K
     try simp only [Dw.lay,Act.put]
     refine Dw.rd1 7 rfl (fun K hK=>?_)
     clear hHeld
     go_simp
     refine hK.out _ _ ?_ (fun hHeld=>?_)
     ·first | exact HS1.o | (rw [←hw7];exact HS1.o) | exact HS8.o
     clear hK K
     try simp only [Dw.lay,Act.put]
     refine Dw.rd1 8 rfl (fun K hK=>?_)
     clear hHeld
     go_simp
     refine hK.out _ _ ?_ (fun hHeld=>?_)
     ·first | exact HS1.o | (rw [←hw7];exact HS1.o) | exact HS8.o
     clear hK K
     try simp only [Dw.lay,Act.put]
     refine wpAnyH_done zb ?_ _
     clear hHeld;have HE:Hid (zBC t w (.returned (.tuple #[.agg #[.slice none 0 0,.slice none 0 0,.slice none 0 0],.int .i64 ((k:Int)+1),.int .i64 10])) (((w7.setCell ⟨w.heap.size,0,none⟩ (.slice none 0 0)).setCell ⟨w.heap.size,1,none⟩ (.slice none 0 0)).setCell ⟨w.heap.size,2,none⟩ (.slice none 0 0))):=zBC.no HERR.o (zCz HZ7.o.2 (aB _) _ _ _);go_wp2;refine cW (v:=.tuple #[.agg #[.slice none 0 0,.slice none 0 0,.slice none 0 0],.int .i64 ((k:Int)+1),.int .i64 10]) ?_ rfl HE.o
     simp [results,Tryz.results5,go_sem,z0,z1,z2]
    case pos =>
     have q2:(ofL ll).toList.isEmpty=true:=zAm (by rw [hll];rfl)
     obtain ⟨A1,c1,hv1,hr1⟩:=HM6.o.o1.rd2;obtain ⟨A2,c2,hv2,hr2⟩:=HM6.o.o2.rd1;obtain ⟨A3,c3,hv3,hr3⟩:=des_own HM6.o.o3 (fun d hd=>(HM6.o.ds rfl d hd).ok)
     have HR1:=zq hr1;have HO1:=zq HM6.o.o1;have HO2:=zq HM6.o.o2;have HO3:=zq HM6.o.o3;have HDD:=zq (HM6.o.ds rfl);have HR2:=zq hr2;have HR3:=zq hr3;subst hv1;subst hv2;subst hv3
     have HEND:Hid (readF t=if zDh rs us T=0 then ((rs,us,T.map zAI),0,0) else (([],[],[]),0,zDh rs us T)):=by
      show _=_
      rw [HRF.o,HP.o];simp only [hll,chkT_plain]
      by_cases hz:zDh rs us T=0<;>simp [hz]
     clear HRF HP q1 hll hr1 hr2 hr3;have y0:w6.cell? ⟨r+1,0,none⟩=some (.slice A1 rs.length c1):=HM6.o.bx.c 0 rfl;have y1:w6.cell? ⟨r+1,1,none⟩=some (.slice A2 us.length c2):=HM6.o.bx.c 1 rfl;have y2:w6.cell? ⟨r+1,2,none⟩=some (.slice A3 T.length c3):=HM6.o.bx.c 2 rfl;have ys:=HM6.o.bx.lt;have HCK:=zq (CheckT_c A1 c1 rs A2 c2 us A3 c3 T w6 HR1.o HR2.o HR3.o (fun i h=>by have:=HSM.o.2.1 i h;omega) (fun i h=>by have:=HSM.o.2.2 i h;omega))
     go_wp2_with fail
     with_reducible refine HCK.o.mono ?_
     rintro e w7 ⟨rfl,hb7⟩;have HB7:=zq hb7;have HX7:=zq (HM6.o.bx.below hb7);have HZ6:=HZ.o w6 HM6.o.bel;have HZ7:Hid (Bx w7 w.heap.size #[.slice none 0 0,.slice none 0 0,.slice none 0 0] 26∧Below w.heap.size w w7):=⟨HZ6.1.below hb7,HZ6.2.trans (hb7.mono (by have:=HZ6.1.lt;omega))⟩
     have hlt2:=HLr.o ya;clear x2 xs y0 y1 y2 ys hb7 HCK HM6 HZ6 q2;obtain ⟨z0,z1,z2⟩:=HZ7.o.1.t;have f0:=HZ7.o.1.frozen 0;have f1:=HZ7.o.1.frozen 1;have f2:=HZ7.o.1.frozen 2;have hsz:=HZ7.o.1.lt
     by_cases hcz:zDh rs us T=0
     case neg =>
      have hcb:(zDh rs us T != 0)=true:=by simpa using hcz
      have HE:Hid (zBC t w (.returned (.tuple #[.agg #[.slice none 0 0,.slice none 0 0,.slice none 0 0],.int .i64 0,.int .i64 (zDh rs us T)])) (((w7.setCell ⟨w.heap.size,0,none⟩ (.slice none 0 0)).setCell ⟨w.heap.size,1,none⟩ (.slice none 0 0)).setCell ⟨w.heap.size,2,none⟩ (.slice none 0 0))):=zBC.no (by rw [HEND.o,aC hcz]) (zCz HZ7.o.2 (aB _) _ _ _)
      clear hcz hlt2;go_wp2;refine cW (v:=.tuple #[.agg #[.slice none 0 0,.slice none 0 0,.slice none 0 0],.int .i64 0,.int .i64 (zDh rs us T)]) ?_ rfl HE.o
      simp [results,Tryz.results5,go_sem,z0,z1,z2]
     case pos =>
      have hk2:L.length≤600000:=hLm;have hbs:=zCz HZ7.o.2 (aB _) (.slice A1 rs.length c1) (.slice A2 us.length c2) (.slice A3 T.length c3)
      have HE:Hid (zBC t w (.returned (.tuple #[.agg #[.slice A1 rs.length c1,.slice A2 us.length c2,.slice A3 T.length c3],.int .i64 0,.int .i64 0])) (((w7.setCell ⟨w.heap.size,0,none⟩ (.slice A1 rs.length c1)).setCell ⟨w.heap.size,1,none⟩ (.slice A2 us.length c2)).setCell ⟨w.heap.size,2,none⟩ (.slice A3 T.length c3))) :=
       ⟨A1,c1,rs,A2,c2,us,A3,c3,T,0,0,rfl,by rw [HEND.o,aE hcz],fin_rows za _ _ _ (HO1.o.below HB7.o) (HO2.o.below HB7.o) (HO3.o.below HB7.o) (fun d h=>(HDD.o d h).below HB7.o),⟨HSM.o.1.1,HSM.o.1.2,za⟩,HSM.o.2.1,HSM.o.2.2,hbs⟩
      rw [hcz];clear hcz hlt2 hbs;obtain ⟨g0,g1,g2⟩:=HX7.o.t;have gs:=HX7.o.lt;go_wp2;refine cW (v:=.tuple #[.agg #[.slice A1 rs.length c1,.slice A2 us.length c2,.slice A3 T.length c3],.int .i64 0,.int .i64 0]) ?_ rfl HE.o
      simp [results,Tryz.results5,go_sem,z0,z1,z2]
   case pos =>
    have q1:decide ((k:Int)<(L.length:Int))=true:=cD za;go_upto_region 8 with fail
    go_quiet (fail)
    obtain ⟨wk,hwk⟩:∃ wk,wk=(wr.drewN nq).drew:=⟨_,rfl⟩;have HMk:Hid (DsM w4 (w.heap.size+1) r (r+1) (some ⟨b,0,none⟩) (m+1) L rs v1 us v2 T v3 k false wk):=by show DsM _ _ _ _ _ _ _ _ _ _ _ _ _ _ _ _;rw [hwk];exact (HMr.o.below (zAc (bN _ _) nq)).below (zAc (bN _ _) 1)
    have HAd:Hid (wk.cell? ⟨r+1,2,none⟩=some v3):=HMk.o.bx.c 2 rfl;have HDE:=zq (rdDeed_c r (some ⟨b,0,none⟩) (m+1) L k wk HMk.o.rd (HG4.o.belB HMk.o.bel (by have:=HGK.o;omega)) (by have:=HGK.o;omega))
    have hlt2:=HLr.o ya;clear x0 x1 x2 xs q1 HMr hkw;go_upto_region 9 with fail
    refine zCT (S:=SLq 7 (fun w'=>w'.cell? ⟨r+1,2,none⟩=some v3)) zb (fun _=>by rw [←hwk];exact HAd.o) ?_
    intro hsh _;rw [←hwk];clear hwk;refine zAF (i:=0) (v:=?_) rfl zb zb zb (fun _ _ _ h=>h) (SLq.iff zc) hsh (Or.inl ⟨zb,?_⟩) (fun _=>HAd.o) ?_
    rotate_left 1
    ·(intro w9 _;go_simp;try with_reducible rfl)
    intro hsh _;simp only [dS,cB,Act.put,bV,dQ,bP] at hsh ⊢;refine zAF (i:=1) (v:=?_) rfl zb zb zb (fun _ _ _ h=>h) (SLq.iff zc) hsh (Or.inl ⟨zb,?_⟩) (fun _=>HAd.o) ?_
    rotate_left 1
    ·(intro w9 hw9;have hA:=SLq.ahead (n:=7) zb hw9;skip;go_simp;try with_reducible rfl)
    intro hsh _;simp only [Dw.lay,Act.put] at hsh ⊢;refine zAF (i:=2) (v:=?_) rfl zb zb zb (fun _ _ _ h=>h) (SLq.iff zc) hsh (Or.inl ⟨zb,?_⟩) (fun _=>HAd.o) ?_
    rotate_left 1
    ·(intro w9 _;go_simp;try with_reducible rfl)
    intro hsh _;simp only [Dw.lay,Act.put] at hsh ⊢;clear hsh;refine zAS (rs:=[3]) zb zg ?_
    refine AllL.cons rfl (fun K hK=>?_) AllL.nil
    go_simp
    go_at_call 12
    with_reducible refine HDE.o.mono ?_
    rintro e w6 ⟨d,k',bad',rfl,hd,hi,hgr,hst⟩;have hm6:=HMk.o.read hi hgr
    have HQ6:Hid (bad'=false→DsQ w4.heap.size v3 w6 d):=fun hb=>by
     have h1:=(deedX_sm (HSH.o.dropk k) (hst.2 hb).symm).1;exact dsQ_of hd (by have:=HMk.o.size;omega) ⟨h1.strs,h1.lens,h1.shz⟩ HMk.o.o3 (Nat.le_succ _)
    have HM6:=zq hm6;have HST:=zq hst;have HA6:Hid (w6.cell? ⟨r+1,2,none⟩=some v3):=hm6.bx.c 2 rfl;have hba:Below w6.heap.size w6 (w6.alloc (.cells (deC d) 47)):=(bN _ _).alloc (aB _) _;have HA7:=zq (zAK hba HA6.o);have HM7:=zq (hm6.below hba);have HQ7:Hid (bad'=false→DsQ w4.heap.size v3 (w6.alloc (.cells (deC d) 47)) d):=fun hb=>(HQ6.o hb).below hba
    clear hd hi hgr hst hm6 hba HDE;refine hK.out _ _ (fun _=>HA6.o) (fun _=>?_)
    clear hK K
    try simp only [Dw.lay,Act.put]
    refine zAS (rs:=[4]) zb zg ?_
    refine AllL.cons rfl (fun K hK=>?_) AllL.nil
    go_simp
    refine hK.out _ _ (fun _=>HA7.o) (fun _=>?_)
    clear hK K
    try simp only [Dw.lay,Act.put]
    refine zAS (rs:=[5]) zb zg ?_
    refine AllL.cons rfl (fun K hK=>?_) AllL.nil
    refine step_pushC (k:=16) (enc:=eDq) zy _ _ _ zy elDq w4.heap.size v3 T zy HM7.o.o3 w6.heap.size 1 d zy (bY w6 _) rfl rfl (oneDq _) yk za HM7.o.size ?_
    intro g9 cap9 w9 ho9 hg9 hv9;obtain ⟨z0,zs,zf,hm9⟩:=HM7.o.push HQ7.o ho9 hg9 (hv9.imp (fun e=>e.symm) fun e=>⟨_,by rw [e];rfl,aB _⟩)
    have HM9:=zq hm9;have HA9:Hid (w9.cell? ⟨r+1,2,none⟩=some v3):=z0;have zf2:=zf 2;clear hm9 zf ho9 hg9 hv9;refine hK.out _ _ (fun _=>HA9.o) (fun _=>?_)
    clear hK K
    try simp only [Dw.lay,Act.put]
    refine zAS (rs:=[6]) zb zg ?_
    refine AllL.cons rfl (fun K hK=>?_) AllL.nil
    go_simp
    refine hK.out _ _ (fun _=>HA9.o) (fun _=>?_)
    clear hK K
    try simp only [Dw.lay,Act.put]
    refine zAS (rs:=[7]) zb zg ?_
    refine AllL.cons rfl (fun K hK=>?_) AllL.nil
    go_simp
    refine hK.out _ _ (fun h=>absurd h zc) (fun _=>?_)
    clear hK K
    try simp only [Dw.lay,Act.put]
    refine anyL_done zb ?_ _
    obtain ⟨hp1,hp2⟩:=HPr.o.step hk HST.o;have HP1:=zq hp1;have HP2:=zq hp2;have HL1:=HTK.o k;have HL2:=HTK.o k';clear hp1 hp2 HST HA6 HA7 HA9 HM6 HM7 HQ6 HQ7 z0 zs zf2 HAd HMk
    go_wp2_with fail
    go_roundg (gk - 1)
    case measure=>omega
    case rel=>exact ⟨T++[d],_,k',bad',HM9.o,HP1.o,(fun hb=>by have:=HP2.o hb;rw [cS,List.length_singleton];omega),by rw [cS,List.length_singleton];omega,za⟩
end Go.Proofs.YtoaelidmmcbkfaaGreatDoor
