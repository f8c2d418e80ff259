/- Parts of the proof, joined: Package right: Check of a title (its walk printed by gen_check.py). Pa. -/
import Derived.Test.YtoaelidmmcbkfaaGreatDoorSr29
import Derived.Test.YtoaelidmmcbkfaaGreatDoorSr30
set_option maxRecDepth 100000
set_option maxHeartbeats 8000000
namespace Go.Proofs.YtoaelidmmcbkfaaGreatDoor
open Go.RowKit Dw
def Des (w:World) (A:Option Addr) (l:List De):Prop :=
 0<l.length→∃ b o:Nat,A=some ⟨b,o,none⟩∧b<w.heap.size∧∀ i (h:i<l.length),w.rangeAt b (o+i*16) (deC l[i]).toList∧DeOk w l[i]
theorem Des.below {w w':World} {A:Option Addr} {l:List De} (h:Des w A l) (hb:Below w.heap.size w w'):Des w' A l:=fun hl=>by
 obtain ⟨b,o,rfl,hlt,hc⟩:=h hl;refine ⟨b,o,rfl,cX hlt hb.size,fun i hi=>⟨fun j v hv=>?_,(hc i hi).2.below hb⟩⟩
 rw [hb.cell hlt];exact (hc i hi).1 j v hv
abbrev tiC (RA:Option Addr) (rc:Nat) (rs:List Rg) (UA:Option Addr) (uc:Nat) (us:List BA) (DA:Option Addr) (dc:Nat) (ds:List De):Array Value:=#[.slice RA rs.length rc,.slice UA us.length uc,.slice DA ds.length dc]
def zCi (rs:List Rg) (us:List BA) (ds:List De) (k:Nat):Option Int :=
 if progF rs us (ds.take k) (ds.getD k default)≠0 then some (progF rs us (ds.take k) (ds.getD k default)) else none
def chkP (rs:List Rg) (us:List BA) (ds:List De):Int :=
 if zEd rs≠0 then zEd rs else if us=[] then 9 else if 20<us.length then 2 else
 match (List.range us.length).findSome? (zBs us) with
 | some f=>f
 | none=>if 200<ds.length then 2 else match (List.range ds.length).findSome? (zCi rs us ds) with
  | some f=>f
  | none=>0
def chkP2 (rs:List Rg) (us:List BA) (ds:List De):Int:=if 200<ds.length then 2 else match (List.range ds.length).findSome? (zCi rs us ds) with
  | some f=>f
  | none=>0
theorem chkP_un {rs:List Rg} {us:List BA} {ds:List De} {k:Nat} {f:Int} (h0:zEd rs=0) (h1:us≠[]) (h2:¬ 20<us.length) (hk:k<us.length) (hp:∀ j,j<k→zBs us j=none) (hf:zBs us k=some f):chkP rs us ds=f:=by
 unfold chkP;rw [aC (fun h=>h h0),aC h1,aC h2,zAZ hk hp hf]
theorem chkP_de {rs:List Rg} {us:List BA} {ds:List De} (h0:zEd rs=0) (h1:us≠[]) (h2:¬ 20<us.length) (hp:∀ j,j<us.length→zBs us j=none):chkP rs us ds=chkP2 rs us ds:=by
 unfold chkP chkP2;rw [aC (fun h=>h h0),aC h1,aC h2,zBk hp]
theorem progF_zero {rs:List Rg} {us:List BA} {pre:List De} {d:De} (h:progF rs us pre d=0):(1≤d.kd∧d.kd≤5)∧zAB d=false∧pre.any (zCe d.id)=false:=by
 unfold progF at h
 split at h
 ·cases h
 unfold prog1 at h
 split at h
 ·cases h
 unfold prog2 at h
 split at h
 ·cases h
 unfold prog3 at h
 split at h
 ·cases h
 next h3 =>
 unfold prog4 at h
 split at h
 ·cases h
 next h4 =>
 unfold prog5 at h
 split at h
 ·cases h
 next h5 =>
 exact ⟨za,by simpa using h5,by simpa using h3⟩
def UnRel (w:World) (us:List BA) (m:Nat) (i:Value) (wr:World):Prop :=
 ∃ k:Nat,k+m=us.length∧i = .int .i64 k∧(∀ j,j<k→zBs us j=none)∧Below w.heap.size w wr
def DeRel (w0:World) (ci:Nat) (RA:Option Addr) (rc r1 r2 g1 g2:Nat) (AL:Option Addr) (cL:Nat) (rs:List Rg) (UA:Option Addr) (uc:Nat) (us:List BA) (m2 m3 m4 m5 lo hi:Nat) (ds:List De) (m:Nat) (i:Value) (wr:World):Prop :=
 ∃ (k:Nat) (p:De),k+m=ds.length∧i = .int .i64 k∧CS w0 wr ci RA rc r1 r2 g1 g2 AL cL rs UA uc us m2 m3 m4 m5 lo hi p (ds.take k)∧∀ j,j<k→zCi rs us ds j=none
theorem Check_c (RA:Option Addr) (rc:Nat) (rs:List Rg) (UA:Option Addr) (uc:Nat) (us:List BA) (DA:Option Addr) (dc:Nat) (ds:List De) (w:World)
  (hr:Rgs w RA rs) (hu:Strs w UA us) (hd:Des w DA ds) (hz:∀ i (h:i<rs.length),(rs[i]).nm.size≤9223372036854775807) (hz2:∀ i (h:i<us.length),(us[i]).size≤9223372036854775807) :
  Calls Tryz.prog 13 #[.agg (tiC RA rc rs UA uc us DA dc ds)] w (zAd (.int .i64 (chkP rs us ds)) w):=by
 generalize hres:chkP rs us ds=res;have HR:=zq hres;clear hres;have hbW:Below w.heap.size w (w.alloc (.cells (tiC RA rc rs UA uc us DA dc ds) 26)):=(bS _ _).alloc (aB _) _;have HX:Hid (Bx (w.alloc (.cells (tiC RA rc rs UA uc us DA dc ds) 26)) w.heap.size (tiC RA rc rs UA uc us DA dc ds) 26):=Bx.new _ _ _;obtain ⟨W,hW⟩:∃ W,W=w.alloc (.cells (tiC RA rc rs UA uc us DA dc ds) 26):=⟨_,rfl⟩;rw [←hW] at HX hbW;have HB:=zq hbW;have HRG:=zq (hr.below hbW);have HUS:=zq (hu.below hbW);have HDE:=zq (hd.below hbW);clear hbW hr hu hd
 go_enter Tryz.func13,Tryz.ntmps13
 go_wp2_with fail
 rw [←hW];clear hW;have x0:=HX.o.c 0 rfl;have hsz:=HX.o.lt
 go_wp2_with fail
 with_reducible refine (CheckRegions_c RA rc rs W HRG.o hz).mono ?_
 rintro e w1 ⟨rfl,hb1⟩;have HB1:=zq (zAb HB.o hb1);have HX1:=zq (HX.o.below hb1);have HRG1:=zq (HRG.o.below hb1);have HUS1:=zq (HUS.o.below hb1);have HDE1:=zq (HDE.o.below hb1);clear x0 hsz hb1 HB HX HRG HUS HDE hz
 by_cases hcr:zEd rs=0
 case neg =>
  have hcb:(zEd rs != 0)=true:=by simpa using hcr
  have HS:Hid (res=zEd rs):=by
   show _=_
   rw [←HR.o];unfold chkP;rw [aE hcr]
  clear hcr HR;go_wp2;go_ret
  exact zAd.mk (zAC HS.o.symm) HB1.o
 have HCR:=zq hcr;have g:=good_of hcr;rw [hcr];clear hcr;have x1:=HX1.o.c 1 rfl;have hsz:=HX1.o.lt
 by_cases hu0:us=[]
 ·have hlb:((us.length:Int) == 0)=true:=by rw [hu0];rfl
  have HS:Hid (res=9):=by
   show _=_
   rw [←HR.o];unfold chkP;rw [aC (fun h=>h HCR.o),aE hu0]
  clear hu0 HR;go_wp2;go_ret
  exact zAd.mk (zAC HS.o.symm) HB1.o
 have hup:0<us.length:=List.length_pos_iff.2 hu0;have hlb:((us.length:Int) == 0)=false:=ja;have HU0:=zq hu0;clear hu0
 by_cases hu20:20<us.length
 ·have HS:Hid (res=2):=by
   show _=_
   rw [←HR.o];unfold chkP;rw [aC (fun h=>h HCR.o),aC HU0.o,aE hu20]
  have h20:(20:Int)<(us.length:Int):=za;clear hu20 HR;go_wp2;go_ret
  exact zAd.mk (zAC HS.o.symm) HB1.o
 have h20:¬ (20:Int)<(us.length:Int):=za;have HH:Hid (∀ k f,k<us.length→(∀ j,j<k→zBs us j=none)→zBs us k=some f→res=f):=fun k f hk hp hf=>by rw [←HR.o];exact chkP_un HCR.o HU0.o hu20 hk hp hf
 have HN:Hid ((∀ j,j<us.length→zBs us j=none)→res=chkP2 rs us ds):=fun hp=>by rw [←HR.o];exact chkP_de HCR.o HU0.o hu20 hp
 have hul:us.length≤1000000:=za;have HZ2:=zq hz2;clear hu20 HR hz2;obtain ⟨b,o,hA,hbu,hcu⟩:=HUS1.o.at_ hup;have HCU:=zq hcu;clear hcu;go_wp2
 go_loopg [27] us.length (UnRel w1 us)
 case atStart=>exact ⟨0,za,rfl,fun j hj=>absurd hj za,bS _ _⟩
 case round =>
  obtain ⟨k,hkm,rfl,hpre,hbel⟩:=hrel;have HK:=zq hkm;have HP:=zq hpre;have HBL:=zq hbel;have HX2:=zq (HX1.o.below hbel);have hk1:k≤us.length:=za;have hbr:b<wr.heap.size:=cX hbu hbel.size;clear hkm hpre hbel x1 hsz
  by_cases hlt:k<us.length
  ·have hc0:wr.cell? ⟨b,o+k,none⟩=some (.string us[k]):=(HBL.o.cell hbu).trans (HCU.o k hlt)
   have hzk:=HZ2.o k hlt;subst hA
   go_wp2_with fail
   with_reducible refine (zCp us[k] _ hzk).mono ?_
   rintro e w2 ⟨rfl,hb2⟩;have HBL2:=zq (zAb HBL.o hb2);have HX3:=zq (HX2.o.below hb2);clear hc0 hb2 HBL HX2
   cases hnm:zBA us[k] with
   | false =>
    have HS:Hid (res=5):=HH.o k 5 hlt HP.o (by unfold zBs;rw [zCH hlt,aE hnm])
    clear hnm;go_wp2;go_ret
    exact zAd.mk (zAC HS.o.symm) (zAb HB1.o HBL2.o)
   | true =>
    have HNM:=zq hnm;clear hnm;have x1:=HX3.o.c 1 rfl;have hsz:=HX3.o.lt
    by_cases hk0:0<k
    case pos =>
     have zp:w2.cell? ⟨b,o+(k - 1),none⟩=some (.string (us[k - 1]'(by omega))):=(HBL2.o.cell hbu).trans (HCU.o (k - 1) za)
     have hdk:decide ((0:Int)<(k:Int))=true:=zg
     cases hle:sle us[k] (us[k - 1]'(by omega)) with
     | true =>
      have HS:Hid (res=8):=HH.o k 8 hlt HP.o qr;unfold sle at hle;go_wp2;go_ret
      exact zAd.mk (zAC HS.o.symm) (zAb HB1.o HBL2.o)
     | false =>
      have HF:Hid (zBs us k=none):=by
       show _=_
       unfold zBs;rw [zCH hlt,zCH (show k - 1<us.length by omega),aC qu,aC (fun hh=>xc)]
      unfold sle at hle;go_wp2
      go_roundg (gk - 1)
      case measure=>have:=HK.o;omega
      case rel =>
       refine ⟨k+1,zl,zn,fun j hj=>?_,HBL2.o⟩
       rcases bO j k with h9 | h9
       ·exact HP.o j h9
       ·obtain rfl:j=k:=by omega
        exact HF.o
    case neg =>
     have hdk:decide ((0:Int)<(k:Int))=false:=zg
     have HF:Hid (zBs us k=none):=by
      show _=_
      unfold zBs;rw [zCH hlt,aC qu,aC (fun hh=>hk0 hh.1)]
     go_wp2
     go_roundg (gk - 1)
     case measure=>have:=HK.o;omega
     case rel =>
      refine ⟨k+1,zl,zn,fun j hj=>?_,HBL2.o⟩
      rcases bO j k with h9 | h9
      ·exact HP.o j h9
      ·obtain rfl:j=k:=by omega
       exact HF.o
  ·obtain rfl:k=us.length:=by omega
   have HE:Hid (chkP2 rs us ds=res):=(HN.o HP.o).symm;have x2:=HX2.o.c 2 rfl;have hsz:=HX2.o.lt;have HBW:=zq (zAb HB1.o HBL.o);have HRG2:=zq (HRG1.o.below HBL.o);have HUS2:=zq (HUS1.o.below HBL.o);have HDE2:=zq (HDE1.o.below HBL.o);clear HK HP HN HH HCU HRG1 HUS1 HDE1 HX1 hbr hlt hk1 HBL HB1 hbu hA
   by_cases hd200:200<ds.length
   ·have HS:Hid (res=2):=by
     show _=_
     rw [←HE.o];unfold chkP2;rw [aE hd200]
    have h200:(200:Int)<(ds.length:Int):=za;clear hd200 HE;go_wp2;go_ret
    exact zAd.mk (zAC HS.o.symm) HBW.o
   have h200:¬ (200:Int)<(ds.length:Int):=za
   have HH:Hid (∀ k f,k<ds.length→(∀ j,j<k→zCi rs us ds j=none)→zCi rs us ds k=some f→res=f):=fun k f hk hp hf=>by
    rw [←HE.o];unfold chkP2;rw [aC hd200,zAZ hk hp hf]
   have HN:Hid ((∀ j,j<ds.length→zCi rs us ds j=none)→res=0):=fun hp=>by
    rw [←HE.o];unfold chkP2;rw [aC hd200,zBk hp]
   have hdl:ds.length≤200:=za;clear hd200 HE;obtain ⟨w5,hw5⟩:∃ w5:World,w5=wr:=⟨_,rfl⟩;subst hw5
   go_wp2_with fail
   refine region18 g HX2.o HRG2.o HUS2.o rfl zb zb zb rfl zd ⟨_,_,_,rfl⟩ ⟨_,_,_,rfl⟩ ⟨_,_,_,rfl⟩ ⟨_,_,_,rfl⟩ ⟨_,_,_,rfl⟩ ⟨_,_,_,rfl⟩ ⟨_,_,_,rfl⟩ ⟨_,_,_,rfl⟩ ⟨_,_,_,rfl⟩ ⟨_,_,_,rfl⟩ ⟨_,_,_,rfl⟩ ⟨_,_,_,rfl⟩ zb zb zb zb zb zb zb zb zb zb zb ?_
   intro ci r1 r2 g1 g2 AL cL m2 m3 m4 m5 lo hi vals w3 hcs v0 v1 v2 v3 v4 v5 v6 v7 v8 v9 v10;simp [zAt,Act.put,v0,v1,v2,v3,v4,v5,v6,v7,v8,v9,v10,List.range_succ]
   have HCS:=zq hcs;clear v0 v1 v2 v3 v4 v5 v6 v7 v8 v9 v10 vals x2 hsz hcs;have HX4:=zq (HX2.o.below HCS.o.bel);have x2:=HX4.o.c 2 rfl;have hsz:=HX4.o.lt;go_wp2
   go_loopg [65] ds.length (DeRel w5 ci RA rc r1 r2 g1 g2 AL cL rs UA uc us m2 m3 m4 m5 lo hi ds)
   case atStart=>exact ⟨0,zDe,za,rfl,HCS.o,fun j hj=>absurd hj za⟩
   clear HCS HX4 x2 hsz
   case round =>
    obtain ⟨k,p,hkm,rfl,hcs,hpre⟩:=hrel;have HK:=zq hkm;have HP:=zq hpre;have HC:=zq hcs;have hk1:k≤ds.length:=za;clear hkm hpre hcs
    by_cases hlt:k<ds.length
    ·obtain ⟨b,o,hA,hbu,hcd⟩:=HDE2.o za
     have hdk:=(hcd k hlt);have HOK:=zq hdk.2;have hrange0:=hdk.1;clear hdk hcd;obtain ⟨d,hdd⟩:∃ d,d=ds[k]:=⟨_,rfl⟩;rw [←hdd] at HOK hrange0;have hgd:ds.getD k default=d:=by rw [hdd];simp [List.getD,hlt]
     have htk:ds.take (k+1)=ds.take k++[d]:=by rw [hdd];exact bD hlt
     have HGD:=zq hgd;have HTK:=zq htk;have hrange:∀ j v,(deC d).toList[j]?=some v→wr.cell? ⟨b,o+k*16+j,none⟩=some v:=fun j v hv=>(HC.o.bel.cell hbu).trans (hrange0 j v hv)
     have HOK2:=zq (HOK.o.below HC.o.bel)
     have hgk:∀ q∈ds.take k,1≤q.kd:=fun q hq=>by
      obtain ⟨j,hj,rfl⟩:=aJ hq;rw [bE] at hj;have hjk:j<k:=za;have h1:=HP.o j hjk;unfold zCi at h1
      split at h1
      ·cases h1
      ·next h2 =>
       have h3:=(progF_zero (Decidable.not_not.1 h2)).1.1;rw [cG];have e:ds.getD j default=ds[j]'(by omega):=by simp [List.getD,show j<ds.length by omega]
       rwa [e] at h3
     have HGK:=zq hgk;have HOT:=zq htk;clear hgd htk hgk hdd HOT HOK hrange0;have c0:wr.cell? ⟨b,o+k*16,none⟩=some (deC d)[0]:=hrange 0 _ rfl;have c1:wr.cell? ⟨b,o+k*16+1,none⟩=some (deC d)[1]:=hrange 1 _ rfl;have c2:wr.cell? ⟨b,o+k*16+2,none⟩=some (deC d)[2]:=hrange 2 _ rfl;have c3:wr.cell? ⟨b,o+k*16+3,none⟩=some (deC d)[3]:=hrange 3 _ rfl;have c4:wr.cell? ⟨b,o+k*16+4,none⟩=some (deC d)[4]:=hrange 4 _ rfl;have c5:wr.cell? ⟨b,o+k*16+5,none⟩=some (deC d)[5]:=hrange 5 _ rfl;have c6:wr.cell? ⟨b,o+k*16+6,none⟩=some (deC d)[6]:=hrange 6 _ rfl;have c7:wr.cell? ⟨b,o+k*16+7,none⟩=some (deC d)[7]:=hrange 7 _ rfl;have c8:wr.cell? ⟨b,o+k*16+8,none⟩=some (deC d)[8]:=hrange 8 _ rfl;have c9:wr.cell? ⟨b,o+k*16+9,none⟩=some (deC d)[9]:=hrange 9 _ rfl;have c10:wr.cell? ⟨b,o+k*16+10,none⟩=some (deC d)[10]:=hrange 10 _ rfl;have c11:wr.cell? ⟨b,o+k*16+11,none⟩=some (deC d)[11]:=hrange 11 _ rfl;have c12:wr.cell? ⟨b,o+k*16+12,none⟩=some (deC d)[12]:=hrange 12 _ rfl;have c13:wr.cell? ⟨b,o+k*16+13,none⟩=some (deC d)[13]:=hrange 13 _ rfl;have c14:wr.cell? ⟨b,o+k*16+14,none⟩=some (deC d)[14]:=hrange 14 _ rfl;have c15:wr.cell? ⟨b,o+k*16+15,none⟩=some (deC d)[15]:=hrange 15 _ rfl;have HC2:=zq (HC.o.below (w':=wr.alloc (.cells (deC d) 47)) ((bS _ _).alloc (aB _) _));have HOK3:=zq (HOK2.o.below (w':=wr.alloc (.cells (deC d) 47)) ((bS _ _).alloc (aB _) _));have HDC:=zq (deed_c w5 ci RA rc r1 r2 g1 g2 AL cL rs UA uc us m2 m3 m4 m5 lo hi p (ds.take k) d _ g hul HGK.o HC2.o HOK3.o);clear hrange HC;subst hA
     go_wp2_with fail
     with_reducible refine HDC.o.mono ?_
     rintro e w6 ⟨rfl,hb6,hn6⟩;have HB6:=zq (zAb HBW.o hb6);have HN6:=zq hn6;clear c0 c1 c2 c3 c4 c5 c6 c7 c8 c9 c10 c11 c12 c13 c14 c15 hb6 hn6 HC2 HOK2 HOK3 HDC
     by_cases hpz:progF rs us (ds.take k) d=0
     case neg =>
      have hpb:(progF rs us (ds.take k) d != 0)=true:=by simpa using hpz
      have HS:Hid (res=progF rs us (ds.take k) d):=HH.o k _ hlt HP.o (by unfold zCi;rw [HGD.o,aE hpz])
      clear hpz;go_wp2;go_ret
      exact zAd.mk (zAC HS.o.symm) HB6.o
     have HF:Hid (zCi rs us ds k=none):=by
      show _=_
      unfold zCi;rw [HGD.o,aC (fun h=>h hpz)]
     have HC6:=zq (HN6.o hpz);rw [hpz];clear hpz HN6;go_wp2
     go_roundg (gk - 1)
     case measure=>have:=HK.o;omega
     case rel =>
      refine ⟨k+1,d,zl,zn,by rw [HTK.o];exact HC6.o,fun j hj=>?_⟩
      rcases bO j k with h9 | h9
      ·exact HP.o j h9
      ·obtain rfl:j=k:=by omega
       exact HF.o
    ·obtain rfl:k=ds.length:=by omega
     have HS:Hid (res=0):=HN.o HP.o;go_wp2;go_ret
     exact zAd.mk (zAC HS.o.symm) (zAb HBW.o HC.o.bel)
theorem need_fr {d:De} (hk:d.kd=1) (h:zAB d=false):d.fr=emp:=by
 unfold zAB at h;rw [hk] at h;simp [zAf] at h
 exact h.1.1.1.1.1.1
theorem need_th {d:De} (hk:d.kd=5) (h:zAB d=false):d.th=emp:=by
 unfold zAB at h;rw [hk] at h;simp [zAf] at h
 exact h.1.1.1.1.1.1
def Gd (pre:List De):Prop:=(∀ q∈pre,(1≤q.kd∧q.kd≤5)∧zAB q=false)∧pre.Pairwise (fun a b=>a.id≠b.id)
theorem kN_cons (a:De) (t:List De) (x:BA):kN (a::t) x=if a.id=x then a.kd else kN t x:=by
 unfold kN
 by_cases h:a.id=x
 ·rw [List.find?_cons_of_pos (by simp [zCe,h]),aE h]
 ·rw [List.find?_cons_of_neg (by simp [zCe,h]),aC h]
theorem kN_any:∀ (pre:List De) (x:BA),pre.Pairwise (fun a b=>a.id≠b.id)→zAf (kN pre x)=pre.any fun p=>decide (p.id=x)&&zAf p.kd
 | [],_,_=>rfl
 | a::t,x,h=>by
  rw [List.pairwise_cons] at h;rw [kN_cons,List.any_cons]
  by_cases e:a.id=x
  ·rw [aE e]
   have:(t.any fun p=>decide (p.id=x)&&zAf p.kd)=false:=by
    rw [bU];intro q hq;have:=h.1 q hq;simp
    intro e2;exact absurd (e.trans e2.symm) this
   rw [this];simp [e]
  ·rw [aC e,kN_any t x h.2]
   simp [e]
theorem any_born {pre:List De} {d:De} (hg:∀ q∈pre,(1≤q.kd∧q.kd≤5)∧zAB q=false) (hk:d.kd=1) (hd:zAB d=false) :
  (pre.any fun p=>decide (p.kd=d.kd)&&decide (p.th=d.th)&&decide (p.fr=d.fr))=bornB pre d.th:=by
 unfold bornB;rw [hk,need_fr hk hd]
 induction pre with
 | nil=>rfl
 | cons a t ih =>
  rw [List.any_cons,List.any_cons,ih fun q hq=>hg q (by simp [hq])]
  congr 1
  by_cases h:a.kd=1
  ·rw [need_fr h (hg a zd).2];simp
  ·simp [h]
theorem any_gone {pre:List De} {d:De} (hg:∀ q∈pre,(1≤q.kd∧q.kd≤5)∧zAB q=false) (hk:d.kd=5) (hd:zAB d=false) :
  (pre.any fun p=>decide (p.kd=d.kd)&&decide (p.th=d.th)&&decide (p.fr=d.fr))=goneB pre d.fr:=by
 unfold goneB;rw [hk,need_th hk hd]
 induction pre with
 | nil=>rfl
 | cons a t ih =>
  rw [List.any_cons,List.any_cons,ih fun q hq=>hg q (by simp [hq])]
  congr 1
  by_cases h:a.kd=5
  ·rw [need_th h (hg a zd).2];simp
  ·simp [h]
theorem progF_chkD {l:List Rg} {us:List BA} {pre:List De} {d:De} (hg:Gd pre):progF l us pre d=chkD l us pre d:=by
 unfold progF chkD
 by_cases h1:zBA d.id=false
 ·rw [aE h1,aE h1]
 rw [aC h1,aC h1];unfold prog1
 by_cases h2:zCm d.day=false
 ·rw [aE h2,aE h2]
 rw [aC h2,aC h2];unfold prog2
 by_cases h3:zDK pre d=false
 ·rw [aE h3,aE h3]
 rw [aC h3,aC h3];unfold prog3;have e4:(pre.any fun p=>decide (p.id=d.id))=pre.any (zCe d.id):=rfl
 rw [e4]
 by_cases h4:pre.any (zCe d.id)=true
 ·rw [aE h4,aE h4]
 rw [aC h4,aC h4];unfold prog4
 by_cases h5:d.kd<1∨5<d.kd
 ·rw [aE h5,aE h5]
 rw [aC h5,aC h5];unfold prog5
 by_cases h6:zAB d=true
 ·rw [aE h6,aE h6]
 rw [aC h6,aC h6];have hn:zAB d=false:=by simpa using h6
 have hk:d.kd=1∨d.kd=2∨d.kd=3∨d.kd=4∨d.kd=5:=za;unfold prog6 valF;have tw0:d.kd≠1→d.kd≠5→twB pre d=false:=fun a b=>by unfold twB;simp [a,b]
 rcases hk with hk | hk | hk | hk | hk
 ·have hgv:¬ zAf d.kd=true:=by rw [hk];decide
  rw [aC hgv,aC (show ¬ d.kd=4 by omega),aC hgv,aC (show ¬ d.kd=4 by omega)]
  have ht:twB pre d=bornB pre d.th:=by unfold twB;rw [hk];simp
  unfold divV divF;rw [ht,any_born hg.1 hk hn];unfold zCF;have hk5:¬ d.kd=5:=za
  by_cases q1:(d.kd=1∧zBA d.th=false)∨(d.kd=5∧zBA d.fr=false)
  ·simp [q1]
  ·rw [aC q1,aC q1]
   by_cases q2:zCm d.bg=false
   ·simp [q2]
   ·by_cases q3:shF d.kd d.sh=0
    ·simp [q2,q3,hk5]
    ·simp [q2,q3]
 ·have hgv:zAf d.kd=true:=by rw [hk];decide
  rw [aE hgv,aE hgv,tw0 za za,giftF_two];simp
  exact fun h=>h.symm
 ·have hgv:zAf d.kd=true:=by rw [hk];decide
  rw [aE hgv,aE hgv,tw0 za za,giftF_two];simp
  exact fun h=>h.symm
 ·have hgv:¬ zAf d.kd=true:=by rw [hk];decide
  rw [aC hgv,aE hk,aC hgv,aE hk,tw0 za za];have ha:=kN_any pre d.ot hg.2;unfold endV endF;rw [←ha];have hb:endB pre d.ot=pre.any fun p=>decide (p.kd=4)&&decide (p.ot=d.ot):=rfl
  rw [←hb];have hgk:(kN pre d.ot≠2∧kN pre d.ot≠3)↔zAf (kN pre d.ot)=false:=by unfold zAf;simp
  by_cases q2:zCm d.bg=false
  ·simp [q2]
  ·by_cases q3:zAf (kN pre d.ot)=false
   ·have:=hgk.2 q3
    simp [q2,q3,this]
   ·have:¬ (kN pre d.ot≠2∧kN pre d.ot≠3):=fun h=>q3 (hgk.1 h)
    rw [aC q2,aC q2,aC this,aC q3]
    cases endB pre d.ot<;>simp
 ·have hgv:¬ zAf d.kd=true:=by rw [hk];decide
  rw [aC hgv,aC (show ¬ d.kd=4 by omega),aC hgv,aC (show ¬ d.kd=4 by omega)]
  have ht:twB pre d=goneB pre d.fr:=by unfold twB;rw [hk];simp
  unfold divV divF;rw [ht,any_gone hg.1 hk hn];unfold zCF
  by_cases q1:(d.kd=1∧zBA d.th=false)∨(d.kd=5∧zBA d.fr=false)
  ·simp [q1]
  ·rw [aC q1,aC q1]
   by_cases q2:zCm d.bg=false
   ·simp [q2]
   ·by_cases q3:shF d.kd d.sh=0
    ·by_cases q4:(d.sh.any fun s=>decide (s.pt=d.fr))=true
     ·have q3':shF 5 d.sh=0:=by rw [←hk];exact q3
      rw [aC q2,aC q2];simp only [q3',hk,q4];simp
     ·have q3':shF 5 d.sh=0:=by rw [←hk];exact q3
      rw [aC q2,aC q2];simp only [q3',hk,q4];simp
    ·simp [q2,q3]
theorem gd_take {rs:List Rg} {us:List BA} {ds:List De}:∀ (k:Nat),k≤ds.length→(∀ j,j<k→zCi rs us ds j=none)→Gd (ds.take k)
 | 0,_,_=>⟨zd,zd⟩
 | k+1,hk,hp=>by
  have ih:=gd_take k za fun j hj=>hp j za
  have h1:=hp k za;have hlt:k<ds.length:=za;have hgd:ds.getD k default=ds[k]:=by simp [List.getD,hlt]
  unfold zCi at h1;rw [hgd] at h1
  split at h1
  ·cases h1
  ·next h2 =>
   obtain ⟨a,b,c⟩:=progF_zero (Decidable.not_not.1 h2);rw [bD hlt];refine ⟨fun q hq=>?_,?_⟩
   ·rcases List.mem_append.1 hq with hq | hq
    ·exact ih.1 q hq
    ·rw [List.mem_singleton] at hq
     subst hq;exact ⟨a,b⟩
   ·rw [List.pairwise_append]
    refine ⟨ih.2,zd,fun x hx y hy=>?_⟩
    rw [List.mem_singleton] at hy;subst hy;rw [bU] at c;have:=c x hx
    simpa [zCe] using this
theorem pe_de {rs:List Rg} {us:List BA} {ds:List De}:∀ (n:Nat),n≤ds.length→(List.range n).findSome? (zCi rs us ds)=(List.range n).findSome? (zCy rs us ds)
 | 0,_=>rfl
 | n+1,hn=>by
  rw [List.range_succ,List.findSome?_append,List.findSome?_append,pe_de n za]
  cases h:(List.range n).findSome? (zCy rs us ds) with
  | some f=>rfl
  | none =>
   have hp:∀ j,j<n→zCi rs us ds j=none:=fun j hj=>by
    have h2:=pe_de (rs:=rs) (us:=us) (ds:=ds) n za;rw [h,List.findSome?_eq_none_iff] at h2;exact h2 j (List.mem_range.2 hj)
   have hg:=gd_take n za hp
   have e:zCi rs us ds n=zCy rs us ds n:=by
    unfold zCi zCy;rw [progF_chkD hg]
   simp [e]
theorem chkP_chkT (rs:List Rg) (us:List BA) (ds:List De):chkP rs us ds=chkT rs us ds:=by
 unfold chkP chkT;rw [pe_de ds.length (aB _)]
 rfl
theorem CheckT_c (RA:Option Addr) (rc:Nat) (rs:List Rg) (UA:Option Addr) (uc:Nat) (us:List BA) (DA:Option Addr) (dc:Nat) (ds:List De) (w:World)
  (hr:Rgs w RA rs) (hu:Strs w UA us) (hd:Des w DA ds) (hz:∀ i (h:i<rs.length),(rs[i]).nm.size≤9223372036854775807) (hz2:∀ i (h:i<us.length),(us[i]).size≤9223372036854775807) :
  Calls Tryz.prog 13 #[.agg (tiC RA rc rs UA uc us DA dc ds)] w (zAd (.int .i64 (chkT rs us ds)) w):=by
 rw [←chkP_chkT];exact Check_c RA rc rs UA uc us DA dc ds w hr hu hd hz hz2
end Go.Proofs.YtoaelidmmcbkfaaGreatDoor
namespace Go.Proofs.YtoaelidmmcbkfaaGreatDoor
open Dw
def zBr (d:De):De:={ d with arA:=none,arc:=0,usA:=none,usc:=0,shA:=none,shc:=0 }
theorem sameD_iff (d e:De):zBS d e↔zBr d=zBr e:=by
 cases d
 cases e
 simp only [zBS,zBr,De.mk.injEq]
 constructor
 ·rintro ⟨h1,h2,h3,h4,h5,h6,⟨h7,h8⟩,h9,h10,h11,h12,h13,h14,h15,h16⟩
  simp_all
 ·intro h
  simp_all
theorem zDi {f:De→Bool} (hf:∀ d,f (zBr d)=f d) (l:List De):(l.map zBr).any f=l.any f:=by
 induction l with
 | nil=>rfl
 | cons a t ih=>rw [dJ,List.any_cons,List.any_cons,ih,hf]
theorem ordB_plain (pre:List De) (d:De):zDK (pre.map zBr) (zBr d)=zDK pre d:=by
 unfold zDK;rw [List.getLast?_map]
 cases pre.getLast?<;>rfl
theorem chkD_plain (rs:List Rg) (us:List BA) (pre:List De) (d:De):chkD rs us (pre.map zBr) (zBr d)=chkD rs us pre d:=by
 have h1:(pre.map zBr).any (fun p=>decide (p.id=d.id))=pre.any (fun p=>decide (p.id=d.id)):=zDi (fun _=>rfl) pre
 have h2:(pre.map zBr).any (fun p=>decide (p.id=d.ot)&&zAf p.kd)=pre.any (fun p=>decide (p.id=d.ot)&&zAf p.kd):=zDi (fun _=>rfl) pre
 have h3:(pre.map zBr).any (fun p=>decide (p.kd=4)&&decide (p.ot=d.ot))=pre.any (fun p=>decide (p.kd=4)&&decide (p.ot=d.ot)):=zDi (fun _=>rfl) pre
 have h4:(pre.map zBr).any (fun p=>decide (p.kd=d.kd)&&decide (p.th=d.th)&&decide (p.fr=d.fr))=pre.any (fun p=>decide (p.kd=d.kd)&&decide (p.th=d.th)&&decide (p.fr=d.fr)):=zDi (fun _=>rfl) pre
 have e1:endF (pre.map zBr) (zBr d)=endF pre d:=by
  unfold endF
  show (if zCm d.bg=false then (1:Int) else if ((pre.map zBr).any fun p=>decide (p.id=d.ot)&&zAf p.kd)=false then 9 else if ((pre.map zBr).any fun p=>decide (p.kd=4)&&decide (p.ot=d.ot))=true then 7 else 0)=_
  rw [h2,h3]
 have e2:divF (pre.map zBr) (zBr d)=divF pre d:=by
  unfold divF
  show (if (d.kd=1∧zBA d.th=false)∨(d.kd=5∧zBA d.fr=false) then (5:Int) else if zCm d.bg=false then 1 else if shF d.kd d.sh≠0 then shF d.kd d.sh else if d.kd=5∧(d.sh.any fun s=>decide (s.pt=d.fr))=true then 12
   else if ((pre.map zBr).any fun p=>decide (p.kd=d.kd)&&decide (p.th=d.th)&&decide (p.fr=d.fr))=true then 7 else 0)=_
  rw [h4]
 unfold chkD;rw [ordB_plain,e1,e2]
 show (if zBA d.id=false then (5:Int) else if zCm d.day=false then 1 else if zDK pre d=false then 8 else if ((pre.map zBr).any fun p=>decide (p.id=d.id))=true then 7 else if d.kd<1∨5<d.kd then 4
  else if zAB d=true then 3 else if zAf d.kd=true then giftF rs us d else if d.kd=4 then endF pre d else divF pre d)=_
 rw [h1]
theorem findSome_congr {α:Type} {f g:Nat→Option α}:∀ (l:List Nat),(∀ k∈l,f k=g k)→l.findSome? f=l.findSome? g
 | [],_=>rfl
 | a::t,h=>by
  rw [List.findSome?_cons,List.findSome?_cons,h a zd,findSome_congr t fun k hk=>h k (by simp [hk])]
theorem chkT_plain (rs:List Rg) (us:List BA) (ds:List De):chkT rs us (ds.map zBr)=chkT rs us ds:=by
 unfold chkT
 have e:(List.range (ds.map zBr).length).findSome? (zCy rs us (ds.map zBr))=(List.range ds.length).findSome? (zCy rs us ds):=by
  rw [aK];refine findSome_congr _ fun k hk=>?_
  have hk':=List.mem_range.1 hk;unfold zCy;have e1:(ds.map zBr).getD k default=zBr (ds.getD k default):=by simp [List.getD,hk']
  rw [e1,←List.map_take,chkD_plain]
 rw [e,aK]
open Go.RowKit Dw
abbrev eDq:De→List Value:=fun d=>(deC d).toList
theorem elDq:ElemT Tryz.prog 24 47 (.agg (deC zBV)) 16 224:=⟨Tryz.underlying24,zb,rfl,zc⟩
theorem oneDq (x:De):∀ u∈eDq x,u.oneCell'=true:=zu
theorem step_pushC {P:Program} {w:World} {α:Type} {enc:α→List Value} {k:Nat} {e:TypeId} {z:Value} {bytes:Nat} {ops:Array Oper} {o:Oper} {a:Act} {K:Act→World→Prop} {Q:Exit→Act→World→Prop} {E:Prop} (hgd:o.guard=none) (s x:Operand) (t:TypeId)
  (ho:o.op = .call { callee:=.builtin .append,args:=#[s,x],argTypes:=#[t,t] }) (hT:ElemT P t e z k bytes) (base:Nat) (v:Value) (l:List α) (hs:a.eval s=v) (hown:zAF enc k w base e v l)
  (bk c:Nat) (y:α) (hx:a.eval x = .slice (some ⟨bk,0,none⟩) 1 c) {cs:Array Value} {T:TypeId} {fr:Nat×Nat} (hblk:w.heap[bk]?=some (.cells cs T fr)) (hcs:cs.toList=enc y) (hk:(enc y).length=k) (hone:∀ u∈enc y,u.oneCell'=true)
  (hlen:l.length+1≤maxLen) (hbytes:(l.length+1)*bytes≤140737488355328) (hbase:base≤w.heap.size)
  (h:∀ g cap w',zAF enc k w' base e (.slice (some ⟨g,0,none⟩) (l.length+1) cap) (l++[y])→w.grownBy w' v.ownBlock→(v.ownBlock=some g∨g=w.heap.size)→K (a.put o.dst (.slice (some ⟨g,0,none⟩) (l.length+1) cap)) w') :
  if Region.wanted o (yielded ops a.tmps)=true then Oper.wp P o a w K Q else E:=by
 obtain ⟨i,hi,hz0,hz1,hz2⟩:=info_parts hT.info;refine step_append_lies w hgd s x t ho base e i z k bytes hT.ty hi hz0 hz1 hz2 hT.zs hT.pos v l.length (l.flatMap enc) hs hown ⟨bk,0,none⟩ 1 c (enc y) hx (by rw [hk,Nat.one_mul]) ?_ hone za hlen hbytes hbase w.heap.size rfl ?_
 ·rw [←hcs];exact World.news_of_block hblk
 ·intro g cap w' h1 h2 h3 _
  refine h g cap w' ?_ h2 h3
  unfold zAF;rw [cY,List.flatMap_append]
  simpa using h1
theorem des_own {w:World} {B:Nat} {v:Value} {T:List De} (h:zAF eDq 16 w B 47 v T) (hd:∀ s∈T,DeOk w s):∃ A c,v = .slice A T.length c∧Des w A T:=by
 obtain ⟨A,c,e,hr⟩:=h.rdk;refine ⟨A,c,e,fun hl=>?_⟩
 obtain ⟨b,o,rfl,hc⟩:=hr hl
 have key:∀ i (h:i<T.length) j v,(deC T[i]).toList[j]?=some v→w.cell? ⟨b,o+i*16+j,none⟩=some v:=fun i hi j v hv=>by
  have hj:j<16:=by
   have:=(List.getElem?_eq_some_iff.1 hv).1
   simpa using this
  have:=hc (i*16+j) v (by rw [flat_at (enc:=eDq) (k:=16) (fun _=>rfl) T i hi j hj];exact hv)
  rwa [←bZ] at this
 exact ⟨b,o,rfl,World.block_lt_of_cell? w _ (key 0 hl 0 _ rfl),fun i hi=>⟨fun j v hv=>key i hi j v hv,hd _ (aI hi)⟩⟩
structure DsQ (B1:Nat) (v3:Value) (w:World) (d:De):Prop where
 ars:zAF eAr 2 w B1 65 (arSl d) d.ar
 uss:zAF eSt 1 w B1 9 (usSl d) d.us
 shs:Shs w d.shA d.sh
 shq:d.sh≠[]→∀ b o,d.shA=some ⟨b,o,none⟩→B1≤b∧b<w.heap.size∧v3.ownBlock≠some b
 sm:DSm d
section
variable {w w':World} {B1 r q:Nat} {v v':Value} {d:De} {T:List De}
theorem Shs.blk {A:Option Addr} {l:List Sh} (h:Shs w A l) (hk:l≠[]→∀ b o,A=some ⟨b,o,none⟩→w'.heap[b]?=w.heap[b]?):Shs w' A l:=fun h0=>by
 obtain ⟨b,o,hA,hc⟩:=h h0;have hb:=hk (by intro e;rw [e] at h0;simp at h0) b o hA
 have hk2:∀ j v,w.cell? ⟨b,j,none⟩=some v→w'.cell? ⟨b,j,none⟩=some v:=fun j v hv=>(World.cell?_of_block (w:=w) hb).trans hv
 exact ⟨b,o,hA,fun i hi=>⟨hk2 _ _ (hc i hi).1,hk2 _ _ (hc i hi).2.1,hk2 _ _ (hc i hi).2.2⟩⟩
theorem DsQ.grown (h:DsQ B1 v w d) (hg:w.grownBy w' (some r)) (hr:r<B1):DsQ B1 v w' d :=
 ⟨h.ars.grown hg (zAR h.ars hr),h.uss.grown hg (zAR h.uss hr),h.shs.blk fun hn b o e=>hg.block b (h.shq hn b o e).2.1 fun e2=>by have:=dR e2;have:=(h.shq hn b o e).1;omega,
  fun hn b o e=>⟨(h.shq hn b o e).1,cX (h.shq hn b o e).2.1 hg.size,(h.shq hn b o e).2.2⟩,h.sm⟩
theorem DsQ.below (h:DsQ B1 v w d) (hb:Below w.heap.size w w'):DsQ B1 v w' d :=
 ⟨h.ars.below hb,h.uss.below hb,h.shs.below hb,fun hn b o e=>⟨(h.shq hn b o e).1,cX (h.shq hn b o e).2.1 hb.size,(h.shq hn b o e).2.2⟩,h.sm⟩
theorem DsQ.row (h:DsQ B1 v w d) (ho:zAF eDq 16 w B1 47 v T) (hg:w.grownBy w' v.ownBlock) (hv:v'.ownBlock=v.ownBlock∨∃ n,v'.ownBlock=some n∧w.heap.size≤n):DsQ B1 v' w' d :=
 ⟨h.ars.grown hg (zBl h.ars ho zc),h.uss.grown hg (zBl h.uss ho zc),h.shs.blk fun hn b o e=>hg.block b (h.shq hn b o e).2.1 fun e2=>(h.shq hn b o e).2.2 e2.symm,
  fun hn b o e=>⟨(h.shq hn b o e).1,cX (h.shq hn b o e).2.1 hg.size,by
   rcases hv with hv | ⟨n,hv,hn2⟩
   ·rw [hv];exact (h.shq hn b o e).2.2
   ·rw [hv];intro e2;have:=dR e2;have:=(h.shq hn b o e).2.1;omega⟩,h.sm⟩
theorem DsQ.ok (h:DsQ B1 v w d):DeOk w d:=by
 obtain ⟨A,c,e,h1⟩:=h.ars.rd2;obtain ⟨A2,c2,e2,h2⟩:=h.uss.rd1;have e3:d.arA=A:=xd;have e4:d.usA=A2:=by injection e2
 have s:=h.sm.strs;have l:=h.sm.lens;refine ⟨by rw [e3];exact h1,by rw [e4];exact h2,h.shs,⟨za,za,za⟩,⟨za,za,za,za,za,za⟩,fun x hx=>?_⟩
 have:=h.sm.shz x hx;exact ⟨za,za,za⟩
end
structure DsM (w:World) (B0 r q:Nat) (LA:Option Addr) (c:Nat) (L:List Ln) (rs:List Rg) (v1:Value) (us:List BA) (v2:Value) (T:List De) (v3:Value) (k:Nat) (bad:Bool) (wr:World):Prop where
 st:HdS w B0 r q LA
 bx:Bx wr q #[v1,v2,v3] 26
 o1:zAF eRg 2 wr w.heap.size 56 v1 rs
 o2:zAF eSt 1 wr w.heap.size 9 v2 us
 o3:zAF eDq 16 wr w.heap.size 47 v3 T
 ds:bad=false→∀ d∈T,DsQ w.heap.size v3 wr d
 rd:RdI wr r LA c L k bad
 bel:Below B0 w wr
section
variable {w wr w' w4 w9:World} {B0 r q c k k' g cap:Nat} {LA:Option Addr} {L:List Ln} {rs:List Rg} {v1:Value} {us:List BA} {v2:Value} {T:List De} {v3:Value} {bad bad':Bool} {d:De}
theorem HdM.ds (h:HdM w B0 r q LA c L rs v1 us v2 k wr):DsM w B0 r q LA c L rs v1 us v2 [] (.slice none 0 0) k false wr :=
 ⟨h.st,h.bx,h.o1,h.o2,zAF.nil _ _ _ _ _,(fun _ d hd=>by cases hd),h.rd,h.bel⟩
theorem DsM.size (h:DsM w B0 r q LA c L rs v1 us v2 T v3 k bad wr):w.heap.size≤wr.heap.size:=h.bel.size
theorem DsM.below (h:DsM w B0 r q LA c L rs v1 us v2 T v3 k bad wr) (hb:Below wr.heap.size wr w'):DsM w B0 r q LA c L rs v1 us v2 T v3 k bad w' :=
 ⟨h.st,h.bx.below hb,h.o1.below hb,h.o2.below hb,h.o3.below hb,(fun e d hd=>(h.ds e d hd).below hb),h.rd.below hb,h.bel.trans (hb.mono (by have:=h.bx.lt;have:=h.st.bq;omega))⟩
theorem DsM.read (h:DsM w B0 r q LA c L rs v1 us v2 T v3 k false wr) (hi:RdI w' r LA c L k' bad) (hg:wr.grownBy w' (some r)):DsM w B0 r q LA c L rs v1 us v2 T v3 k' bad w':=by
 have hs:=h.st;refine ⟨hs,(hg.block q h.bx.lt fun e=>hs.ne (dR e).symm).trans h.bx,h.o1.grown hg (zAR h.o1 hs.rl),h.o2.grown hg (zAR h.o2 hs.rl),h.o3.grown hg (zAR h.o3 hs.rl),(fun _ d hd=>(h.ds rfl d hd).grown hg hs.rl),hi,?_⟩
 refine h.bel.trans ⟨hg.os,hg.tape,hg.output,hg.size,fun i hi=>hg.block i (by have:=h.size;have:=hs.br;have:=hs.rl;omega) fun e=>?_⟩
 have:=dR e;have:=hs.br;omega
theorem DsM.push (h:DsM w B0 r q LA c L rs v1 us v2 T v3 k bad w4) (hd:bad=false→DsQ w.heap.size v3 w4 d) (ho:zAF eDq 16 w9 w.heap.size 47 (.slice (some ⟨g,0,none⟩) (T.length+1) cap) (T++[d])) (hg:w4.grownBy w9 v3.ownBlock)
  (hv:(Value.slice (some ⟨g,0,none⟩) (T.length+1) cap).ownBlock=v3.ownBlock∨∃ n,(Value.slice (some ⟨g,0,none⟩) (T.length+1) cap).ownBlock=some n∧w4.heap.size≤n) :
  w9.cell? ⟨q,2,none⟩=some v3∧q<w9.heap.size∧(∀ i,w9.frozen? ⟨q,i,none⟩=false)∧DsM w B0 r q LA c L rs v1 us v2 (T++[d]) (.slice (some ⟨g,0,none⟩) (T.length+1) cap) k bad (w9.setCell ⟨q,2,none⟩ (.slice (some ⟨g,0,none⟩) (T.length+1) cap)):=by
 have hs:=h.st;have hb:Below w.heap.size w4 w9:=(bS _ _).grown hg h.size (fun j hj=>(bT h.o3 j hj).1)
 have hx:Bx w9 q #[v1,v2,v3] 26:=(hb.block q hs.ql).trans h.bx;have g2:=zAn w9 ⟨q,2,none⟩ (.slice (some ⟨g,0,none⟩) (T.length+1) cap);have h1:zAF eRg 2 w9 w.heap.size 56 v1 rs:=h.o1.grown hg (zBl h.o1 h.o3 zc);have h2:zAF eSt 1 w9 w.heap.size 9 v2 us:=h.o2.grown hg (zBl h.o2 h.o3 zc);refine ⟨hx.c 2 rfl,hx.lt,hx.frozen,hs,hx.set 2 _,h1.grown g2 (zAR h1 hs.ql),h2.grown g2 (zAR h2 hs.ql),ho.grown g2 (zAR ho hs.ql),fun hbd x hx2=>?_,?_,?_⟩
 ·have:DsQ w.heap.size v3 w4 x:=by
   rcases List.mem_append.1 hx2 with hx2 | hx2
   ·exact h.ds hbd x hx2
   ·rw [List.mem_singleton.1 hx2];exact hd hbd
  exact (this.row h.o3 hg hv).grown g2 hs.ql
 ·exact (h.rd.taken hb hs.rl fun b o e=>(hs.la b o e).1).grown g2 hs.ne fun b o e=>(hs.la b o e).2
 ·exact dP (h.bel.trans (hb.mono (by have:=hs.bq;have:=hs.ql;omega))) hs.bq _
theorem dsQ_of (h:DeI w' q d) (hq:w.heap.size≤q) (hs:DSm d) (ho:zAF eDq 16 w9 w.heap.size 47 v3 T) (h9:w9.heap.size≤q):DsQ w.heap.size v3 w' d :=
 ⟨zAF.base h.ars za,zAF.base h.uss za,h.shs,fun hn b o e=>by
  have h1:=h.shq b o e;obtain ⟨b',o',hA,hc⟩:=h.shs (by cases hd:d.sh with | nil=>exact absurd hd hn | cons a t=>simp)
  rw [e] at hA;have e2:b=b':=by injection hA with hA;injection hA
  subst e2;have h2:=World.block_lt_of_cell? w' _ (hc 0 (by cases hd:d.sh with | nil=>exact absurd hd hn | cons a t=>simp)).1
  exact ⟨za,h2,fun e3=>by have:=(bT ho _ e3).2;omega⟩,hs⟩
end
/-! ### The plain side -/
theorem Sht.dropk {L:List Ln} (h:Sht L) (k:Nat):Sht (L.drop k):=⟨by have:=h.1;rw [bK];omega,fun l hl=>h.2 l (bX hl)⟩
def conX (T:List De):Except (List Ln) (List De)→Except (List Ln) (List De)
 | .error e=>.error e
 | .ok l=>.ok (T++l)
theorem conX_nil (x:Except (List Ln) (List De)):conX [] x=x:=by cases x<;>rfl
theorem deedsX_nil (f:Nat):zDg f [] = .ok []:=by cases f<;>rfl
theorem deedsX_bad {f:Nat} {M e:List Ln} (hM:M≠[]) (h:zAG M = .error e):zDg (f+1) M = .error e:=by
 rw [zDg,aC hM,h]
theorem deedsX_more {f:Nat} {M R:List Ln} {d:De} {T:List De} (hM:M≠[]) (h:zAG M = .ok (d,R)):conX T (zDg (f+1) M)=conX (T++[d]) (zDg f R):=by
 rw [zDg,aC hM,h];simp only
 cases zDg f R with
 | error e=>rfl
 | ok l=>simp [conX]
theorem deedX_less {M R:List Ln} {d:De} (h:zAG M = .ok (d,R)):R.length<M.length:=by
 have e:=deedX_ok h;have h1:=dLn_pos d;rw [e,cY];omega
theorem spl_len2 (c:UInt8):∀ l:Ln,(spl c l).length≤l.length+1
 | []=>by simp [spl]
 | b::l=>by
  have ih:=spl_len2 c l;unfold spl
  split
  ·simp only [aQ];omega
  ·split
   ·simp
   ·next h t e=>rw [e] at ih;simp only [aQ] at ih ⊢;omega
theorem spl_mem (c:UInt8):∀ (l p:Ln),p∈spl c l→p.length≤l.length
 | [],p,h=>by simp [spl] at h;subst h;simp
 | b::l,p,h=>by
  have ih:=spl_mem c l;unfold spl at h
  split at h
  ·rcases List.mem_cons.1 h with rfl | h
   ·simp
   ·have:=ih p h;simp only [aQ];omega
  ·split at h
   ·next e=>exact absurd e (spl_ne l)
   ·next x t e =>
    rw [e] at ih
    rcases List.mem_cons.1 h with rfl | h
    ·have:=ih x aO;simp only [aQ];omega
    ·have:=ih p (List.mem_cons_of_mem _ h);simp only [aQ];omega
def PlX (P0:Except (List Ln) (List De)) (L:List Ln) (T:List De) (k:Nat) (bad:Bool):Prop :=
 (bad=true→P0 = .error (L.drop k))∧(bad=false→∃ f,P0=conX (T.map zBr) (zDg f (L.drop k))∧(L.drop k).length≤f)
theorem PlX.step {P0:Except (List Ln) (List De)} {L:List Ln} {T:List De} {k k':Nat} {bad:Bool} {d:De} (h:PlX P0 L T k false) (hk:k<L.length) (hs:Stp (fun d M=>.ok (d,M)) (zAG (L.drop k)) L d k' bad):PlX P0 L (T++[d]) k' bad∧(bad=false→(L.drop k').length<(L.drop k).length):=by
 obtain ⟨f,hP,hf⟩:=h.2 rfl;have hM:L.drop k≠[]:=fun e=>by have:=aY List.length e;rw [bK] at this;simp at this;omega
 obtain ⟨f',rfl⟩:∃ f',f=f'+1:=⟨f - 1,by have:0<(L.drop k).length:=List.length_pos_iff.2 hM;omega⟩
 cases bad with
 | true =>
  have h1:=hs.1 rfl;refine ⟨⟨fun _=>?_,(fun h=>zy)⟩,(fun h=>zy)⟩
  rw [hP,deedsX_bad hM h1];rfl
 | false =>
  have h1:=(hs.2 rfl).symm;have h2:=deedX_less h1;refine ⟨⟨(fun h=>zy),fun _=>⟨f',?_,za⟩⟩,fun _=>h2⟩
  rw [hP,deedsX_more hM h1,dV];rfl
structure TjM (w:World) (B0 r q:Nat) (LA:Option Addr) (c:Nat) (L:List Ln) (T1:List Rg) (v1:Value) (T2:List BA) (v2:Value) (T:List De) (v3:Value) (k:Nat) (bad:Bool) (wr:World):Prop where
 st:HdS w B0 r q LA
 bx:Bx wr q #[v1,v2,v3] 26
 o1:zAF eRg 2 wr w.heap.size 56 v1 T1
 o2:zAF eSt 1 wr w.heap.size 9 v2 T2
 o3:zAF eDq 16 wr w.heap.size 47 v3 T
 ds:bad=false→∀ d∈T,DsQ w.heap.size v3 wr d
 rd:RdJ wr r LA c L k
 bel:Below B0 w wr
section
variable {w wr w' w4 w9:World} {B0 r q c k k':Nat} {LA:Option Addr} {L:List Ln} {T1 T1':List Rg} {v1 v':Value} {T2 T2':List BA} {v2:Value} {T T':List De} {v3:Value} {bad bad':Bool} {d:De}
theorem TjM.size (h:TjM w B0 r q LA c L T1 v1 T2 v2 T v3 k bad wr):w.heap.size≤wr.heap.size:=h.bel.size
theorem TjM.below (h:TjM w B0 r q LA c L T1 v1 T2 v2 T v3 k bad wr) (hb:Below wr.heap.size wr w'):TjM w B0 r q LA c L T1 v1 T2 v2 T v3 k bad w' :=
 ⟨h.st,h.bx.below hb,h.o1.below hb,h.o2.below hb,h.o3.below hb,(fun e d hd=>(h.ds e d hd).below hb),h.rd.below hb,h.bel.trans (hb.mono (by have:=h.bx.lt;have:=h.st.bq;omega))⟩
theorem TjM.read (h:TjM w B0 r q LA c L T1 v1 T2 v2 T v3 k bad wr) (hi:RdJ w' r LA c L k') (hg:wr.grownBy w' (some r)):TjM w B0 r q LA c L T1 v1 T2 v2 T v3 k' bad w':=by
 have hs:=h.st;refine ⟨hs,(hg.block q h.bx.lt fun e=>hs.ne (dR e).symm).trans h.bx,h.o1.grown hg (zAR h.o1 hs.rl),h.o2.grown hg (zAR h.o2 hs.rl),h.o3.grown hg (zAR h.o3 hs.rl),(fun e d hd=>(h.ds e d hd).grown hg hs.rl),hi,?_⟩
 refine h.bel.trans ⟨hg.os,hg.tape,hg.output,hg.size,fun i hi=>hg.block i (by have:=h.size;have:=hs.br;have:=hs.rl;omega) fun e=>?_⟩
 have:=dR e;have:=hs.br;omega
theorem TjM.mid (h:TjM w B0 r q LA c L T1 v1 T2 v2 T v3 k bad w4) {ob:Option Nat} (hg:w4.grownBy w9 ob) (hob:∀ j,ob=some j→w.heap.size≤j):Bx w9 q #[v1,v2,v3] 26∧RdJ w9 r LA c L k∧Below B0 w w9:=by
 have hs:=h.st;have hb:Below w.heap.size w4 w9:=(bS _ _).grown hg h.size hob;exact ⟨(hb.block q hs.ql).trans h.bx,h.rd.taken hb hs.rl fun b o e=>(hs.la b o e).1,h.bel.trans (hb.mono (by have:=hs.bq;have:=hs.ql;omega))⟩
theorem TjM.push1 (h:TjM w B0 r q LA c L T1 v1 T2 v2 [] v3 k bad w4) (ho:zAF eRg 2 w9 w.heap.size 56 v' T1') (hg:w4.grownBy w9 v1.ownBlock) :
  w9.cell? ⟨q,0,none⟩=some v1∧q<w9.heap.size∧(∀ i,w9.frozen? ⟨q,i,none⟩=false)∧TjM w B0 r q LA c L T1' v' T2 v2 [] v3 k bad (w9.setCell ⟨q,0,none⟩ v'):=by
 have hs:=h.st;obtain ⟨hx,hr,hb⟩:=h.mid hg fun j hj=>(bT h.o1 j hj).1
 have g2:=zAn w9 ⟨q,0,none⟩ v';have h2:zAF eSt 1 w9 w.heap.size 9 v2 T2:=h.o2.grown hg (zBl h.o2 h.o1 zc);have h3:zAF eDq 16 w9 w.heap.size 47 v3 []:=h.o3.grown hg (zBl h.o3 h.o1 zc);exact ⟨hx.c 0 rfl,hx.lt,hx.frozen,hs,hx.set 0 _,ho.grown g2 (zAR ho hs.ql),h2.grown g2 (zAR h2 hs.ql),h3.grown g2 (zAR h3 hs.ql),(fun _ d hd=>by cases hd),hr.grown g2 hs.ne fun b o e=>(hs.la b o e).2,dP hb hs.bq _⟩
theorem TjM.push2 (h:TjM w B0 r q LA c L T1 v1 T2 v2 [] v3 k bad w4) (ho:zAF eSt 1 w9 w.heap.size 9 v' T2') (hg:w4.grownBy w9 v2.ownBlock) :
  w9.cell? ⟨q,1,none⟩=some v2∧q<w9.heap.size∧(∀ i,w9.frozen? ⟨q,i,none⟩=false)∧TjM w B0 r q LA c L T1 v1 T2' v' [] v3 k bad (w9.setCell ⟨q,1,none⟩ v'):=by
 have hs:=h.st;obtain ⟨hx,hr,hb⟩:=h.mid hg fun j hj=>(bT h.o2 j hj).1
 have g2:=zAn w9 ⟨q,1,none⟩ v';have h1:zAF eRg 2 w9 w.heap.size 56 v1 T1:=h.o1.grown hg (zBl h.o1 h.o2 zc);have h3:zAF eDq 16 w9 w.heap.size 47 v3 []:=h.o3.grown hg (zBl h.o3 h.o2 zc);exact ⟨hx.c 1 rfl,hx.lt,hx.frozen,hs,hx.set 1 _,h1.grown g2 (zAR h1 hs.ql),ho.grown g2 (zAR ho hs.ql),h3.grown g2 (zAR h3 hs.ql),(fun _ d hd=>by cases hd),hr.grown g2 hs.ne fun b o e=>(hs.la b o e).2,dP hb hs.bq _⟩
theorem TjM.push3 (h:TjM w B0 r q LA c L T1 v1 T2 v2 T v3 k bad w4) (hd:bad'=false→bad=false∧DsQ w.heap.size v3 w4 d) (ho:zAF eDq 16 w9 w.heap.size 47 v' (T++[d])) (hg:w4.grownBy w9 v3.ownBlock)
  (hv:v'.ownBlock=v3.ownBlock∨∃ n,v'.ownBlock=some n∧w4.heap.size≤n) :
  w9.cell? ⟨q,2,none⟩=some v3∧q<w9.heap.size∧(∀ i,w9.frozen? ⟨q,i,none⟩=false)∧TjM w B0 r q LA c L T1 v1 T2 v2 (T++[d]) v' k bad' (w9.setCell ⟨q,2,none⟩ v'):=by
 have hs:=h.st;obtain ⟨hx,hr,hb⟩:=h.mid hg fun j hj=>(bT h.o3 j hj).1
 have g2:=zAn w9 ⟨q,2,none⟩ v';have h1:zAF eRg 2 w9 w.heap.size 56 v1 T1:=h.o1.grown hg (zBl h.o1 h.o3 zc);have h2:zAF eSt 1 w9 w.heap.size 9 v2 T2:=h.o2.grown hg (zBl h.o2 h.o3 zc);refine ⟨hx.c 2 rfl,hx.lt,hx.frozen,hs,hx.set 2 _,h1.grown g2 (zAR h1 hs.ql),h2.grown g2 (zAR h2 hs.ql),ho.grown g2 (zAR ho hs.ql),fun hbd x hx2=>?_,hr.grown g2 hs.ne fun b o e=>(hs.la b o e).2,dP hb hs.bq _⟩
 have:DsQ w.heap.size v3 w4 x:=by
  rcases List.mem_append.1 hx2 with hx2 | hx2
  ·exact h.ds (hd hbd).1 x hx2
  ·rw [List.mem_singleton.1 hx2];exact (hd hbd).2
 exact (this.row h.o3 hg hv).grown g2 hs.ql
theorem dsQ_ofJ (h:DeI w' q d) (hq:w.heap.size≤q) (hs:DSm d) (ho:zAF eDq 16 w9 w.heap.size 47 v3 T) (h9:w9.heap.size≤q):DsQ w.heap.size v3 w' d:=dsQ_of h hq hs ho h9
end
def Tj1 (w:World) (B0 r q:Nat) (LA:Option Addr) (c:Nat) (L:List Ln) (all:List Rg) (m:Nat) (wr:World):Prop :=
 ∃ (T:List Rg) (v:Value),TjM w B0 r q LA c L T v [] (.slice none 0 0) [] (.slice none 0 0) T.length false wr∧T++(zAT (L.drop T.length)).1=all∧T.length+m=L.length+1
def Tj2 (w:World) (B0 r q:Nat) (LA:Option Addr) (c:Nat) (L:List Ln) (T1:List Rg) (v1:Value) (k:Nat) (all:List BA) (m:Nat) (wr:World):Prop :=
 ∃ (T:List BA) (v:Value),TjM w B0 r q LA c L T1 v1 T v [] (.slice none 0 0) (k+T.length) false wr∧T++(zAQ [] zCr (L.drop (k+T.length))).1=all∧k+T.length+m=L.length+1
def Tj3 (w:World) (B0 r q:Nat) (LA:Option Addr) (c:Nat) (L:List Ln) (rs:List Rg) (v1:Value) (us:List BA) (v2:Value) (P0:Except (List Ln) (List De)) (m:Nat) (gv:Value) (wr:World):Prop :=
 ∃ (T:List De) (v3:Value) (k:Nat) (good:Bool),gv = .bool good∧TjM w B0 r q LA c L rs v1 us v2 T v3 k (!good) wr∧PlX P0 L T k (!good)∧(good=true→T.length≤k∧(L.drop k).length+2≤m)∧T.length≤600001∧1≤m
theorem rg1_nx (M:List Ln):rg1 M=match nxF zBw 2 M with
  | some [n,p]=>if rowL n=true∧(rowL p=true∨p=[45]) then some ⟨ofL n,if p=[45] then emp else ofL p⟩ else none
  | _=>none:=by
 unfold rg1;have h:wdF [] zBw 3 M=(nxF zBw 2 M).map (zBw::·):=wd_nx (pre:=[]) (first:=zBw) zc 2 M
 rw [h]
 cases hn:nxF zBw 2 M with
 | none=>rfl
 | some W =>
  have hl:=zDw hn
  match W,hl with
  | [n,p],_=>rfl
theorem use_word (r:Nat) (LA:Option Addr) (c:Nat) (L:List Ln) (k:Nat) (w:World) (h:RdJ w r LA c L k) (hG:GOK w) :
  Calls Tryz.prog 16 #[.pointer (some ⟨r,0,none⟩),.string ⟨#[117,115,101]⟩] w
   (zBj (.tuple #[.string (ofL ((zDk [] zCr (L.drop k)).getD [])),.bool (zDk [] zCr (L.drop k)).isSome]) r LA c L (nxk k (zDk [] zCr (L.drop k)).isSome) w):=by
 have h:=wordJ_c r LA c L k ⟨#[117,115,101]⟩ w h hG
 rwa [show (⟨#[117,115,101]⟩:BA).data.toList=([]:Ln)++zCr from rfl,nmJ_try zc] at h
theorem tryX_pos {L:List Ln} {k:Nat} {n:Ln} (h:zDk [] zCr (L.drop k)=some n):k<L.length:=by
 refine zBi fun e=>?_
 rw [e] at h
 cases h
theorem PlX.stepJ {P0:Except (List Ln) (List De)} {L:List Ln} {T:List De} {k k':Nat} {ok:Bool} {d:De} (h:PlX P0 L T k false) (hk:k<L.length) (hy:ok=true→zAG (L.drop k) = .ok (plD d,L.drop k')) (hn:ok=false→zAG (L.drop k) = .error (L.drop k')):PlX P0 L (T++[d]) k' (!ok)∧((!ok)=false→(L.drop k').length<(L.drop k).length):=by
 refine h.step hk ⟨fun e=>?_,fun e=>?_⟩
 ·exact hn (by cases ok with | false=>rfl | true=>cases e)
 ·exact (hy (by cases ok with | true=>rfl | false=>cases e)).symm
end Go.Proofs.YtoaelidmmcbkfaaGreatDoor
