/- Parts of the proof, joined: Package right: Check of a title (its walk printed by gen_check.py). Pa. -/
import Derived.Test.YtieoifkdobcpiaaGreatDoorSm18
import Derived.Test.YtieoifkdobcpiaaGreatDoorSm19
set_option maxRecDepth 100000
set_option maxHeartbeats 8000000
namespace Go.Proofs.YtieoifkdobcpiaaGreatDoor
open Go.RowKit Dw
def Des (w:World) (A:Option Addr) (l:List De):Prop :=
 0<l.length→∃ b o:Nat,A=some ⟨b,o,none⟩∧b<w.heap.size∧∀ i (h:i<l.length),w.rangeAt b (o+i*16) (deC l[i]).toList∧DeOk w l[i]
theorem Des.below {w w':World} {A:Option Addr} {l:List De} (h:Des w A l) (hb:Below w.heap.size w w'):Des w' A l:=fun hl=>by
 obtain ⟨b,o,rfl,hlt,hc⟩:=h hl;refine ⟨b,o,rfl,dL hlt hb.size,fun i hi=>⟨fun j v hv=>?_,(hc i hi).2.below hb⟩⟩
 rw [hb.cell hlt];exact (hc i hi).1 j v hv
abbrev tiC (RA:Option Addr) (rc:Nat) (rs:List Rg) (UA:Option Addr) (uc:Nat) (us:List BA) (DA:Option Addr) (dc:Nat) (ds:List De):Array Value:=#[.slice RA rs.length rc,.slice UA us.length uc,.slice DA ds.length dc]
def zCq (rs:List Rg) (us:List BA) (ds:List De) (k:Nat):Option Int :=
 if progF rs us (ds.take k) (ds.getD k default)≠0 then some (progF rs us (ds.take k) (ds.getD k default)) else none
def chkP (rs:List Rg) (us:List BA) (ds:List De):Int :=
 if zDU rs≠0 then zDU rs else if us=[] then 9 else if 20<us.length then 2 else
 match (List.range us.length).findSome? (zBg us) with
 | some f=>f
 | none=>if 200<ds.length then 2 else match (List.range ds.length).findSome? (zCq rs us ds) with
  | some f=>f
  | none=>0
def chkP2 (rs:List Rg) (us:List BA) (ds:List De):Int:=if 200<ds.length then 2 else match (List.range ds.length).findSome? (zCq rs us ds) with
  | some f=>f
  | none=>0
theorem chkP_un {rs:List Rg} {us:List BA} {ds:List De} {k:Nat} {f:Int} (h0:zDU rs=0) (h1:us≠[]) (h2:¬ 20<us.length) (hk:k<us.length) (hp:∀ j,j<k→zBg us j=none) (hf:zBg us k=some f):chkP rs us ds=f:=by
 unfold chkP;rw [aC (fun h=>h h0),aC h1,aC h2,zAU hk hp hf]
theorem chkP_de {rs:List Rg} {us:List BA} {ds:List De} (h0:zDU rs=0) (h1:us≠[]) (h2:¬ 20<us.length) (hp:∀ j,j<us.length→zBg us j=none):chkP rs us ds=chkP2 rs us ds:=by
 unfold chkP chkP2;rw [aC (fun h=>h h0),aC h1,aC h2,zBf hp]
theorem progF_zero {rs:List Rg} {us:List BA} {pre:List De} {d:De} (h:progF rs us pre d=0):(1≤d.kd∧d.kd≤5)∧zAy d=false∧pre.any (zCf d.id)=false:=by
 unfold progF at h
 split at h
 ·cases h
 unfold prog1 at h
 split at h
 ·cases h
 unfold prog2 at h
 split at h
 ·cases h
 unfold prog3 at h
 split at h
 ·cases h
 next h3 =>
 unfold prog4 at h
 split at h
 ·cases h
 next h4 =>
 unfold prog5 at h
 split at h
 ·cases h
 next h5 =>
 exact ⟨za,by simpa using h5,by simpa using h3⟩
def UnRel (w:World) (us:List BA) (m:Nat) (i:Value) (wr:World):Prop :=
 ∃ k:Nat,k+m=us.length∧i = .int .i64 k∧(∀ j,j<k→zBg us j=none)∧Below w.heap.size w wr
def DeRel (w0:World) (ci:Nat) (RA:Option Addr) (rc r1 r2 g1 g2:Nat) (AL:Option Addr) (cL:Nat) (rs:List Rg) (UA:Option Addr) (uc:Nat) (us:List BA) (m2 m3 m4 m5 lo hi:Nat) (ds:List De) (m:Nat) (i:Value) (wr:World):Prop :=
 ∃ (k:Nat) (p:De),k+m=ds.length∧i = .int .i64 k∧CS w0 wr ci RA rc r1 r2 g1 g2 AL cL rs UA uc us m2 m3 m4 m5 lo hi p (ds.take k)∧∀ j,j<k→zCq rs us ds j=none
theorem Check_c (RA:Option Addr) (rc:Nat) (rs:List Rg) (UA:Option Addr) (uc:Nat) (us:List BA) (DA:Option Addr) (dc:Nat) (ds:List De) (w:World)
  (hr:Rgs w RA rs) (hu:Strs w UA us) (hd:Des w DA ds) (hz:∀ i (h:i<rs.length),(rs[i]).nm.size≤9223372036854775807) (hz2:∀ i (h:i<us.length),(us[i]).size≤9223372036854775807) :
  Calls Tryz.prog 59 #[.agg (tiC RA rc rs UA uc us DA dc ds)] w (zAe (.int .i64 (chkP rs us ds)) w):=by
 generalize hres:chkP rs us ds=res;have HR:=zq hres;clear hres;have hbW:Below w.heap.size w (w.alloc (.cells (tiC RA rc rs UA uc us DA dc ds) 26)):=(aS _ _).alloc (aB _) _;have HX:Hid (Bx (w.alloc (.cells (tiC RA rc rs UA uc us DA dc ds) 26)) w.heap.size (tiC RA rc rs UA uc us DA dc ds) 26):=Bx.new _ _ _;obtain ⟨W,hW⟩:∃ W,W=w.alloc (.cells (tiC RA rc rs UA uc us DA dc ds) 26):=⟨_,rfl⟩;rw [←hW] at HX hbW;have HB:=zq hbW;have HRG:=zq (hr.below hbW);have HUS:=zq (hu.below hbW);have HDE:=zq (hd.below hbW);clear hbW hr hu hd
 go_enter Tryz.func59,Tryz.ntmps59
 go_wp2_with fail
 rw [←hW];clear hW;have x0:=HX.o.c 0 rfl;have hsz:=HX.o.lt
 go_wp2_with fail
 with_reducible refine (CheckRegions_c RA rc rs W HRG.o hz).mono ?_
 rintro e w1 ⟨rfl,hb1⟩;have HB1:=zq (zAa HB.o hb1);have HX1:=zq (HX.o.below hb1);have HRG1:=zq (HRG.o.below hb1);have HUS1:=zq (HUS.o.below hb1);have HDE1:=zq (HDE.o.below hb1);clear x0 hsz hb1 HB HX HRG HUS HDE hz
 by_cases hcr:zDU rs=0
 case neg =>
  have hcb:(zDU rs != 0)=true:=by simpa using hcr
  have HS:Hid (res=zDU rs):=by
   show _=_
   rw [←HR.o];unfold chkP;rw [aE hcr]
  clear hcr HR;go_wp2;go_ret
  exact zAe.mk (zAx HS.o.symm) HB1.o
 have HCR:=zq hcr;have g:=good_of hcr;rw [hcr];clear hcr;have x1:=HX1.o.c 1 rfl;have hsz:=HX1.o.lt
 by_cases hu0:us=[]
 ·have hlb:((us.length:Int) == 0)=true:=by rw [hu0];rfl
  have HS:Hid (res=9):=by
   show _=_
   rw [←HR.o];unfold chkP;rw [aC (fun h=>h HCR.o),aE hu0]
  clear hu0 HR;go_wp2;go_ret
  exact zAe.mk (zAx HS.o.symm) HB1.o
 have hup:0<us.length:=List.length_pos_iff.2 hu0;have hlb:((us.length:Int) == 0)=false:=by rw [aG];omega
 have HU0:=zq hu0;clear hu0
 by_cases hu20:20<us.length
 ·have HS:Hid (res=2):=by
   show _=_
   rw [←HR.o];unfold chkP;rw [aC (fun h=>h HCR.o),aC HU0.o,aE hu20]
  have h20:(20:Int)<(us.length:Int):=za;clear hu20 HR;go_wp2;go_ret
  exact zAe.mk (zAx HS.o.symm) HB1.o
 have h20:¬ (20:Int)<(us.length:Int):=za;have HH:Hid (∀ k f,k<us.length→(∀ j,j<k→zBg us j=none)→zBg us k=some f→res=f):=fun k f hk hp hf=>by rw [←HR.o];exact chkP_un HCR.o HU0.o hu20 hk hp hf
 have HN:Hid ((∀ j,j<us.length→zBg us j=none)→res=chkP2 rs us ds):=fun hp=>by rw [←HR.o];exact chkP_de HCR.o HU0.o hu20 hp
 have hul:us.length≤1000000:=za;have HZ2:=zq hz2;clear hu20 HR hz2;obtain ⟨b,o,hA,hbu,hcu⟩:=HUS1.o.at_ hup;have HCU:=zq hcu;clear hcu;go_wp2
 go_loopg [27] us.length (UnRel w1 us)
 case atStart=>exact ⟨0,za,rfl,fun j hj=>absurd hj za,aS _ _⟩
 case round =>
  obtain ⟨k,hkm,rfl,hpre,hbel⟩:=hrel;have HK:=zq hkm;have HP:=zq hpre;have HBL:=zq hbel;have HX2:=zq (HX1.o.below hbel);have hk1:k≤us.length:=za;have hbr:b<wr.heap.size:=dL hbu hbel.size;clear hkm hpre hbel x1 hsz
  by_cases hlt:k<us.length
  ·have hc0:wr.cell? ⟨b,o+k,none⟩=some (.string us[k]):=(HBL.o.cell hbu).trans (HCU.o k hlt)
   have hzk:=HZ2.o k hlt;subst hA
   go_wp2_with fail
   with_reducible refine (zCj us[k] _ hzk).mono ?_
   rintro e w2 ⟨rfl,hb2⟩;have HBL2:=zq (zAa HBL.o hb2);have HX3:=zq (HX2.o.below hb2);clear hc0 hb2 HBL HX2
   cases hnm:zBe us[k] with
   | false =>
    have HS:Hid (res=5):=HH.o k 5 hlt HP.o (by unfold zBg;rw [zCP hlt,aE hnm])
    clear hnm;go_wp2;go_ret
    exact zAe.mk (zAx HS.o.symm) (zAa HB1.o HBL2.o)
   | true =>
    have HNM:=zq hnm;clear hnm;have x1:=HX3.o.c 1 rfl;have hsz:=HX3.o.lt
    by_cases hk0:0<k
    case pos =>
     have zp:w2.cell? ⟨b,o+(k - 1),none⟩=some (.string (us[k - 1]'(by omega))):=(HBL2.o.cell hbu).trans (HCU.o (k - 1) za)
     have hdk:decide ((0:Int)<(k:Int))=true:=zg
     cases hle:sle us[k] (us[k - 1]'(by omega)) with
     | true =>
      have HS:Hid (res=8):=HH.o k 8 hlt HP.o qc;unfold sle at hle;go_wp2;go_ret
      exact zAe.mk (zAx HS.o.symm) (zAa HB1.o HBL2.o)
     | false =>
      have HF:Hid (zBg us k=none):=by
       show _=_
       unfold zBg;rw [zCP hlt,zCP (show k - 1<us.length by omega),aC qd,aC (fun hh=>jy)]
      unfold sle at hle;go_wp2
      go_roundg (gk - 1)
      case measure=>have:=HK.o;omega
      case rel =>
       refine ⟨k+1,zh,zi,fun j hj=>?_,HBL2.o⟩
       rcases aU j k with h9 | h9
       ·exact HP.o j h9
       ·obtain rfl:j=k:=by omega
        exact HF.o
    case neg =>
     have hdk:decide ((0:Int)<(k:Int))=false:=zg
     have HF:Hid (zBg us k=none):=by
      show _=_
      unfold zBg;rw [zCP hlt,aC qd,aC (fun hh=>hk0 hh.1)]
     go_wp2
     go_roundg (gk - 1)
     case measure=>have:=HK.o;omega
     case rel =>
      refine ⟨k+1,zh,zi,fun j hj=>?_,HBL2.o⟩
      rcases aU j k with h9 | h9
      ·exact HP.o j h9
      ·obtain rfl:j=k:=by omega
       exact HF.o
  ·obtain rfl:k=us.length:=by omega
   have HE:Hid (chkP2 rs us ds=res):=(HN.o HP.o).symm;have x2:=HX2.o.c 2 rfl;have hsz:=HX2.o.lt;have HBW:=zq (zAa HB1.o HBL.o);have HRG2:=zq (HRG1.o.below HBL.o);have HUS2:=zq (HUS1.o.below HBL.o);have HDE2:=zq (HDE1.o.below HBL.o);clear HK HP HN HH HCU HRG1 HUS1 HDE1 HX1 hbr hlt hk1 HBL HB1 hbu hA
   by_cases hd200:200<ds.length
   ·have HS:Hid (res=2):=by
     show _=_
     rw [←HE.o];unfold chkP2;rw [aE hd200]
    have h200:(200:Int)<(ds.length:Int):=za;clear hd200 HE;go_wp2;go_ret
    exact zAe.mk (zAx HS.o.symm) HBW.o
   have h200:¬ (200:Int)<(ds.length:Int):=za
   have HH:Hid (∀ k f,k<ds.length→(∀ j,j<k→zCq rs us ds j=none)→zCq rs us ds k=some f→res=f):=fun k f hk hp hf=>by
    rw [←HE.o];unfold chkP2;rw [aC hd200,zAU hk hp hf]
   have HN:Hid ((∀ j,j<ds.length→zCq rs us ds j=none)→res=0):=fun hp=>by
    rw [←HE.o];unfold chkP2;rw [aC hd200,zBf hp]
   have hdl:ds.length≤200:=za;clear hd200 HE;obtain ⟨w5,hw5⟩:∃ w5:World,w5=wr:=⟨_,rfl⟩;subst hw5
   go_wp2_with fail
   refine region18 g HX2.o HRG2.o HUS2.o rfl zc zc zc rfl ze ⟨_,_,_,rfl⟩ ⟨_,_,_,rfl⟩ ⟨_,_,_,rfl⟩ ⟨_,_,_,rfl⟩ ⟨_,_,_,rfl⟩ ⟨_,_,_,rfl⟩ ⟨_,_,_,rfl⟩ ⟨_,_,_,rfl⟩ ⟨_,_,_,rfl⟩ ⟨_,_,_,rfl⟩ ⟨_,_,_,rfl⟩ ⟨_,_,_,rfl⟩ zc zc zc zc zc zc zc zc zc zc zc ?_
   intro ci r1 r2 g1 g2 AL cL m2 m3 m4 m5 lo hi vals w3 hcs v0 v1 v2 v3 v4 v5 v6 v7 v8 v9 v10;simp [zAk,Act.put,v0,v1,v2,v3,v4,v5,v6,v7,v8,v9,v10,dV]
   have HCS:=zq hcs;clear v0 v1 v2 v3 v4 v5 v6 v7 v8 v9 v10 vals x2 hsz hcs;have HX4:=zq (HX2.o.below HCS.o.bel);have x2:=HX4.o.c 2 rfl;have hsz:=HX4.o.lt;go_wp2
   go_loopg [65] ds.length (DeRel w5 ci RA rc r1 r2 g1 g2 AL cL rs UA uc us m2 m3 m4 m5 lo hi ds)
   case atStart=>exact ⟨0,zDe,za,rfl,HCS.o,fun j hj=>absurd hj za⟩
   clear HCS HX4 x2 hsz
   case round =>
    obtain ⟨k,p,hkm,rfl,hcs,hpre⟩:=hrel;have HK:=zq hkm;have HP:=zq hpre;have HC:=zq hcs;have hk1:k≤ds.length:=za;clear hkm hpre hcs
    by_cases hlt:k<ds.length
    ·obtain ⟨b,o,hA,hbu,hcd⟩:=HDE2.o za
     have hdk:=(hcd k hlt);have HOK:=zq hdk.2;have hrange0:=hdk.1;clear hdk hcd;obtain ⟨d,hdd⟩:∃ d,d=ds[k]:=⟨_,rfl⟩;rw [←hdd] at HOK hrange0;have hgd:ds.getD k default=d:=by rw [hdd];simp [List.getD,hlt]
     have htk:ds.take (k+1)=ds.take k++[d]:=by rw [hdd];exact bM hlt
     have HGD:=zq hgd;have HTK:=zq htk;have hrange:∀ j v,(deC d).toList[j]?=some v→wr.cell? ⟨b,o+k*16+j,none⟩=some v:=fun j v hv=>(HC.o.bel.cell hbu).trans (hrange0 j v hv)
     have HOK2:=zq (HOK.o.below HC.o.bel)
     have hgk:∀ q∈ds.take k,1≤q.kd:=fun q hq=>by
      obtain ⟨j,hj,rfl⟩:=aK hq;rw [bN] at hj;have hjk:j<k:=za;have h1:=HP.o j hjk;unfold zCq at h1
      split at h1
      ·cases h1
      ·next h2 =>
       have h3:=(progF_zero (Decidable.not_not.1 h2)).1.1;rw [cQ];have e:ds.getD j default=ds[j]'(by omega):=by simp [List.getD,show j<ds.length by omega]
       rwa [e] at h3
     have HGK:=zq hgk;have HOT:=zq htk;clear hgd htk hgk hdd HOT HOK hrange0;have c0:wr.cell? ⟨b,o+k*16,none⟩=some (deC d)[0]:=hrange 0 _ rfl;have c1:wr.cell? ⟨b,o+k*16+1,none⟩=some (deC d)[1]:=hrange 1 _ rfl;have c2:wr.cell? ⟨b,o+k*16+2,none⟩=some (deC d)[2]:=hrange 2 _ rfl;have c3:wr.cell? ⟨b,o+k*16+3,none⟩=some (deC d)[3]:=hrange 3 _ rfl;have c4:wr.cell? ⟨b,o+k*16+4,none⟩=some (deC d)[4]:=hrange 4 _ rfl;have c5:wr.cell? ⟨b,o+k*16+5,none⟩=some (deC d)[5]:=hrange 5 _ rfl;have c6:wr.cell? ⟨b,o+k*16+6,none⟩=some (deC d)[6]:=hrange 6 _ rfl;have c7:wr.cell? ⟨b,o+k*16+7,none⟩=some (deC d)[7]:=hrange 7 _ rfl;have c8:wr.cell? ⟨b,o+k*16+8,none⟩=some (deC d)[8]:=hrange 8 _ rfl;have c9:wr.cell? ⟨b,o+k*16+9,none⟩=some (deC d)[9]:=hrange 9 _ rfl;have c10:wr.cell? ⟨b,o+k*16+10,none⟩=some (deC d)[10]:=hrange 10 _ rfl;have c11:wr.cell? ⟨b,o+k*16+11,none⟩=some (deC d)[11]:=hrange 11 _ rfl;have c12:wr.cell? ⟨b,o+k*16+12,none⟩=some (deC d)[12]:=hrange 12 _ rfl;have c13:wr.cell? ⟨b,o+k*16+13,none⟩=some (deC d)[13]:=hrange 13 _ rfl;have c14:wr.cell? ⟨b,o+k*16+14,none⟩=some (deC d)[14]:=hrange 14 _ rfl;have c15:wr.cell? ⟨b,o+k*16+15,none⟩=some (deC d)[15]:=hrange 15 _ rfl;have HC2:=zq (HC.o.below (w':=wr.alloc (.cells (deC d) 52)) ((aS _ _).alloc (aB _) _));have HOK3:=zq (HOK2.o.below (w':=wr.alloc (.cells (deC d) 52)) ((aS _ _).alloc (aB _) _));have HDC:=zq (deed_c w5 ci RA rc r1 r2 g1 g2 AL cL rs UA uc us m2 m3 m4 m5 lo hi p (ds.take k) d _ g hul HGK.o HC2.o HOK3.o);clear hrange HC;subst hA
     go_wp2_with fail
     with_reducible refine HDC.o.mono ?_
     rintro e w6 ⟨rfl,hb6,hn6⟩;have HB6:=zq (zAa HBW.o hb6);have HN6:=zq hn6;clear c0 c1 c2 c3 c4 c5 c6 c7 c8 c9 c10 c11 c12 c13 c14 c15 hb6 hn6 HC2 HOK2 HOK3 HDC
     by_cases hpz:progF rs us (ds.take k) d=0
     case neg =>
      have hpb:(progF rs us (ds.take k) d != 0)=true:=by simpa using hpz
      have HS:Hid (res=progF rs us (ds.take k) d):=HH.o k _ hlt HP.o (by unfold zCq;rw [HGD.o,aE hpz])
      clear hpz;go_wp2;go_ret
      exact zAe.mk (zAx HS.o.symm) HB6.o
     have HF:Hid (zCq rs us ds k=none):=by
      show _=_
      unfold zCq;rw [HGD.o,aC (fun h=>h hpz)]
     have HC6:=zq (HN6.o hpz);rw [hpz];clear hpz HN6;go_wp2
     go_roundg (gk - 1)
     case measure=>have:=HK.o;omega
     case rel =>
      refine ⟨k+1,d,zh,zi,by rw [HTK.o];exact HC6.o,fun j hj=>?_⟩
      rcases aU j k with h9 | h9
      ·exact HP.o j h9
      ·obtain rfl:j=k:=by omega
       exact HF.o
    ·obtain rfl:k=ds.length:=by omega
     have HS:Hid (res=0):=HN.o HP.o;go_wp2;go_ret
     exact zAe.mk (zAx HS.o.symm) (zAa HBW.o HC.o.bel)
theorem need_fr {d:De} (hk:d.kd=1) (h:zAy d=false):d.fr=emp:=by
 unfold zAy at h;rw [hk] at h;simp [zAh] at h
 exact h.1.1.1.1.1.1
theorem need_th {d:De} (hk:d.kd=5) (h:zAy d=false):d.th=emp:=by
 unfold zAy at h;rw [hk] at h;simp [zAh] at h
 exact h.1.1.1.1.1.1
def Gd (pre:List De):Prop:=(∀ q∈pre,(1≤q.kd∧q.kd≤5)∧zAy q=false)∧pre.Pairwise (fun a b=>a.id≠b.id)
theorem kN_cons (a:De) (t:List De) (x:BA):kN (a::t) x=if a.id=x then a.kd else kN t x:=by
 unfold kN
 by_cases h:a.id=x
 ·rw [List.find?_cons_of_pos (by simp [zCf,h]),aE h]
 ·rw [List.find?_cons_of_neg (by simp [zCf,h]),aC h]
theorem kN_any:∀ (pre:List De) (x:BA),pre.Pairwise (fun a b=>a.id≠b.id)→zAh (kN pre x)=pre.any fun p=>decide (p.id=x)&&zAh p.kd
 | [],_,_=>rfl
 | a::t,x,h=>by
  rw [List.pairwise_cons] at h;rw [kN_cons,List.any_cons]
  by_cases e:a.id=x
  ·rw [aE e]
   have:(t.any fun p=>decide (p.id=x)&&zAh p.kd)=false:=by
    rw [aV];intro q hq;have:=h.1 q hq;simp
    intro e2;exact absurd (e.trans e2.symm) this
   rw [this];simp [e]
  ·rw [aC e,kN_any t x h.2]
   simp [e]
theorem any_born {pre:List De} {d:De} (hg:∀ q∈pre,(1≤q.kd∧q.kd≤5)∧zAy q=false) (hk:d.kd=1) (hd:zAy d=false) :
  (pre.any fun p=>decide (p.kd=d.kd)&&decide (p.th=d.th)&&decide (p.fr=d.fr))=bornB pre d.th:=by
 unfold bornB;rw [hk,need_fr hk hd]
 induction pre with
 | nil=>rfl
 | cons a t ih =>
  rw [List.any_cons,List.any_cons,ih fun q hq=>hg q (by simp [hq])]
  congr 1
  by_cases h:a.kd=1
  ·rw [need_fr h (hg a ze).2];simp
  ·simp [h]
theorem any_gone {pre:List De} {d:De} (hg:∀ q∈pre,(1≤q.kd∧q.kd≤5)∧zAy q=false) (hk:d.kd=5) (hd:zAy d=false) :
  (pre.any fun p=>decide (p.kd=d.kd)&&decide (p.th=d.th)&&decide (p.fr=d.fr))=goneB pre d.fr:=by
 unfold goneB;rw [hk,need_th hk hd]
 induction pre with
 | nil=>rfl
 | cons a t ih =>
  rw [List.any_cons,List.any_cons,ih fun q hq=>hg q (by simp [hq])]
  congr 1
  by_cases h:a.kd=5
  ·rw [need_th h (hg a ze).2];simp
  ·simp [h]
theorem progF_chkD {l:List Rg} {us:List BA} {pre:List De} {d:De} (hg:Gd pre):progF l us pre d=chkD l us pre d:=by
 unfold progF chkD
 by_cases h1:zBe d.id=false
 ·rw [aE h1,aE h1]
 rw [aC h1,aC h1];unfold prog1
 by_cases h2:zCr d.day=false
 ·rw [aE h2,aE h2]
 rw [aC h2,aC h2];unfold prog2
 by_cases h3:zEf pre d=false
 ·rw [aE h3,aE h3]
 rw [aC h3,aC h3];unfold prog3;have e4:(pre.any fun p=>decide (p.id=d.id))=pre.any (zCf d.id):=rfl
 rw [e4]
 by_cases h4:pre.any (zCf d.id)=true
 ·rw [aE h4,aE h4]
 rw [aC h4,aC h4];unfold prog4
 by_cases h5:d.kd<1∨5<d.kd
 ·rw [aE h5,aE h5]
 rw [aC h5,aC h5];unfold prog5
 by_cases h6:zAy d=true
 ·rw [aE h6,aE h6]
 rw [aC h6,aC h6];have hn:zAy d=false:=by simpa using h6
 have hk:d.kd=1∨d.kd=2∨d.kd=3∨d.kd=4∨d.kd=5:=za;unfold prog6 valF;have tw0:d.kd≠1→d.kd≠5→twB pre d=false:=fun a b=>by unfold twB;simp [a,b]
 rcases hk with hk | hk | hk | hk | hk
 ·have hgv:¬ zAh d.kd=true:=by rw [hk];decide
  rw [aC hgv,aC (show ¬ d.kd=4 by omega),aC hgv,aC (show ¬ d.kd=4 by omega)]
  have ht:twB pre d=bornB pre d.th:=by unfold twB;rw [hk];simp
  unfold divV divF;rw [ht,any_born hg.1 hk hn];unfold zCM;have hk5:¬ d.kd=5:=za
  by_cases q1:(d.kd=1∧zBe d.th=false)∨(d.kd=5∧zBe d.fr=false)
  ·simp [q1]
  ·rw [aC q1,aC q1]
   by_cases q2:zCr d.bg=false
   ·simp [q2]
   ·by_cases q3:shF d.kd d.sh=0
    ·simp [q2,q3,hk5]
    ·simp [q2,q3]
 ·have hgv:zAh d.kd=true:=by rw [hk];decide
  rw [aE hgv,aE hgv,tw0 za za,giftF_two];simp
  exact fun h=>h.symm
 ·have hgv:zAh d.kd=true:=by rw [hk];decide
  rw [aE hgv,aE hgv,tw0 za za,giftF_two];simp
  exact fun h=>h.symm
 ·have hgv:¬ zAh d.kd=true:=by rw [hk];decide
  rw [aC hgv,aE hk,aC hgv,aE hk,tw0 za za];have ha:=kN_any pre d.ot hg.2;unfold endV endF;rw [←ha];have hb:endB pre d.ot=pre.any fun p=>decide (p.kd=4)&&decide (p.ot=d.ot):=rfl
  rw [←hb];have hgk:(kN pre d.ot≠2∧kN pre d.ot≠3)↔zAh (kN pre d.ot)=false:=by unfold zAh;simp
  by_cases q2:zCr d.bg=false
  ·simp [q2]
  ·by_cases q3:zAh (kN pre d.ot)=false
   ·have:=hgk.2 q3
    simp [q2,q3,this]
   ·have:¬ (kN pre d.ot≠2∧kN pre d.ot≠3):=fun h=>q3 (hgk.1 h)
    rw [aC q2,aC q2,aC this,aC q3]
    cases endB pre d.ot<;>simp
 ·have hgv:¬ zAh d.kd=true:=by rw [hk];decide
  rw [aC hgv,aC (show ¬ d.kd=4 by omega),aC hgv,aC (show ¬ d.kd=4 by omega)]
  have ht:twB pre d=goneB pre d.fr:=by unfold twB;rw [hk];simp
  unfold divV divF;rw [ht,any_gone hg.1 hk hn];unfold zCM
  by_cases q1:(d.kd=1∧zBe d.th=false)∨(d.kd=5∧zBe d.fr=false)
  ·simp [q1]
  ·rw [aC q1,aC q1]
   by_cases q2:zCr d.bg=false
   ·simp [q2]
   ·by_cases q3:shF d.kd d.sh=0
    ·by_cases q4:(d.sh.any fun s=>decide (s.pt=d.fr))=true
     ·have q3':shF 5 d.sh=0:=by rw [←hk];exact q3
      rw [aC q2,aC q2];simp only [q3',hk,q4];simp
     ·have q3':shF 5 d.sh=0:=by rw [←hk];exact q3
      rw [aC q2,aC q2];simp only [q3',hk,q4];simp
    ·simp [q2,q3]
theorem gd_take {rs:List Rg} {us:List BA} {ds:List De}:∀ (k:Nat),k≤ds.length→(∀ j,j<k→zCq rs us ds j=none)→Gd (ds.take k)
 | 0,_,_=>⟨ze,ze⟩
 | k+1,hk,hp=>by
  have ih:=gd_take k za fun j hj=>hp j za
  have h1:=hp k za;have hlt:k<ds.length:=za;have hgd:ds.getD k default=ds[k]:=by simp [List.getD,hlt]
  unfold zCq at h1;rw [hgd] at h1
  split at h1
  ·cases h1
  ·next h2 =>
   obtain ⟨a,b,c⟩:=progF_zero (Decidable.not_not.1 h2);rw [bM hlt];refine ⟨fun q hq=>?_,?_⟩
   ·rcases List.mem_append.1 hq with hq | hq
    ·exact ih.1 q hq
    ·rw [List.mem_singleton] at hq
     subst hq;exact ⟨a,b⟩
   ·rw [List.pairwise_append]
    refine ⟨ih.2,ze,fun x hx y hy=>?_⟩
    rw [List.mem_singleton] at hy;subst hy;rw [aV] at c;have:=c x hx
    simpa [zCf] using this
theorem pe_de {rs:List Rg} {us:List BA} {ds:List De}:∀ (n:Nat),n≤ds.length→(List.range n).findSome? (zCq rs us ds)=(List.range n).findSome? (zCU rs us ds)
 | 0,_=>rfl
 | n+1,hn=>by
  rw [dV,List.findSome?_append,List.findSome?_append,pe_de n za]
  cases h:(List.range n).findSome? (zCU rs us ds) with
  | some f=>rfl
  | none =>
   have hp:∀ j,j<n→zCq rs us ds j=none:=fun j hj=>by
    have h2:=pe_de (rs:=rs) (us:=us) (ds:=ds) n za;rw [h,List.findSome?_eq_none_iff] at h2;exact h2 j (List.mem_range.2 hj)
   have hg:=gd_take n za hp
   have e:zCq rs us ds n=zCU rs us ds n:=by
    unfold zCq zCU;rw [progF_chkD hg]
   simp [e]
theorem chkP_chkT (rs:List Rg) (us:List BA) (ds:List De):chkP rs us ds=zCI rs us ds:=by
 unfold chkP zCI;rw [pe_de ds.length (aB _)]
 rfl
theorem CheckT_c (RA:Option Addr) (rc:Nat) (rs:List Rg) (UA:Option Addr) (uc:Nat) (us:List BA) (DA:Option Addr) (dc:Nat) (ds:List De) (w:World)
  (hr:Rgs w RA rs) (hu:Strs w UA us) (hd:Des w DA ds) (hz:∀ i (h:i<rs.length),(rs[i]).nm.size≤9223372036854775807) (hz2:∀ i (h:i<us.length),(us[i]).size≤9223372036854775807) :
  Calls Tryz.prog 59 #[.agg (tiC RA rc rs UA uc us DA dc ds)] w (zAe (.int .i64 (zCI rs us ds)) w):=by
 rw [←chkP_chkT];exact Check_c RA rc rs UA uc us DA dc ds w hr hu hd hz hz2
end Go.Proofs.YtieoifkdobcpiaaGreatDoor
namespace Go.Proofs.YtieoifkdobcpiaaGreatDoor
open Dw
theorem inc_pair {l:List BA} (h:∀ i (h:i+1<l.length),slt l[i] l[i+1]=true):l.Pairwise fun a b=>slt a b=true:=by
 rw [List.pairwise_iff_getElem];intro i j hi hj hij;obtain ⟨d,rfl⟩:∃ d,j=i+d+1:=⟨j - i - 1,za⟩
 induction d with
 | zero=>exact h i hj
 | succ d ih=>exact zEb (ih za za) (h (i+d+1) hj)
theorem uses_len {us l:List BA} (h:useF us l=0):l.length≤us.length:=by
 unfold useF at h
 split at h
 ·next f hf =>
  exfalso
  obtain ⟨k,_,hk⟩:=List.exists_of_findSome?_eq_some hf;unfold zBr at hk
  split at hk
  ·cases hk;cases h
  ·split at hk
   ·cases hk;cases h
   ·cases hk
 ·next hn =>
  rw [List.findSome?_eq_none_iff] at hn
  have hall:∀ i (h:i<l.length),l[i]∈us∧(0<i→sle l[i] (l[i - 1]'(by omega))=false):=fun i hi=>by
   have:=hn i yz;have e1:usAt l i=l[i]:=by unfold usAt;rw [List.getD_eq_getElem?_getD,List.getElem?_eq_getElem hi];rfl
   have e2:usAt l (i - 1)=l[i - 1]:=by unfold usAt;rw [List.getD_eq_getElem?_getD,List.getElem?_eq_getElem za];rfl
   unfold zBr at this;rw [e1,e2] at this
   split at this
   ·cases this
   ·next h1 =>
    split at this
    ·cases this
    ·next h2 =>
     refine ⟨zCd.1 j0,fun hp=>?_⟩
     cases hs:sle l[i] l[i - 1] with
     | false=>rfl
     | true=>exact absurd ⟨hp,hs⟩ h2
  have hp:l.Pairwise fun a b=>slt a b=true:=inc_pair fun i hi=>zBJ ((hall (i+1) hi).2 za)
  have hnd:l.Nodup:=hp.imp fun h=>zDd h
  exact hnd.length_le_of_subset fun x hx=>by
   obtain ⟨i,hi,rfl⟩:=aK hx;exact (hall i hi).1
theorem chkA_len {rs:List Rg} {a:List Ar} (h:zDw rs a=0):a.length≤100:=by
 unfold zDw at h
 split at h
 ·cases h
 ·omega
theorem shF_len {k:Int} {l:List Sh} (h:shF k l=0):l.length≤20:=by
 unfold shF at h
 split at h
 ·cases h
 split at h
 ·cases h
 omega
theorem zDT {rs:List Rg} {us:List BA} {pre:List De} {d:De} (h:chkD rs us pre d=0) (hu:us.length≤20):d.ar.length≤100∧d.us.length≤20∧d.sh.length≤20:=by
 unfold chkD at h
 split at h
 ·cases h
 split at h
 ·cases h
 split at h
 ·cases h
 split at h
 ·cases h
 split at h
 ·cases h
 split at h
 ·cases h
 next hnd =>
 simp only [zAy,Bool.not_eq_true,aI,Bool.and_eq_false_iff] at hnd;obtain ⟨⟨⟨⟨⟨_,_⟩,hau⟩,_⟩,hsh⟩,_⟩:=hnd
 split at h
 ·next hg =>
  unfold giftF at h
  split at h
  ·cases h
  split at h
  ·cases h
  split at h
  ·next h1=>exact absurd h h1
  split at h
  ·next h1=>exact absurd h h1
  next ha =>
  split at h
  ·cases h
  split at h
  ·next h1=>exact absurd h h1
  next hus =>
  have e1:=chkA_len (by simpa using ha)
  have e2:=uses_len (us:=us) (l:=d.us) (by simpa using hus)
  have e3:d.sh=[]:=by
   rcases hsh with hs | hs
   ·exfalso
    simp only [zAh,Bool.or_eq_true,aH] at hg;simp at hs
    omega
   ·simpa using hs
  rw [e3];exact ⟨e1,za,ze⟩
 ·next hg =>
  have e12:d.ar=[]∧d.us=[]:=by
   rcases hau with hs | hs
   ·simp at hs;exact absurd hs hg
   ·simpa using hs
  rw [e12.1,e12.2];refine ⟨ze,ze,?_⟩
  split at h
  ·next h4 =>
   have e3:d.sh=[]:=by
    rcases hsh with hs | hs
    ·exfalso
     simp at hs
     omega
    ·simpa using hs
   rw [e3];simp
  ·unfold divF at h
   split at h
   ·cases h
   split at h
   ·cases h
   split at h
   ·next h1=>exact absurd h h1
   next h1=>exact shF_len j0
theorem zAZ {rs:List Rg} {us:List BA} {ds:List De} (h:zCI rs us ds=0):us.length≤20∧∀ k (hk:k<ds.length),chkD rs us (ds.take k) ds[k]=0:=by
 unfold zCI at h
 split at h
 ·next h1=>exact absurd h h1
 split at h
 ·cases h
 split at h
 ·cases h
 next h3 =>
 refine ⟨za,fun k hk=>?_⟩
 split at h
 ·next f hf =>
  exfalso
  obtain ⟨k,_,hk⟩:=List.exists_of_findSome?_eq_some hf;unfold zBg at hk
  split at hk
  ·cases hk;cases h
  ·split at hk
   ·cases hk;cases h
   ·cases hk
 ·split at h
  ·cases h
  split at h
  ·next f hf =>
   exfalso
   obtain ⟨k,_,hk⟩:=List.exists_of_findSome?_eq_some hf;unfold zCU at hk
   split at hk
   ·next hne=>cases hk;exact hne h
   ·cases hk
  ·next hn =>
   rw [List.findSome?_eq_none_iff] at hn;have:=hn k (by simpa using hk)
   unfold zCU at this;rw [List.getD_eq_getElem?_getD,List.getElem?_eq_getElem hk] at this
   split at this
   ·cases this
   ·next h0=>simpa using h0
theorem zCs {rs:List Rg} {us:List BA} {ds:List De} (h:zCI rs us ds=0):zDU rs=0∧us.length≤20∧ds.length≤200:=by
 unfold zCI at h
 split at h
 ·next h1=>exact absurd h h1
 next h1 =>
 split at h
 ·cases h
 split at h
 ·cases h
 next h3 =>
 split at h
 ·next f hf =>
  exfalso
  obtain ⟨k,_,hk⟩:=List.exists_of_findSome?_eq_some hf;unfold zBg at hk
  split at hk
  ·cases hk;cases h
  ·split at hk
   ·cases hk;cases h
   ·cases hk
 ·split at h
  ·cases h
  ·next h4=>exact ⟨j0,za,za⟩
open Go Go.RowKit Dw
end Go.Proofs.YtieoifkdobcpiaaGreatDoor
namespace Go.Proofs.YtieoifkdobcpiaaGreatDoor
open Go.RowKit Dw
theorem Lt.setN {w:World} {A:Option Addr} {c n R:Nat} {T:TypeId} {a b d:Value} (h:Lt w A c n) (hb:Bx w R #[a,b,d] T) (h0:∀ n,a≠.int .i64 n) (h1:∀ n,b≠.int .i64 n) (h2:∀ n,d≠.int .i64 n)
  (ng:Bool) (A1:Option Addr) (n1 c1:Nat) (A2:Option Addr) (n2 c2:Nat):Lt (((w.setCell ⟨R,0,none⟩ (.bool ng)).setCell ⟨R,1,none⟩ (.slice A1 n1 c1)).setCell ⟨R,2,none⟩ (.slice A2 n2 c2)) A c n:=by
 refine ⟨?_,h.cap⟩
 have k0:=h.rd.setR hb (no3 h0 h1 h2) 0 (.bool ng);have b1:=Bx.set0 hb (.bool ng);have k1:=k0.setR b1 (no3 ze h1 h2) 1 (.slice A1 n1 c1);have b2:=Bx.set1 b1 (.slice A1 n1 c1);exact k1.setR b2 (no3 ze ze h2) 2 _
theorem Lt.alloc {w:World} {A:Option Addr} {c n:Nat} (h:Lt w A c n) (o:Obj):Lt (w.alloc o) A c n:=h.below ((aS _ _).alloc (aB _) o)
structure StT (w:World) (d:De) (g:Nat) (A:Option Addr) (c:Nat) (A2:Option Addr) (c2:Nat) (pr:Nat×Nat) (W:World):Prop where
 bel:Below w.heap.size w W
 box:Bx W w.heap.size (deC d) 52
 sum:Bx W g (nuC false A c pr.1 A2 c2 pr.2) 45
 n1:Lt W A c pr.1
 n2:Lt W A2 c2 pr.2
 gt:w.heap.size<g
section
variable {w W W':World} {d:De} {g:Nat} {A A2:Option Addr} {c c2:Nat} {pr:Nat×Nat}
theorem StT.below (h:StT w d g A c A2 c2 pr W) (hb:Below W.heap.size W W'):StT w d g A c A2 c2 pr W' :=
 ⟨zAa h.bel hb,h.box.below hb,h.sum.below hb,h.n1.below hb,h.n2.below hb,h.gt⟩
theorem StT.drewN (h:StT w d g A c A2 c2 pr W) (n:Nat):StT w d g A c A2 c2 pr (W.drewN n) :=
 ⟨zAd h.bel n,h.box,h.sum,h.n1.drewN n,h.n2.drewN n,h.gt⟩
theorem StT.alloc (h:StT w d g A c A2 c2 pr W) (o:Obj):StT w d g A c A2 c2 pr (W.alloc o) :=
 h.below ((aS _ _).alloc (aB _) o)
theorem StT.store (h:StT w d g A c A2 c2 pr W) {A' A2':Option Addr} {c' c2':Nat} {pr':Nat×Nat} (h1:Lt W A' c' pr'.1) (h2:Lt W A2' c2' pr'.2) :
  StT w d g A' c' A2' c2' pr' (((W.setCell ⟨g,0,none⟩ (.bool false)).setCell ⟨g,1,none⟩ (.slice A' (zAc BT pr'.1).length c')).setCell ⟨g,2,none⟩ (.slice A2' (zAc BT pr'.2).length c2')):=by
 have hg:=h.gt;refine ⟨((h.bel.setCell zg _).setCell zg _).setCell zg _,((h.box.far zg _).far zg _).far zg _,?_,h1.setN h.sum ze ze ze _ _ _ _ _ _ _,h2.setN h.sum ze ze ze _ _ _ _ _ _ _,hg⟩
 exact ((h.sum.set 0 _).set 1 _).set 2 _
end
theorem words_dec5 {s:BA} (h:s.data.toList.all dgB=true) (hs:s.size≤2000):(zAc BT (zAz s)).length≤500:=by
 have h1:zAz s<10 ^ s.data.toList.length:=decV_lt fun c hc=>by
  have:=(zDP c).1 (List.all_eq_true.1 h c hc);omega
 have h2:s.data.toList.length≤2000:=by rw [←Lib.size_eq];exact hs
 obtain ⟨q,hq⟩:∃ q,q=500:=⟨_,rfl⟩;rw [←hq];refine zBi zAW (dL h1 ?_)
 rw [BT_eq,show (10000:Nat)=10 ^ 4 from rfl,←Nat.pow_mul]
 exact bY zd za
def LenT (p:Nat×Nat) (k:Nat):Prop:=(zAc BT p.1).length≤1001*k+1∧(zAc BT p.2).length≤1001*k+1∧0<p.2
theorem lenT_succ {p:Nat×Nat} {k n d:Nat} (h:LenT p k) (hn:(zAc BT n).length≤500) (hd:(zAc BT d).length≤500) (hd0:0<d):LenT (addP p (n,d)) (k+1):=by
 obtain ⟨h1,h2,h3⟩:=h;have e1:=zDM p.1 d;have e2:=zDM n p.2;have e3:=len_addT (p.1*d) (n*p.2);have e4:=zDM p.2 d;have hp:0<p.2*d:=dN h3 hd0;have f1:=zAt zAW (dM (p.1*d+n*p.2) (Nat.gcd (p.1*d+n*p.2) (p.2*d)));have f2:=zAt zAW (dM (p.2*d) (Nat.gcd (p.1*d+n*p.2) (p.2*d)));refine ⟨?_,?_,Nat.div_pos (Nat.le_of_dvd hp (Nat.gcd_dvd_right _ _)) (dZ _ hp)⟩
 ·show (zAc BT ((p.1*d+n*p.2) / Nat.gcd (p.1*d+n*p.2) (p.2*d))).length≤_
  omega
 ·show (zAc BT (p.2*d / Nat.gcd (p.1*d+n*p.2) (p.2*d))).length≤_
  omega
theorem plusN_ff (n d m e:Nat):zEa false n d false m e=(false,addP (n,d) (m,e)):=by
 unfold zEa addP zBY;simp
def RelT (w:World) (d:De) (g:Nat) (m:Nat) (i:Value) (wr:World):Prop :=
 ∃ A c A2 c2 k,StT w d g A c A2 c2 (zCS d.sh k) wr∧LenT (zCS d.sh k) k∧k+m=d.sh.length∧i = .int .i64 (k:Nat)∧∀ j,j<k→zAR d.sh j=none
def endT (d:De):Int:=if (zCS d.sh d.sh.length).2<(zCS d.sh d.sh.length).1∨(d.kd=5∧(zCS d.sh d.sh.length).1≠(zCS d.sh d.sh.length).2) then 1 else 0
theorem shF_hit {d:De} {k:Nat} {f:Int} (hne:d.sh≠[]) (h20:¬20<d.sh.length) (hk:k<d.sh.length) (hp:∀ j,j<k→zAR d.sh j=none) (hf:zAR d.sh k=some f):shF d.kd d.sh=f:=by
 unfold shF;rw [aC hne,aC h20,zAU hk hp hf]
theorem shF_none {d:De} (hne:d.sh≠[]) (h20:¬20<d.sh.length) (hp:∀ j,j<d.sh.length→zAR d.sh j=none):shF d.kd d.sh=endT d:=by
 unfold shF endT;rw [aC hne,aC h20,zBf hp]
theorem posB_no {nu:BA} (h:posB nu=false):zDu nu=true∨(zDu nu=false∧zAz (zAY nu)=0):=by
 unfold posB at h
 cases hn:zDu nu<;>simp_all
theorem posB_yes {nu:BA} (h:posB nu=true):zDu nu=false∧zAz (zAY nu)≠0:=by
 unfold posB at h
 cases hn:zDu nu<;>simp_all
theorem checkSharesR_c (d:De) (w:World) (hd:DeOk w d):Calls Tryz.prog 140 #[deV d] w (zAe (.int .i64 (shF d.kd d.sh)) w):=by
 generalize hres:shF d.kd d.sh=res;have HR:=zq hres;clear hres;have HD:=zq hd;clear hd;have HX:Hid (Bx (w.alloc (.cells (deC d) 52)) w.heap.size (deC d) 52):=Bx.new _ _ _;have HB:Hid (Below w.heap.size w (w.alloc (.cells (deC d) 52))):=(aS w.heap.size w).alloc (aB _) _;obtain ⟨W,hW⟩:∃ W,W=w.alloc (.cells (deC d) 52):=⟨_,rfl⟩;rw [←hW] at HX HB;have hsz:w.heap.size<W.heap.size:=HX.o.lt
 go_enter Tryz.func140,Tryz.ntmps140
 by_cases h0:d.sh.length=0
 ·have HS:Hid (res=9):=by
   show _=_
   rw [←HR.o];unfold shF;have:d.sh=[]:=List.length_eq_zero_iff.1 h0;simp [this]
  go_wp2;go_ret
  exact zAe.mk (zAx HS.o.symm) (hW▸HB.o)
 ·by_cases h20:20<d.sh.length
  ·have HS:Hid (res=2):=by
    show _=_
    rw [←HR.o];unfold shF;have:d.sh≠[]:=fun e=>h0 (by rw [e];rfl)
    simp [this,h20]
   go_wp2;go_ret
   exact zAe.mk (zAx HS.o.symm) (hW▸HB.o)
  ·have hne:d.sh≠[]:=fun e=>h0 (by rw [e];rfl)
   have HH:Hid (∀ k f,k<d.sh.length→(∀ j,j<k→zAR d.sh j=none)→zAR d.sh k=some f→res=f):=by
    intro k f hk hp hf;rw [←HR.o];exact shF_hit hne h20 hk hp hf
   have HN:Hid ((∀ j,j<d.sh.length→zAR d.sh j=none)→endT d=res):=by
    intro hp;rw [←HR.o];exact (shF_none hne h20 hp).symm
   have x14:=HX.o.c 14 rfl
   go_wp2_with fail
   rw [←hW];with_reducible refine (Int_0 W).mono ?_
   rintro e w1 ⟨A1,c1,A2,c2,rfl,hn1,hn2,hb1⟩;have HX1:=zq (HX.o.below hb1);have HB1:=zq (zAa HB.o hb1);have hs1:=hb1.size
   have HST:Hid (StT w d w1.heap.size A1 c1 A2 c2 (zCS d.sh 0) (w1.alloc (.cells (nuC false A1 c1 0 A2 c2 1) 45))) :=
    ⟨HB1.o.alloc za _,HX1.o.alloc _,Bx.new _ _ _,hn1.alloc _,hn2.alloc _,za⟩
   have y14:=HX1.o.c 14 rfl;have hlt1:=HX1.o.lt;clear hb1 x14;go_wp2;obtain ⟨b,o,hA,hb0,hc0⟩:=HD.o.shs.at_ za;have HC0:=zq hc0;clear hc0;rw [hA]
   go_loopg [4] d.sh.length (RelT w d w1.heap.size)
   case atStart=>exact ⟨A1,c1,A2,c2,0,HST.o,⟨jm,jm,jm⟩,za,rfl,fun j hj=>absurd hj za⟩
   case round =>
    clear HST HB1 HX1 hn1 hn2 y14 hs1 hW HX HB hsz;obtain ⟨A3,c3,A4,c4,k,hst,hle,hkm,rfl,hpre⟩:=hrel;have HST:=zq hst;have HLE:=zq hle;have HKM:=zq hkm;have HP:=zq hpre;have hkl:k≤d.sh.length:=za;clear hst hle hkm hpre;have yd:wr.cell? ⟨w.heap.size,14,none⟩=some (.slice (some ⟨b,o,none⟩) d.sh.length d.shc):=by rw [←hA];exact HST.o.box.c 14 rfl
    have ye:=HST.o.box.lt
    by_cases hlt:k<d.sh.length
    ·have hc:∀ i (h:i<d.sh.length),wr.cell? ⟨b,o+i*3,none⟩=some (.string (d.sh[i]).pt)∧wr.cell? ⟨b,o+i*3+1,none⟩=some (.string (d.sh[i]).nu)∧wr.cell? ⟨b,o+i*3+2,none⟩=some (.string (d.sh[i]).de) :=
      fun i h=>⟨(HST.o.bel.cell hb0).trans (HC0.o i h).1,(HST.o.bel.cell hb0).trans (HC0.o i h).2.1,(HST.o.bel.cell hb0).trans (HC0.o i h).2.2⟩
     have HCL:=zq hc;obtain ⟨s0,s1,s2⟩:=hc k hlt;clear hc;have hsz1:=(HD.o.shz _ (aJ hlt)).1;have hz1:=(HD.o.shz _ (aJ hlt)).2.1;have hz2:=(HD.o.shz _ (aJ hlt)).2.2
     go_wp2_with fail
     with_reducible refine (zBn d.sh[k].pt _ hsz1).mono ?_
     rintro e w2 ⟨rfl,rfl⟩
     cases hnm:zBe d.sh[k].pt with
     | false =>
      have HS:Hid (res=5):=HH.o k 5 hlt HP.o (by unfold zAR;rw [zDp hlt,aE hnm])
      clear hnm;go_wp2;go_ret
      exact zAe.mk (zAx HS.o.symm) HST.o.bel
     | true =>
      have HNM:=zq hnm;clear hnm;have HPV:Hid (∀ (h:0<k),wr.cell? ⟨b,o+(k - 1)*3,none⟩=some (.string (d.sh[k - 1]'(by omega)).pt)):=fun h=>(HCL.o (k - 1) za).1
      by_cases hk0:0<k
      case' pos =>
       have zp:=HPV.o hk0;have hd:decide ((0:Int)<(k:Int))=true:=zg;have hd0:decide ((0:Int)≤(k:Int) - 1)=true:=zg
       cases hle:sle d.sh[k].pt (d.sh[k - 1]'(by omega)).pt
       case' true =>
        have HS:Hid (res=8):=HH.o k 8 hlt HP.o qb;unfold sle at hle;clear HPV HCL;go_wp2
        go_quiet (fail)
        go_wp2;go_ret
        exact zAe.mk (zAx HS.o.symm) (zAd HST.o.bel _)
       case' false =>
        have HF:Hid (zAR d.sh k=shRest d.sh[k]):=by
         show _=_
         unfold zAR shRest;rw [shD_of hlt,zDp hlt,zDp (show k - 1<d.sh.length by omega),aC qd,aC (fun hh=>jy)]
        unfold sle at hle
      case' neg =>
       have hd:decide ((0:Int)<(k:Int))=false:=zg
       have HF:Hid (zAR d.sh k=shRest d.sh[k]):=by
        show _=_
        unfold zAR shRest;rw [shD_of hlt,zDp hlt,aC qd,aC (fun hh=>hk0 hh.1)]
      all_goals
       clear HPV HCL HNM;go_wp2
       go_quiet (fail)
       go_wp2_with fail
       with_reducible refine (chkRatioR_c d.sh[k].nu d.sh[k].de _ hz1 hz2).mono ?_
       rintro e w3 ⟨rfl,hb3⟩;have HST3:=zq ((HST.o.drewN nq).below hb3);clear yd ye s0 s1 s2 hb3 HST;have yd:w3.cell? ⟨w.heap.size,14,none⟩=some (.slice (some ⟨b,o,none⟩) d.sh.length d.shc):=by rw [←hA];exact HST3.o.box.c 14 rfl
       have ye:=HST3.o.box.lt;have s1:w3.cell? ⟨b,o+k*3+1,none⟩=some (.string (d.sh[k]).nu):=(HST3.o.bel.cell hb0).trans (HC0.o k hlt).2.1;have s2:w3.cell? ⟨b,o+k*3+2,none⟩=some (.string (d.sh[k]).de):=(HST3.o.bel.cell hb0).trans (HC0.o k hlt).2.2
       by_cases hr:zDq d.sh[k].nu d.sh[k].de=0
       case' neg =>
        have HS:Hid (res=zDq d.sh[k].nu d.sh[k].de):=HH.o k _ hlt HP.o (by rw [HF.o];unfold shRest;rw [aE hr])
        have hrb:(zDq d.sh[k].nu d.sh[k].de == 0)=false:=jz;have hrb2:(zDq d.sh[k].nu d.sh[k].de != 0)=true:=jz;clear hr;go_wp2;go_ret
        exact zAe.mk (zAx HS.o.symm) HST3.o.bel
       have HF2:Hid (zAR d.sh k=if posB d.sh[k].nu=false then some 1 else none):=by
        show _=_
        rw [HF.o];unfold shRest;rw [aC (by rw [hr];decide)]
       obtain ⟨q1,q2,q3,q4,q5⟩:=zCe hr;have HLN:Hid ((zAc BT (zAz (zAY d.sh[k].nu))).length≤500):=words_dec5 (zAQ q1).1 q4;have HLD:Hid ((zAc BT (zAz d.sh[k].de)).length≤500):=words_dec5 (zAQ q2).1 q5;have HDP:Hid (0<zAz d.sh[k].de):=den_pos q2 q3;have HFR:=zq (Of_cT d.sh[k].nu d.sh[k].de w3 (zAQ q1).1 q4 (zAQ q2).1 q5);rw [hr];clear q1 q2 q3 q4 q5 hr HF
       go_wp2_with fail
       with_reducible refine HFR.o.mono ?_
       rintro e w4 ⟨A5,c5,A6,c6,rfl,h5,h6,hb4⟩;have HST4:=zq (HST3.o.below hb4);clear yd ye s1 s2 hb4 HST3 HFR;have HXB:Hid (Bx (w4.alloc (.cells (nuC (zDu d.sh[k].nu) A5 c5 (zAz (zAY d.sh[k].nu)) A6 c6 (zAz d.sh[k].de)) 45)) w4.heap.size (nuC (zDu d.sh[k].nu) A5 c5 (zAz (zAY d.sh[k].nu)) A6 c6 (zAz d.sh[k].de)) 45):=Bx.new _ _ _;have HST5:=zq (HST4.o.alloc (.cells (nuC (zDu d.sh[k].nu) A5 c5 (zAz (zAY d.sh[k].nu)) A6 c6 (zAz d.sh[k].de)) 45));have H5:=zq (h5.alloc (.cells (nuC (zDu d.sh[k].nu) A5 c5 (zAz (zAY d.sh[k].nu)) A6 c6 (zAz d.sh[k].de)) 45));have H6:=zq (h6.alloc (.cells (nuC (zDu d.sh[k].nu) A5 c5 (zAz (zAY d.sh[k].nu)) A6 c6 (zAz d.sh[k].de)) 45));clear h5 h6 HST4
       cases hp:posB d.sh[k].nu with
       | false =>
        have HS:Hid (res=1):=HH.o k 1 hlt HP.o (by rw [HF2.o,aE hp])
        rcases posB_no hp with hng | ⟨hng,hv0⟩
        ·rw [hng] at HST5 ⊢
         clear hp hng HXB;go_wp2;go_ret
         exact zAe.mk (zAx HS.o.symm) HST5.o.bel
        ·rw [hng] at HST5 ⊢
         have hv1:decide (zAz (zAY d.sh[k].nu)=0)=true:=cW hv0;clear hp hng HXB hv0
         go_wp2_with fail
         with_reducible refine (isZero_c false A5 A6 c5 c6 (zAz (zAY d.sh[k].nu)) (zAz d.sh[k].de) _).mono ?_
         rintro e w5 ⟨rfl,hb5⟩;have HST6:=zq (HST5.o.below hb5);clear hb5 HST5;rw [hv1];go_wp2;go_ret
         exact zAe.mk (zAx HS.o.symm) HST6.o.bel
       | true =>
        have HF3:Hid (zAR d.sh k=none):=by
         show _=_
         rw [HF2.o,aC (by rw [hp];simp)]
        obtain ⟨hng,hv0⟩:=posB_yes hp;have hv1:decide (zAz (zAY d.sh[k].nu)=0)=false:=cX hv0;rw [hng] at HST5 HXB H5 H6 ⊢;clear hp HF2 hng hv0
        go_wp2_with fail
        with_reducible refine (isZero_c false A5 A6 c5 c6 (zAz (zAY d.sh[k].nu)) (zAz d.sh[k].de) _).mono ?_
        rintro e w5 ⟨rfl,hb5⟩;have HST6:=zq (HST5.o.below hb5);have HXB6:=zq (HXB.o.below hb5);have H56:=zq (H5.o.below hb5);have H66:=zq (H6.o.below hb5);rw [hv1];clear hb5 HST5 HXB H5 H6 hv1;have HSUM:Hid (zCS d.sh (k+1)=addP (zCS d.sh k) (zAz (zAY d.sh[k].nu),zAz d.sh[k].de)):=sumP_succ hlt;have HLS:=zq (lenT_succ HLE.o HLN.o HLD.o HDP.o);have hk20:k<20:=za;have hle1:=HLE.o.1;have hle2:=HLE.o.2.1;have hle3:=HLE.o.2.2;have HADD:=zq (plus_c false false A3 A4 A5 A6 c3 c4 c5 c6 (zCS d.sh k).1 (zCS d.sh k).2 (zAz (zAY d.sh[k].nu)) (zAz d.sh[k].de) w5 HST6.o.n1 HST6.o.n2 H56.o H66.o za za (dI HLN.o za) (dI HLD.o za) hle3 HDP.o);rw [plusN_ff] at HADD;obtain ⟨a0,a1,a2⟩:=HST6.o.sum.t;obtain ⟨x0,x1,x2⟩:=HXB6.o.t;clear hle1 hle2 hle3 HLE HXB6 H56 H66
        go_wp2_with fail
        with_reducible refine HADD.o.mono ?_
        rintro e w6 ⟨A7,c7,A8,c8,rfl,h7,h8,hb6⟩;have HST7:=zq (HST6.o.below hb6);obtain ⟨r0,r1,r2⟩:=HST7.o.sum.t;have fr:=HST7.o.sum.frozen;have rl:=HST7.o.sum.lt;have HST8:=zq (HST7.o.store (pr':=addP (zCS d.sh k) (zAz (zAY d.sh[k].nu),zAz d.sh[k].de)) h7 h8);clear a0 a1 a2 x0 x1 x2 hb6 h7 h8 HST6 HADD;go_wp2
        go_roundg (gk - 1)
        case measure=>have:=HKM.o;omega
        case rel =>
         refine ⟨A7,c7,A8,c8,k+1,by rw [HSUM.o];exact HST8.o,by rw [HSUM.o];exact HLS.o,j1,zi,fun j hj=>?_⟩
         rcases aU j k with h9 | h9
         ·exact HP.o j h9
         ·obtain rfl:j=k:=by omega
          exact HF3.o
    ·have hke:k=d.sh.length:=by omega
     have yf:wr.cell? ⟨w.heap.size,14,none⟩=some (.slice (some ⟨b,o,none⟩) d.sh.length d.shc):=yd;rw [hke] at HST HLE HP;have HE:=zq (HN.o HP.o);have hl1:(zAc BT (zCS d.sh d.sh.length).1).length≤50000000:=dI HLE.o.1 za;have hl2:(zAc BT (zCS d.sh d.sh.length).2).length≤50000000:=dI HLE.o.2.1 za;have HL1:=zq hl1;have HL2:=zq hl2;have HL3:=zq HLE.o.2.2;clear hl1 hl2 HLE HP HC0;obtain ⟨a0,a1,a2⟩:=HST.o.sum.t;go_wp2
     go_region_held3 (fun w'=>w'.cell? ⟨w1.heap.size,0,none⟩=some (.bool false)∧w'.cell? ⟨w1.heap.size,1,none⟩=some (.slice A3 (zAc BT (zCS d.sh d.sh.length).1).length c3)∧w'.cell? ⟨w1.heap.size,2,none⟩=some (.slice A4 (zAc BT (zCS d.sh d.sh.length).2).length c4)) ((refine ⟨?_,?_,?_⟩<;>first | with_reducible assumption | go_simp))
      (first
       | ((go_at_call 14;(with_reducible refine (Int_1 _).mono ?_);rintro e w8 ⟨A7,c7,A8,c8,rfl,h7,h8,hb8⟩;have HST8:=zq ((HST.o.drewN 1).below hb8);obtain ⟨b0,b1,b2⟩:=HST8.o.sum.t;clear hb8))
       | ((go_at_call 18;(with_reducible refine (compare_cT A3 A4 A7 A8 c3 c4 c7 c8 _ _ 1 1 w8 HST8.o.n1 HST8.o.n2 h7 h8 HL1.o HL2.o zd zd HL3.o zd).mono ?_);rintro e w9 ⟨rfl,hb9⟩;have HST9:=zq (HST8.o.below hb9);obtain ⟨d0,d1,d2⟩:=HST9.o.sum.t;clear hb9)))
     clear a0 a1 a2 b0 b1 b2 d0 d1 d2 HST HST8 h7 h8 HL1 HL2;have y2:w9.cell? ⟨w.heap.size,2,none⟩=some (.int .i64 d.kd):=HST9.o.box.c 2 rfl;have yl:=HST9.o.box.lt;have he:=HE.o;unfold endT at he;clear HE HN HH HR
     try simp only [cA,Nat.one_mul]
     rcases Nat.lt_trichotomy (zCS d.sh d.sh.length).2 (zCS d.sh d.sh.length).1 with h | h | h
     ·rw [aE (.inl h)] at he
      rw [zBy h];have HS:=zq he;clear he h;go_wp2;go_ret
      exact zAe.mk (zAx HS.o) HST9.o.bel
     ·rw [aC za] at he
      rw [zCx h.symm];have HS:=zq he;clear he h;go_wp2;go_ret
      exact zAe.mk (zAx HS.o) HST9.o.bel
     ·rw [zBF h]
      by_cases hk:d.kd=5
      ·have hkb:(d.kd == 5)=true:=by rw [hk];rfl
       rw [aE (.inr ⟨hk,za⟩)] at he;have HS:=zq he;clear he h hk;go_wp2;go_ret
       exact zAe.mk (zAx HS.o) HST9.o.bel
      ·have hkb:(d.kd == 5)=false:=by simpa using hk
       rw [aC (fun hh=>hh.elim za (fun q=>hk q.1))] at he
       have HS:=zq he;clear he h hk;go_wp2;go_ret
       exact zAe.mk (zAx HS.o) HST9.o.bel
end Go.Proofs.YtieoifkdobcpiaaGreatDoor
