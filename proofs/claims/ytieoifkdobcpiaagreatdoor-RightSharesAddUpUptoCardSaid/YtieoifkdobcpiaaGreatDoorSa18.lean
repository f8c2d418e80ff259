/- Package right: Check of a title (its walk printed by gen_check.py). -/
import Derived.Test.YtieoifkdobcpiaaGreatDoorSa16
import Derived.Test.YtieoifkdobcpiaaGreatDoorSa17
set_option maxRecDepth 100000
set_option maxHeartbeats 8000000
namespace Go.Proofs.YtieoifkdobcpiaaGreatDoor
open Go.RowKit Dw
def Des (w:World) (A:Option Addr) (l:List De):Prop :=
 0<l.length→∃ b o:Nat,A=some ⟨b,o,none⟩∧b<w.heap.size∧∀ i (h:i<l.length),w.rangeAt b (o+i*16) (deC l[i]).toList∧DeOk w l[i]
theorem Des.below {w w':World} {A:Option Addr} {l:List De} (h:Des w A l) (hb:Below w.heap.size w w'):Des w' A l:=fun hl=>by
 obtain ⟨b,o,rfl,hlt,hc⟩:=h hl;refine ⟨b,o,rfl,Nat.lt_of_lt_of_le hlt hb.size,fun i hi=>⟨fun j v hv=>?_,(hc i hi).2.below hb⟩⟩
 rw [hb.cell hlt];exact (hc i hi).1 j v hv
abbrev tiC (RA:Option Addr) (rc:Nat) (rs:List Rg) (UA:Option Addr) (uc:Nat) (us:List ByteArray) (DA:Option Addr) (dc:Nat) (ds:List De):Array Value:=#[.slice RA rs.length rc,.slice UA us.length uc,.slice DA ds.length dc]
def zBV (rs:List Rg) (us:List ByteArray) (ds:List De) (k:Nat):Option Int :=
 if progF rs us (ds.take k) (ds.getD k default)≠0 then some (progF rs us (ds.take k) (ds.getD k default)) else none
def chkP (rs:List Rg) (us:List ByteArray) (ds:List De):Int :=
 if chkR rs≠0 then chkR rs else if us=[] then 9 else if 20<us.length then 2 else
 match (List.range us.length).findSome? (zBJ us) with
 | some f=>f
 | none=>if 200<ds.length then 2 else match (List.range ds.length).findSome? (zBV rs us ds) with
  | some f=>f
  | none=>0
def chkP2 (rs:List Rg) (us:List ByteArray) (ds:List De):Int:=if 200<ds.length then 2 else match (List.range ds.length).findSome? (zBV rs us ds) with
  | some f=>f
  | none=>0
theorem chkP_un {rs:List Rg} {us:List ByteArray} {ds:List De} {k:Nat} {f:Int} (h0:chkR rs=0) (h1:us≠[]) (h2:¬ 20<us.length) (hk:k<us.length) (hp:∀ j,j<k→zBJ us j=none) (hf:zBJ us k=some f):chkP rs us ds=f:=by
 unfold chkP;rw [if_neg (fun h=>h h0),if_neg h1,if_neg h2,zBo hk hp hf]
theorem chkP_de {rs:List Rg} {us:List ByteArray} {ds:List De} (h0:chkR rs=0) (h1:us≠[]) (h2:¬ 20<us.length) (hp:∀ j,j<us.length→zBJ us j=none):chkP rs us ds=chkP2 rs us ds:=by
 unfold chkP chkP2;rw [if_neg (fun h=>h h0),if_neg h1,if_neg h2,zBx hp]
theorem progF_zero {rs:List Rg} {us:List ByteArray} {pre:List De} {d:De} (h:progF rs us pre d=0):(1≤d.kd∧d.kd≤5)∧zAw d=false∧pre.any (zBH d.id)=false:=by
 unfold progF at h
 split at h
 ·cases h
 unfold prog1 at h
 split at h
 ·cases h
 unfold prog2 at h
 split at h
 ·cases h
 unfold prog3 at h
 split at h
 ·cases h
 next h3 =>
 unfold prog4 at h
 split at h
 ·cases h
 next h4 =>
 unfold prog5 at h
 split at h
 ·cases h
 next h5 =>
 exact ⟨za,by simpa using h5,by simpa using h3⟩
def UnRel (w:World) (us:List ByteArray) (m:Nat) (i:Value) (wr:World):Prop :=
 ∃ k:Nat,k+m=us.length∧i = .int .i64 k∧(∀ j,j<k→zBJ us j=none)∧Below w.heap.size w wr
def DeRel (w0:World) (ci:Nat) (RA:Option Addr) (rc r1 r2 g1 g2:Nat) (AL:Option Addr) (cL:Nat) (rs:List Rg) (UA:Option Addr) (uc:Nat) (us:List ByteArray) (m2 m3 m4 m5 lo hi:Nat) (ds:List De) (m:Nat) (i:Value) (wr:World):Prop :=
 ∃ (k:Nat) (p:De),k+m=ds.length∧i = .int .i64 k∧CS w0 wr ci RA rc r1 r2 g1 g2 AL cL rs UA uc us m2 m3 m4 m5 lo hi p (ds.take k)∧∀ j,j<k→zBV rs us ds j=none
theorem Check_c (RA:Option Addr) (rc:Nat) (rs:List Rg) (UA:Option Addr) (uc:Nat) (us:List ByteArray) (DA:Option Addr) (dc:Nat) (ds:List De) (w:World)
  (hr:Rgs w RA rs) (hu:Strs w UA us) (hd:Des w DA ds) (hz:∀ i (h:i<rs.length),(rs[i]).nm.size≤9223372036854775807) (hz2:∀ i (h:i<us.length),(us[i]).size≤9223372036854775807) :
  Calls Tryz.prog 59 #[.agg (tiC RA rc rs UA uc us DA dc ds)] w (zAe (.int .i64 (chkP rs us ds)) w):=by
 generalize hres:chkP rs us ds=res;have HR:=zq hres;clear hres;have hbW:Below w.heap.size w (w.alloc (.cells (tiC RA rc rs UA uc us DA dc ds) 26)):=(Below.refl _ _).alloc (Nat.le_refl _) _;have HX:Hid (Bx (w.alloc (.cells (tiC RA rc rs UA uc us DA dc ds) 26)) w.heap.size (tiC RA rc rs UA uc us DA dc ds) 26):=Bx.new _ _ _;obtain ⟨W,hW⟩:∃ W,W=w.alloc (.cells (tiC RA rc rs UA uc us DA dc ds) 26):=⟨_,rfl⟩;rw [←hW] at HX hbW;have HB:=zq hbW;have HRG:=zq (hr.below hbW);have HUS:=zq (hu.below hbW);have HDE:=zq (hd.below hbW);clear hbW hr hu hd
 go_enter Tryz.func59,Tryz.ntmps59
 go_wp2_with fail
 rw [←hW];clear hW;have x0:=HX.o.cell (i:=0) rfl;have hsz:=HX.o.lt
 go_wp2_with fail
 with_reducible refine (CheckRegions_c RA rc rs W HRG.o hz).mono ?_
 rintro e w1 ⟨rfl,hb1⟩;have HB1:=zq (zAb HB.o hb1);have HX1:=zq (HX.o.below hb1);have HRG1:=zq (HRG.o.below hb1);have HUS1:=zq (HUS.o.below hb1);have HDE1:=zq (HDE.o.below hb1);clear x0 hsz hb1 HB HX HRG HUS HDE hz
 by_cases hcr:chkR rs=0
 case neg =>
  have hcb:(chkR rs != 0)=true:=by simpa using hcr
  have HS:Hid (res=chkR rs):=by
   show _=_
   rw [←HR.o];unfold chkP;rw [if_pos hcr]
  clear hcr HR;go_wp2;go_ret
  exact zAe.mk (zAW HS.o.symm) HB1.o
 have HCR:=zq hcr;have g:=good_of hcr;rw [hcr];clear hcr;have x1:=HX1.o.cell (i:=1) rfl;have hsz:=HX1.o.lt
 by_cases hu0:us=[]
 ·have hlb:((us.length:Int) == 0)=true:=by rw [hu0];rfl
  have HS:Hid (res=9):=by
   show _=_
   rw [←HR.o];unfold chkP;rw [if_neg (fun h=>h HCR.o),if_pos hu0]
  clear hu0 HR;go_wp2;go_ret
  exact zAe.mk (zAW HS.o.symm) HB1.o
 have hup:0<us.length:=List.length_pos_iff.2 hu0;have hlb:((us.length:Int) == 0)=false:=by rw [beq_eq_false_iff_ne];omega
 have HU0:=zq hu0;clear hu0
 by_cases hu20:20<us.length
 ·have HS:Hid (res=2):=by
   show _=_
   rw [←HR.o];unfold chkP;rw [if_neg (fun h=>h HCR.o),if_neg HU0.o,if_pos hu20]
  have h20:(20:Int)<(us.length:Int):=za;clear hu20 HR;go_wp2;go_ret
  exact zAe.mk (zAW HS.o.symm) HB1.o
 have h20:¬ (20:Int)<(us.length:Int):=za;have HH:Hid (∀ k f,k<us.length→(∀ j,j<k→zBJ us j=none)→zBJ us k=some f→res=f):=fun k f hk hp hf=>by rw [←HR.o];exact chkP_un HCR.o HU0.o hu20 hk hp hf
 have HN:Hid ((∀ j,j<us.length→zBJ us j=none)→res=chkP2 rs us ds):=fun hp=>by rw [←HR.o];exact chkP_de HCR.o HU0.o hu20 hp
 have hul:us.length≤1000000:=za;have HZ2:=zq hz2;clear hu20 HR hz2;obtain ⟨b,o,hA,hbu,hcu⟩:=HUS1.o.at_ hup;have HCU:=zq hcu;clear hcu;go_wp2
 go_loopg [27] us.length (UnRel w1 us)
 case atStart=>exact ⟨0,za,rfl,fun j hj=>absurd hj za,Below.refl _ _⟩
 case round =>
  obtain ⟨k,hkm,rfl,hpre,hbel⟩:=hrel;have HK:=zq hkm;have HP:=zq hpre;have HBL:=zq hbel;have HX2:=zq (HX1.o.below hbel);have hk1:k≤us.length:=za;have hbr:b<wr.heap.size:=Nat.lt_of_lt_of_le hbu hbel.size;clear hkm hpre hbel x1 hsz
  by_cases hlt:k<us.length
  ·have hc0:wr.cell? ⟨b,o+k,none⟩=some (.string us[k]):=(HBL.o.cell hbu).trans (HCU.o k hlt)
   have hzk:=HZ2.o k hlt;subst hA
   go_wp2_with fail
   with_reducible refine (zBP us[k] _ hzk).mono ?_
   rintro e w2 ⟨rfl,hb2⟩;have HBL2:=zq (zAb HBL.o hb2);have HX3:=zq (HX2.o.below hb2);clear hc0 hb2 HBL HX2
   cases hnm:zBp us[k] with
   | false =>
    have HS:Hid (res=5):=HH.o k 5 hlt HP.o (by unfold zBJ;rw [usAt_of hlt,if_pos hnm])
    clear hnm;go_wp2;go_ret
    exact zAe.mk (zAW HS.o.symm) (zAb HB1.o HBL2.o)
   | true =>
    have HNM:=zq hnm;clear hnm;have x1:=HX3.o.cell (i:=1) rfl;have hsz:=HX3.o.lt
    by_cases hk0:0<k
    case pos =>
     have zp:w2.cell? ⟨b,o+(k - 1),none⟩=some (.string (us[k - 1]'(by omega))):=(HBL2.o.cell hbu).trans (HCU.o (k - 1) za)
     have hdk:decide ((0:Int)<(k:Int))=true:=ze
     cases hle:sle us[k] (us[k - 1]'(by omega)) with
     | true =>
      have HS:Hid (res=8):=HH.o k 8 hlt HP.o (by unfold zBJ;rw [usAt_of hlt,usAt_of (show k - 1<us.length by omega),if_neg (by rw [HNM.o];simp),if_pos ⟨hk0,hle⟩])
      unfold sle at hle;go_wp2;go_ret
      exact zAe.mk (zAW HS.o.symm) (zAb HB1.o HBL2.o)
     | false =>
      have HF:Hid (zBJ us k=none):=by
       show _=_
       unfold zBJ;rw [usAt_of hlt,usAt_of (show k - 1<us.length by omega),if_neg (by rw [HNM.o];simp),if_neg (fun hh=>by rw [hle] at hh;cases hh.2)]
      unfold sle at hle;go_wp2
      go_roundg (gk - 1)
      case measure=>have:=HK.o;omega
      case rel =>
       refine ⟨k+1,zh,zi,fun j hj=>?_,HBL2.o⟩
       rcases Nat.lt_or_ge j k with h9 | h9
       ·exact HP.o j h9
       ·obtain rfl:j=k:=by omega
        exact HF.o
    case neg =>
     have hdk:decide ((0:Int)<(k:Int))=false:=ze
     have HF:Hid (zBJ us k=none):=by
      show _=_
      unfold zBJ;rw [usAt_of hlt,if_neg (by rw [HNM.o];simp),if_neg (fun hh=>hk0 hh.1)]
     go_wp2
     go_roundg (gk - 1)
     case measure=>have:=HK.o;omega
     case rel =>
      refine ⟨k+1,zh,zi,fun j hj=>?_,HBL2.o⟩
      rcases Nat.lt_or_ge j k with h9 | h9
      ·exact HP.o j h9
      ·obtain rfl:j=k:=by omega
       exact HF.o
  ·obtain rfl:k=us.length:=by omega
   have HE:Hid (chkP2 rs us ds=res):=(HN.o HP.o).symm;have x2:=HX2.o.cell (i:=2) rfl;have hsz:=HX2.o.lt;have HBW:=zq (zAb HB1.o HBL.o);have HRG2:=zq (HRG1.o.below HBL.o);have HUS2:=zq (HUS1.o.below HBL.o);have HDE2:=zq (HDE1.o.below HBL.o);clear HK HP HN HH HCU HRG1 HUS1 HDE1 HX1 hbr hlt hk1 HBL HB1 hbu hA
   by_cases hd200:200<ds.length
   ·have HS:Hid (res=2):=by
     show _=_
     rw [←HE.o];unfold chkP2;rw [if_pos hd200]
    have h200:(200:Int)<(ds.length:Int):=za;clear hd200 HE;go_wp2;go_ret
    exact zAe.mk (zAW HS.o.symm) HBW.o
   have h200:¬ (200:Int)<(ds.length:Int):=za
   have HH:Hid (∀ k f,k<ds.length→(∀ j,j<k→zBV rs us ds j=none)→zBV rs us ds k=some f→res=f):=fun k f hk hp hf=>by
    rw [←HE.o];unfold chkP2;rw [if_neg hd200,zBo hk hp hf]
   have HN:Hid ((∀ j,j<ds.length→zBV rs us ds j=none)→res=0):=fun hp=>by
    rw [←HE.o];unfold chkP2;rw [if_neg hd200,zBx hp]
   have hdl:ds.length≤200:=za;clear hd200 HE;obtain ⟨w5,hw5⟩:∃ w5:World,w5=wr:=⟨_,rfl⟩;subst hw5
   go_wp2_with fail
   refine region18 g HX2.o HRG2.o HUS2.o rfl zb zb zb rfl zd ⟨_,_,_,rfl⟩ ⟨_,_,_,rfl⟩ ⟨_,_,_,rfl⟩ ⟨_,_,_,rfl⟩ ⟨_,_,_,rfl⟩ ⟨_,_,_,rfl⟩ ⟨_,_,_,rfl⟩ ⟨_,_,_,rfl⟩ ⟨_,_,_,rfl⟩ ⟨_,_,_,rfl⟩ ⟨_,_,_,rfl⟩ ⟨_,_,_,rfl⟩ zb zb zb zb zb zb zb zb zb zb zb ?_
   intro ci r1 r2 g1 g2 AL cL m2 m3 m4 m5 lo hi vals w3 hcs v0 v1 v2 v3 v4 v5 v6 v7 v8 v9 v10;simp [zAi,Act.put,v0,v1,v2,v3,v4,v5,v6,v7,v8,v9,v10,List.range_succ]
   have HCS:=zq hcs;clear v0 v1 v2 v3 v4 v5 v6 v7 v8 v9 v10 vals x2 hsz hcs;have HX4:=zq (HX2.o.below HCS.o.bel);have x2:=HX4.o.cell (i:=2) rfl;have hsz:=HX4.o.lt;go_wp2
   go_loopg [65] ds.length (DeRel w5 ci RA rc r1 r2 g1 g2 AL cL rs UA uc us m2 m3 m4 m5 lo hi ds)
   case atStart=>exact ⟨0,zDe,za,rfl,HCS.o,fun j hj=>absurd hj za⟩
   clear HCS HX4 x2 hsz
   case round =>
    obtain ⟨k,p,hkm,rfl,hcs,hpre⟩:=hrel;have HK:=zq hkm;have HP:=zq hpre;have HC:=zq hcs;have hk1:k≤ds.length:=za;clear hkm hpre hcs
    by_cases hlt:k<ds.length
    ·obtain ⟨b,o,hA,hbu,hcd⟩:=HDE2.o za
     have hdk:=(hcd k hlt);have HOK:=zq hdk.2;have hrange0:=hdk.1;clear hdk hcd;obtain ⟨d,hdd⟩:∃ d,d=ds[k]:=⟨_,rfl⟩;rw [←hdd] at HOK hrange0;have hgd:ds.getD k default=d:=by rw [hdd];simp [List.getD,hlt]
     have htk:ds.take (k+1)=ds.take k++[d]:=by rw [hdd];exact List.take_succ_eq_append_getElem hlt
     have HGD:=zq hgd;have HTK:=zq htk;have hrange:∀ j v,(deC d).toList[j]?=some v→wr.cell? ⟨b,o+k*16+j,none⟩=some v:=fun j v hv=>(HC.o.bel.cell hbu).trans (hrange0 j v hv)
     have HOK2:=zq (HOK.o.below HC.o.bel)
     have hgk:∀ q∈ds.take k,1≤q.kd:=fun q hq=>by
      obtain ⟨j,hj,rfl⟩:=List.getElem_of_mem hq;rw [List.length_take] at hj;have hjk:j<k:=za;have h1:=HP.o j hjk;unfold zBV at h1
      split at h1
      ·cases h1
      ·next h2 =>
       have h3:=(progF_zero (Decidable.not_not.1 h2)).1.1;rw [List.getElem_take];have e:ds.getD j default=ds[j]'(by omega):=by simp [List.getD,show j<ds.length by omega]
       rwa [e] at h3
     have HGK:=zq hgk;have HOT:=zq htk;clear hgd htk hgk hdd HOT HOK hrange0;have c0:wr.cell? ⟨b,o+k*16,none⟩=some (deC d)[0]:=hrange 0 _ rfl;have c1:wr.cell? ⟨b,o+k*16+1,none⟩=some (deC d)[1]:=hrange 1 _ rfl;have c2:wr.cell? ⟨b,o+k*16+2,none⟩=some (deC d)[2]:=hrange 2 _ rfl;have c3:wr.cell? ⟨b,o+k*16+3,none⟩=some (deC d)[3]:=hrange 3 _ rfl;have c4:wr.cell? ⟨b,o+k*16+4,none⟩=some (deC d)[4]:=hrange 4 _ rfl;have c5:wr.cell? ⟨b,o+k*16+5,none⟩=some (deC d)[5]:=hrange 5 _ rfl;have c6:wr.cell? ⟨b,o+k*16+6,none⟩=some (deC d)[6]:=hrange 6 _ rfl;have c7:wr.cell? ⟨b,o+k*16+7,none⟩=some (deC d)[7]:=hrange 7 _ rfl;have c8:wr.cell? ⟨b,o+k*16+8,none⟩=some (deC d)[8]:=hrange 8 _ rfl;have c9:wr.cell? ⟨b,o+k*16+9,none⟩=some (deC d)[9]:=hrange 9 _ rfl;have c10:wr.cell? ⟨b,o+k*16+10,none⟩=some (deC d)[10]:=hrange 10 _ rfl;have c11:wr.cell? ⟨b,o+k*16+11,none⟩=some (deC d)[11]:=hrange 11 _ rfl;have c12:wr.cell? ⟨b,o+k*16+12,none⟩=some (deC d)[12]:=hrange 12 _ rfl;have c13:wr.cell? ⟨b,o+k*16+13,none⟩=some (deC d)[13]:=hrange 13 _ rfl;have c14:wr.cell? ⟨b,o+k*16+14,none⟩=some (deC d)[14]:=hrange 14 _ rfl;have c15:wr.cell? ⟨b,o+k*16+15,none⟩=some (deC d)[15]:=hrange 15 _ rfl;have HC2:=zq (HC.o.below (w':=wr.alloc (.cells (deC d) 52)) ((Below.refl _ _).alloc (Nat.le_refl _) _));have HOK3:=zq (HOK2.o.below (w':=wr.alloc (.cells (deC d) 52)) ((Below.refl _ _).alloc (Nat.le_refl _) _));have HDC:=zq (deed_c w5 ci RA rc r1 r2 g1 g2 AL cL rs UA uc us m2 m3 m4 m5 lo hi p (ds.take k) d _ g hul HGK.o HC2.o HOK3.o);clear hrange HC;subst hA
     go_wp2_with fail
     with_reducible refine HDC.o.mono ?_
     rintro e w6 ⟨rfl,hb6,hn6⟩;have HB6:=zq (zAb HBW.o hb6);have HN6:=zq hn6;clear c0 c1 c2 c3 c4 c5 c6 c7 c8 c9 c10 c11 c12 c13 c14 c15 hb6 hn6 HC2 HOK2 HOK3 HDC
     by_cases hpz:progF rs us (ds.take k) d=0
     case neg =>
      have hpb:(progF rs us (ds.take k) d != 0)=true:=by simpa using hpz
      have HS:Hid (res=progF rs us (ds.take k) d):=HH.o k _ hlt HP.o (by unfold zBV;rw [HGD.o,if_pos hpz])
      clear hpz;go_wp2;go_ret
      exact zAe.mk (zAW HS.o.symm) HB6.o
     have HF:Hid (zBV rs us ds k=none):=by
      show _=_
      unfold zBV;rw [HGD.o,if_neg (fun h=>h hpz)]
     have HC6:=zq (HN6.o hpz);rw [hpz];clear hpz HN6;go_wp2
     go_roundg (gk - 1)
     case measure=>have:=HK.o;omega
     case rel =>
      refine ⟨k+1,d,zh,zi,by rw [HTK.o];exact HC6.o,fun j hj=>?_⟩
      rcases Nat.lt_or_ge j k with h9 | h9
      ·exact HP.o j h9
      ·obtain rfl:j=k:=by omega
       exact HF.o
    ·obtain rfl:k=ds.length:=by omega
     have HS:Hid (res=0):=HN.o HP.o;go_wp2;go_ret
     exact zAe.mk (zAW HS.o.symm) (zAb HBW.o HC.o.bel)
end Go.Proofs.YtieoifkdobcpiaaGreatDoor
