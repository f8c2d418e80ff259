/- Parts of the proof, joined: The reference's checkDeed = chkD. The reference's Check of a title = c. -/
import Derived.Test.YtoaelidmmcbkfaaGreatDoorSt30
import Derived.Test.YtoaelidmmcbkfaaGreatDoorSt31
import Derived.Test.YtoaelidmmcbkfaaGreatDoorSt32
import Derived.Test.YtoaelidmmcbkfaaGreatDoorSt33
import Derived.Test.YtoaelidmmcbkfaaGreatDoorSt34
set_option maxRecDepth 100000
set_option maxHeartbeats 8000000
namespace Go.Proofs.YtoaelidmmcbkfaaGreatDoor
open Go.RowKit Dw
section
variable {w W W':World} {RA:Option Addr} {rc:Nat} {rs:List Rg} {UA:Option Addr} {uc:Nat} {us:List BA} {DA:Option Addr} {dc:Nat} {ds:List De}
end
theorem deedL_len {d:De} (hz:DSz d):(zBN d).length≤2200000:=by
 have h1:=headL_len hz;have zr:=rat_size hz.nu hz.de;have a1:=hz.th;have a2:=hz.fr;have a3:=hz.to_;have a4:=hz.ot;have b1:=zBt (zAd d.kd || decide (d.kd=1)) (s1:=wThing) (s2:=d.th) zc za
 have b2:=zBt (zAd d.kd || decide (d.kd=5)) (s1:=wFrom) (s2:=d.fr) zc za
 have b3:=zBt (zAd d.kd) (s1:=wTo) (s2:=d.to_) zc za;have b4:=zBt (decide (d.kd=2)) (s1:=wPart) (s2:=ratB d.nu d.de) zc zr;have b5:=ln1_len d.ex (s1:=wExcl) zc;have b6:=ln1_len d.sb (s1:=wSub) zc;have b7:=zBt true (s1:=wBegin) (s2:=zBc d.bg) zc (itoa_sz hz.bg.1 hz.bg.2);have b8:=zBt (zAd d.kd) (s1:=wEnd) (s2:=zBc d.en) zc (itoa_sz hz.en.1 hz.en.2);have b9:=zBt (decide (d.kd=4)) (s1:=wEnds) (s2:=d.ot) zc za
 have c1:=flatL_len arL 14000 d.ar fun a ha=>by
  have:=hz.ar a ha;exact zBt true (s1:=if a.out=true then wOut else wIn) (s2:=a.rg) (by split<;>decide) za
 have c2:=flatL_len usL 14000 d.us fun a ha=>by
  have:=hz.us a ha;exact zBt true (s1:=wFor) (s2:=a) zc za
 have c3:=flatL_len shL 14000 d.sh fun a ha=>by
  obtain ⟨k1,k2,k3⟩:=hz.sh a ha;exact ln3_len true (s1:=wShare) (s2:=a.pt) (s3:=ratB a.nu a.de) zc za (rat_size k2 k3)
 have d1:d.ar.length*14000≤100*14000:=cI hz.arl (aB _);have d2:d.us.length*14000≤20*14000:=cI hz.usl (aB _);have d3:d.sh.length*14000≤20*14000:=cI hz.shl (aB _);rw [ifL_true] at b7;unfold zBN preA midA endA;simp only [cS];omega
theorem regL_len {r:Rg} (h1:r.nm.size≤40) (h2:r.par.size≤40):(regL r).length≤100:=by
 have e:(⟨#[114,101,103,105,111,110,32]⟩:BA).data.toList.length=7:=rfl;have e1:r.nm.data.toList.length=r.nm.size:=(Lib.size_eq _).symm;have e2:r.par.data.toList.length=r.par.size:=(Lib.size_eq _).symm
 have e3:(if r.par=emp then [45] else r.par.data.toList:List UInt8).length≤40:=by
  split
  ·simp
  ·omega
 unfold regL;simp only [cS,aM,dA,e,e1];omega
theorem useL_len {u:BA} (h1:u.size≤40):(useL u).length≤50:=by
 have e:(⟨#[117,115,101,32]⟩:BA).data.toList.length=4:=rfl;have e1:u.data.toList.length=u.size:=(Lib.size_eq _).symm;unfold useL;simp only [cS,aM,dA,e,e1];omega
theorem flats_len {rs:List Rg} {us:List BA} {ds:List De} (hc:zDh rs us ds=0) (k:Nat):(zAr regL (rs.take k)).length≤20000∧(zAr useL (us.take k)).length≤1000∧(zAr zBN (ds.take k)).length≤440000000:=by
 obtain ⟨⟨r1,r2⟩,⟨u1,u2⟩,d1,d2⟩:=chkT_size hc;exact ⟨take_len regL 100 200 rs k (fun x hx=>regL_len (r2 x hx).1 (r2 x hx).2) r1,take_len useL 50 20 us k (fun x hx=>useL_len (u2 x hx)) u1,take_len zBN 2200000 200 ds k (fun x hx=>deedL_len (d2 x hx)) d1⟩
def parW (r:Rg):BA:=if r.par=emp then ⟨#[45]⟩ else r.par
theorem reg_eq {pre:BA} (r:Rg) {p:BA} (hp:p=parW r) (he:pre=⟨#[114,101,103,105,111,110,32]⟩):((((pre++r.nm)++⟨#[32]⟩)++p)++⟨#[10]⟩).data.toList=regL r:=by
 unfold regL;rw [hp,he];unfold parW;simp only [zDj]
 split<;>rfl
theorem parW_size {r:Rg} (h:r.par.size≤40):(parW r).size≤40:=by
 unfold parW
 split
 ·decide
 ·exact h
theorem reg_cats (pre nm p:BA) (h0:pre.size=7) (h1:nm.size≤40) (h2:p.size≤40) :
  (∀ W,(Op.stringOp .add pre nm).run Tryz.prog W = .ok (.string (pre++nm)) W)∧(∀ W,(Op.stringOp .add (pre++nm) ⟨#[32]⟩).run Tryz.prog W = .ok (.string ((pre++nm)++⟨#[32]⟩)) W) ∧
  (∀ W,(Op.stringOp .add ((pre++nm)++⟨#[32]⟩) p).run Tryz.prog W = .ok (.string (((pre++nm)++⟨#[32]⟩)++p)) W) ∧
  (∀ W,(Op.stringOp .add (((pre++nm)++⟨#[32]⟩)++p) ⟨#[10]⟩).run Tryz.prog W = .ok (.string ((((pre++nm)++⟨#[32]⟩)++p)++⟨#[10]⟩)) W)∧((((pre++nm)++⟨#[32]⟩)++p)++⟨#[10]⟩).size≤100:=by
 have e1:(⟨#[10]⟩:BA).size=1:=rfl;have e3:(⟨#[32]⟩:BA).size=1:=rfl;refine ⟨zBy _ _ za,zBy _ _ ?_,zBy _ _ ?_,zBy _ _ ?_,?_⟩<;>(simp only [dN,e1,e3];omega)
theorem use_eq {pre:BA} (u:BA) (he:pre=⟨#[117,115,101,32]⟩):((pre++u)++⟨#[10]⟩).data.toList=useL u:=by
 unfold useL;rw [he];simp only [zDj]
theorem use_cats (pre u:BA) (h0:pre.size=4) (h1:u.size≤40) :
  (∀ W,(Op.stringOp .add pre u).run Tryz.prog W = .ok (.string (pre++u)) W)∧(∀ W,(Op.stringOp .add (pre++u) ⟨#[10]⟩).run Tryz.prog W = .ok (.string ((pre++u)++⟨#[10]⟩)) W)∧((pre++u)++⟨#[10]⟩).size≤100:=by
 have e1:(⟨#[10]⟩:BA).size=1:=rfl;refine ⟨zBy _ _ za,zBy _ _ ?_,?_⟩<;>(simp only [dN,e1];omega)
abbrev sfP (p:BA×Int):Value:=.tuple #[.string p.1,.int .i64 p.2]
theorem txF_chk {rs:List Rg} {us:List BA} {ds:List De} (h:zDh rs us ds≠0):txF rs us ds=(emp,zDh rs us ds):=by unfold txF;rw [aE h]
theorem txF_large {rs:List Rg} {us:List BA} {ds:List De} (h:zDh rs us ds=0) (h2:500000<(txtL rs us ds).length):txF rs us ds=(emp,2):=by unfold txF;rw [aC (by rw [h];simp),aE h2]
theorem txF_ok {rs:List Rg} {us:List BA} {ds:List De} (h:zDh rs us ds=0) (h2:¬ 500000<(txtL rs us ds).length):txF rs us ds=(sB (txtL rs us ds),0):=by unfold txF;rw [aC (by rw [h];simp),aC h2];rfl
structure TpS (w W0:World) (B:Nat) (T:Array Value) (l:List UInt8) (W:World):Prop where
 s:NmS B B l W0 W
 bel:Below w.heap.size w W
 box:Bx W w.heap.size T 26
 lt:w.heap.size<B
 hB:B<W0.heap.size
section
variable {w W0 W W':World} {B:Nat} {T:Array Value} {l l':List UInt8}
theorem TpS.below (h:TpS w W0 B T l W) (hb:Below W.heap.size W W'):TpS w W0 B T l W':=⟨h.s.below (bD h.hB) hb,zAb h.bel hb,h.box.below hb,h.lt,h.hB⟩
theorem TpS.wr (h:TpS w W0 B T l W) (hs:NmS B B l' W W'):TpS w W0 B T l' W' :=
 ⟨h.s.trans hs,h.bel.trans (hs.bel.mono (bD h.lt)),hs.box h.box (by have:=h.lt;omega) zc,h.lt,h.hB⟩
theorem TpS.le (h:TpS w W0 B T l W):B<W.heap.size:=cP h.hB h.s.bel.size
theorem TpS.write (h:TpS w W0 B T l W) (s:BA) (hs:s.size≤1000000) (hl:l.length≤1000000000) :
  Calls Tryz.prog 22 #[.pointer (some ⟨B,0,none⟩),.string s] W (fun e W'=>e = .returned (.tuple #[.int .i64 (s.size:Int),.nilIface])∧TpS w W0 B T (l++s.data.toList) W') :=
 (writeS_c B B l s W W ⟨h.s.bld,bN _ _,Lib.OthersKept.refl _ _ _⟩ za (bD h.le)).mono fun _ _ ⟨he,hk⟩=>⟨he,h.wr hk⟩
end
def TpR (w W0:World) (B:Nat) (T:Array Value) (n:Nat) (F:Nat→List UInt8) (m:Nat) (i:Value) (wr:World):Prop :=
 ∃ k:Nat,k+m=n∧i = .int .i64 (k:Nat)∧TpS w W0 B T (F k) wr
def TpD (w W0:World) (B:Nat) (T:Array Value) (n:Nat) (F:Nat→List UInt8) (m:Nat) (i:Value) (wr:World):Prop :=
 ∃ k:Nat,k+m=n∧i = .int .i64 (k:Nat)∧TpS w W0 B T (F k) wr∧(F k).length≤500000
theorem Text_c (RA:Option Addr) (rc:Nat) (rs:List Rg) (UA:Option Addr) (uc:Nat) (us:List BA) (DA:Option Addr) (dc:Nat) (ds:List De) (w:World)
  (hr:Rgs w RA rs) (hu:Strs w UA us) (hd:Des w DA ds) (hz:∀ i (h:i<rs.length),(rs[i]).nm.size≤9223372036854775807) (hz2:∀ i (h:i<us.length),(us[i]).size≤9223372036854775807) (hP:POK w) :
  Calls Tryz.prog 9 #[.agg (tiC RA rc rs UA uc us DA dc ds)] w (zAe (sfP (txF rs us ds)) w):=by
 generalize hres:txF rs us ds=res;have HR:=zq hres;clear hres;have HX:Hid (Bx (w.alloc (.cells (tiC RA rc rs UA uc us DA dc ds) 26)) w.heap.size (tiC RA rc rs UA uc us DA dc ds) 26):=Bx.new _ _ _;have HB:Hid (Below w.heap.size w (w.alloc (.cells (tiC RA rc rs UA uc us DA dc ds) 26))):=(bN _ _).alloc (aB _) _;obtain ⟨W,hW⟩:∃ W,W=w.alloc (.cells (tiC RA rc rs UA uc us DA dc ds) 26):=⟨_,rfl⟩;rw [←hW] at HX HB;have HCK:=zq (CheckT_c RA rc rs UA uc us DA dc ds W (hr.below HB.o) (hu.below HB.o) (hd.below HB.o) hz hz2);have HDw:=zq hd;have HRw:=zq hr;have HUw:=zq hu;have HPK:=zq hP;clear hr hu hd hP
 go_enter Tryz.func9,Tryz.ntmps9
 go_upto_region 1 with fail
 rw [←hW];clear hW
 iterate 2 go_step
 refine wp_load_mid _ _ zy w.heap.size 0 zy (tiC RA rc rs UA uc us DA dc ds).toList _ (rangeB HX.o) Tryz.underlying26 rfl zb ?_
 go_wp2_with fail
 with_reducible refine HCK.o.mono ?_
 rintro e w1 ⟨rfl,hb1⟩;have HB1:=zq (zAb HB.o hb1);have HX1:=zq (HX.o.below hb1);clear hb1 HCK HX HB
 by_cases hc:zDh rs us ds=0
 case neg =>
  have hcb:(zDh rs us ds != 0)=true:=by simpa using hc
  have HS:Hid (res=(emp,zDh rs us ds)):=by show _=_;rw [←HR.o,txF_chk hc]
  clear hc;go_wp2;go_ret2
  exact zAe.mk (by first | (rw [HS.o];rfl) | rw [HS.o]) HB1.o
 have HC:=zq hc;rw [hc];obtain ⟨⟨r1,r2⟩,⟨u1,u2⟩,d1,d2⟩:=chkT_size hc;have HRZ:=zq r2;have HUZ:=zq u2;have HDZ:=zq d2;have HFL:=zq (fun k=>flats_len hc k)
 clear hc r2 u2 d2;have hba:Below w1.heap.size w1 (w1.alloc (.cells #[.pointer none,.slice none 0 0] 69)):=(bN _ _).alloc (aB _) _;obtain ⟨W0,hW0⟩:∃ W,W=w1.alloc (.cells #[.pointer none,.slice none 0 0] 69):=⟨_,rfl⟩;obtain ⟨B,hB⟩:∃ B,B=w1.heap.size:=⟨_,rfl⟩
 have HST:Hid (TpS w W0 B (tiC RA rc rs UA uc us DA dc ds) [] W0):=by
  show TpS _ _ _ _ _ _
  rw [hW0,hB];refine ⟨⟨Lib.IsBuilderF.of (Lib.fresh_isBuilder 69 5 w1),bN _ _,Lib.OthersKept.refl _ _ _⟩,zAb HB1.o hba,HX1.o.below hba,HX1.o.lt,?_⟩
  simp
 clear hba HB1 HX1;go_upto_region 5 with fail
 rw [←hW0,←hB];clear hW0 hB;have x0:=HST.o.box.c 0 rfl;have xs:=HST.o.box.lt;go_wp2;clear x0 xs
 go_loopg [21] rs.length (TpR w W0 B (tiC RA rc rs UA uc us DA dc ds) rs.length (fun k=>zAr regL (rs.take k)))
 case atStart=>exact ⟨0,za,rfl,HST.o⟩
 clear HST
 case round =>
  obtain ⟨k,hkm,rfl,hst⟩:=hrel;have HKM:=zq hkm;have HST:Hid (TpS w W0 B (tiC RA rc rs UA uc us DA dc ds) (zAr regL (rs.take k)) wr):=hst;have hkl:k≤rs.length:=za;have HF:=zq (HFL.o k);clear hkm hst
  by_cases hlt:k<rs.length
  ·obtain ⟨b,o,hA,hb0,hcc⟩:=(HRw.o.below HST.o.bel).at_ za
   subst hA;obtain ⟨q0,q1⟩:=hcc k hlt;obtain ⟨z1,z2⟩:=HRZ.o _ (aI hlt);have HT:Hid (zAr regL (rs.take (k+1))=zAr regL (rs.take k)++regL rs[k]):=zCx regL rs hlt;generalize hr:rs[k]=r at *;obtain ⟨p,hp⟩:∃ p,p=parW r:=⟨_,rfl⟩;obtain ⟨c1,c2,c3,c4,c5⟩:=reg_cats ⟨#[114,101,103,105,111,110,32]⟩ r.nm p rfl z1 (by rw [hp];exact parW_size z2)
   have HE:=zq (reg_eq r hp (pre:=⟨#[114,101,103,105,111,110,32]⟩) rfl);obtain ⟨W1,hW1⟩:∃ W,W=wr.alloc (.cells #[.string r.nm,.string r.par] 56):=⟨_,rfl⟩;have hb1:Below wr.heap.size wr W1:=yp;have HXR:Hid (Bx W1 wr.heap.size #[.string r.nm,.string r.par] 56):=qk;have HST1:=zq (HST.o.below hb1);have HWR:=zq (HST1.o.write ((((⟨#[114,101,103,105,111,110,32]⟩++r.nm)++⟨#[32]⟩)++p)++⟨#[10]⟩) za (by have:=HF.o.1;omega))
   rw [HE.o,←HT.o] at HWR;have HPP:=zq hp;clear hcc hr hp c5 z1 z2 hb1 HE HST;have hbs:b<wr.heap.size:=hb0;go_upto_region 8 with fail
   rw [←hW1];clear hW1 q0 q1 hb0 hbs;have p0:=HXR.o.c 0 rfl;have p1:=HXR.o.c 1 rfl;have ps:=HXR.o.lt
   rcases em_str r.par with ⟨h1,h2⟩ | ⟨h1,h2⟩
   ·have hpe:p=⟨#[45]⟩:=by rw [HPP.o];unfold parW;rw [aE h1]
    clear h1;subst hpe
    go_wp2_with fail
    with_reducible refine HWR.o.mono ?_
    rintro e w3 ⟨rfl,hs3⟩;have HS3:=zq hs3;clear hs3 p0 p1 ps HWR;go_wp2
    go_roundg (gk - 1)
    case measure=>have:=HKM.o;omega
    case rel=>exact ⟨k+1,qm,zx,HS3.o⟩
   ·have hpe:p=r.par:=by rw [HPP.o];unfold parW;rw [aC h1]
    clear h1;subst hpe
    go_wp2_with fail
    with_reducible refine HWR.o.mono ?_
    rintro e w3 ⟨rfl,hs3⟩;have HS3:=zq hs3;clear hs3 p0 p1 ps HWR;go_wp2
    go_roundg (gk - 1)
    case measure=>have:=HKM.o;omega
    case rel=>exact ⟨k+1,qm,zx,HS3.o⟩
  ·have HF1:=zq (show (zAr regL rs).length≤20000 by have:=HF.o.1;rw [zCi regL rs za] at this;exact this)
   rw [zCi regL rs za] at HST;obtain ⟨L1,hL1⟩:∃ L,L=zAr regL rs:=⟨_,rfl⟩;rw [←hL1] at HF1 HST;have HL1:=zq hL1;clear hL1 HF;have x1:=HST.o.box.c 1 rfl;have xs:=HST.o.box.lt;go_wp2;clear x1 xs
   go_loopg [41] us.length (TpR w W0 B (tiC RA rc rs UA uc us DA dc ds) us.length (fun k=>L1++zAr useL (us.take k)))
   case atStart=>exact ⟨0,za,rfl,by simpa [zAr] using HST.o⟩
   clear HST
   case round =>
    obtain ⟨k,hkm,rfl,hst⟩:=hrel;have HKM:=zq hkm;have HST:Hid (TpS w W0 B (tiC RA rc rs UA uc us DA dc ds) (L1++zAr useL (us.take k)) wr):=hst;have hkl:k≤us.length:=za;have HF:=zq (HFL.o k);clear hkm hst
    by_cases hlt:k<us.length
    ·obtain ⟨b,o,hA,hb0,hcc⟩:=(HUw.o.below HST.o.bel).at_ za
     subst hA;have q0:=hcc k hlt;have z1:=HUZ.o _ (aI hlt);have HT:Hid (zAr useL (us.take (k+1))=zAr useL (us.take k)++useL us[k]):=zCx useL us hlt;generalize hr:us[k]=u at *;obtain ⟨c1,c2,c5⟩:=use_cats ⟨#[117,115,101,32]⟩ u rfl z1;have HWR:=zq (HST.o.write ((⟨#[117,115,101,32]⟩++u)++⟨#[10]⟩) za (by rw [cS];have:=HF.o.2.1;have:=HF1.o;omega))
     rw [use_eq u rfl,bT,←HT.o] at HWR;clear hcc hr c5 z1
     go_wp2_with fail
     with_reducible refine HWR.o.mono ?_
     rintro e w3 ⟨rfl,hs3⟩;have HS3:=zq hs3;clear hs3 HWR q0 hb0;go_wp2
     go_roundg (gk - 1)
     case measure=>have:=HKM.o;omega
     case rel=>exact ⟨k+1,qm,zx,HS3.o⟩
    ·have HF2:=zq (show (L1++zAr useL us).length≤21000 by have:=HF.o.2.1;rw [zCi useL us za] at this;rw [cS];have:=HF1.o;omega)
     rw [zCi useL us za] at HST;obtain ⟨L2,hL2⟩:∃ L,L=L1++zAr useL us:=⟨_,rfl⟩;rw [←hL2] at HF2 HST;have HL2:=zq hL2;clear hL2 HF HF1;have x2:=HST.o.box.c 2 rfl;have xs:=HST.o.box.lt;go_wp2;clear x2 xs
     go_loopg [53] ds.length (TpD w W0 B (tiC RA rc rs UA uc us DA dc ds) ds.length (fun k=>L2++zAr zBN (ds.take k)))
     case atStart=>exact ⟨0,za,rfl,by simpa [zAr] using HST.o,by simp [zAr];have:=HF2.o;omega⟩
     clear HST
     case round =>
      obtain ⟨k,hkm,rfl,hst,hln⟩:=hrel;have HKM:=zq hkm;have HST:Hid (TpS w W0 B (tiC RA rc rs UA uc us DA dc ds) (L2++zAr zBN (ds.take k)) wr):=hst;have HLN:Hid ((L2++zAr zBN (ds.take k)).length≤500000):=hln;have hkl:k≤ds.length:=za;clear hkm hst hln
      by_cases hlt:k<ds.length
      ·obtain ⟨b,o,hA,hb0,hc0⟩:=HDw.o za
       subst hA;have hp:=(hc0 k hlt).1;have HOK:=zq (hc0 k hlt).2;have HZD:=zq (HDZ.o _ (aI hlt));have HT:Hid (zAr zBN (ds.take (k+1))=zAr zBN (ds.take k)++zBN ds[k]):=zCx zBN ds hlt
       have HMO:Hid ((L2++zAr zBN (ds.take (k+1))).length≤(txtL rs us ds).length):=by
        show _≤_
        have h1:=flatL_mono zBN ds (k+1);have h2:txtL rs us ds=L2++zAr zBN ds:=by rw [HL2.o,HL1.o];rfl
        rw [h2,cS,cS];omega
       have hrg:wr.rangeAt b (o+k*16) (deC ds[k]).toList:=fun q v hv=>(HST.o.bel.cell (p:=⟨b,o+k*16+q,none⟩) hb0).trans (hp q v hv)
       generalize hr:ds[k]=d at *;obtain ⟨W1,hW1⟩:∃ W,W=wr.alloc (.cells (deC d) 47):=⟨_,rfl⟩;have hb1:Below wr.heap.size wr W1:=yp;have HXD:Hid (Bx W1 wr.heap.size (deC d) 47):=qk;have HST1:=zq (HST.o.below hb1);have HWD:=zq (writeDeed_c w B B (L2++zAr zBN (ds.take k)) d W1 HOK.o HZD.o HPK.o HST1.o.bel (bD HST1.o.lt) HST1.o.s.bld (bD HST1.o.le) HST1.o.le (by have:=HLN.o;omega))
       rw [bT,←HT.o] at HWD;clear hc0 hp hr hb1 HST;go_upto_region 20 with fail
       iterate 5 go_step
       refine wp_load_mid _ _ zy b (o+k*16) zy (deC d).toList _ hrg Tryz.underlying47 rfl zb ?_
       clear hrg;go_upto_region 21 with fail
       rw [←hW1];clear hW1
       iterate 2 go_step
       refine wp_load_mid _ _ zy wr.heap.size 0 zy (deC d).toList _ (rangeD HXD.o) Tryz.underlying47 rfl zb ?_
       go_wp2_with fail
       with_reducible refine HWD.o.mono ?_
       rintro e w3 ⟨rfl,hs3⟩;have HST3:=zq (HST1.o.wr hs3);clear hs3 HWD HXD HST1;obtain ⟨nn,hnn⟩:∃ nn,nn=(L2++zAr zBN (ds.take (k+1))).length:=⟨_,rfl⟩;have hle:=blen_c B B _ w3 HST3.o.s.bld;rw [←hnn] at hle;have HLE:=zq hle;have HNN:=zq hnn;clear hle hnn
       go_wp2_with fail
       with_reducible refine HLE.o.mono ?_
       rintro e w4 ⟨rfl,rfl⟩;clear HLE
       by_cases hq:500000<nn
       ·have HS:Hid (res=(emp,2)):=by show _=_;rw [←HR.o,txF_large HC.o (by have:=HMO.o;have:=HNN.o;omega)]
        have hq1:(500000:Int)<(nn:Int):=za;clear hq;go_wp2;go_ret2
        exact zAe.mk (by first | (rw [HS.o];rfl) | rw [HS.o]) HST3.o.bel
       ·have hq1:¬ (500000:Int)<(nn:Int):=by omega
        have HQ:=zq hq;clear hq;go_wp2
        go_roundg (gk - 1)
        case measure=>have:=HKM.o;omega
        case rel=>exact ⟨k+1,qm,zx,HST3.o,by have:=HQ.o;have:=HNN.o;show (L2++zAr zBN (ds.take (k+1))).length≤500000;omega⟩
      ·have HTX:Hid (L2++zAr zBN (ds.take k)=txtL rs us ds):=by
        show _=_
        rw [zCi zBN ds za,HL2.o,HL1.o];rfl
       rw [HTX.o] at HST HLN;have HS:Hid (res=(sB (txtL rs us ds),0)):=by show _=_;rw [←HR.o,txF_ok HC.o (by have:=HLN.o;omega)]
       obtain ⟨nn,hnn⟩:∃ nn,nn=(txtL rs us ds).length:=⟨_,rfl⟩;have hq1:¬ (500000:Int)<(nn:Int):=by have:=HLN.o;omega
       have hle:=blen_c B B _ wr HST.o.s.bld;rw [←hnn] at hle;have HLE:=zq hle;clear hle hnn;have HSR:=zq (bstr_c B B _ wr HST.o.s.bld (bD HST.o.le))
       go_wp2_with fail
       with_reducible refine HLE.o.mono ?_
       rintro e w4 ⟨rfl,rfl⟩
       go_wp2_with fail
       with_reducible refine HSR.o.mono ?_
       rintro e w5 ⟨rfl,hb5⟩;have HB5:Hid (Below w.heap.size w w5):=HST.o.bel.trans (hb5.mono (bD HST.o.lt));clear hb5;go_wp2;go_ret2
       exact zAe.mk (by first | (rw [HS.o];rfl) | rw [HS.o]) HB5.o
theorem sameWords_c (A A2:Option Addr) (c c2:Nat) (L M:List BA) (w:World) (hn:L.length≤140737488355328) (hn2:M.length≤140737488355328) (h:Strs w A L) (h2:Strs w A2 M) :
  Calls Tryz.prog 57 #[.slice A L.length c,.slice A2 M.length c2] w (GivesEq (L=M) w):=by
 by_cases hl:L.length=M.length
 ·rw [←hl]
  have HL:=zq hl;clear hl
  go_enter Tryz.func57,Tryz.ntmps57
  go_wp2
  go_loopg [5] L.length (EqRel2 w L M)
  case atStart=>exact ⟨0,rfl,0,za,rfl,fun j hj=>absurd hj za⟩
  case round =>
   obtain ⟨q,hw,k,hk,rfl,hpre⟩:=hrel;subst hw;have HK:=zq hk;have HP:=zq hpre;have hk1:k≤L.length:=za;clear hk hpre
   by_cases hlt:k<L.length
   ·have hlt2:k<M.length:=by have:=HL.o;omega
    obtain ⟨b,o,rfl,hb,hc⟩:=h.at_ za;obtain ⟨b2,o2,rfl,hb2,hcm⟩:=h2.at_ za;have hc0:=hc k hlt;have hd0:=hcm k hlt2;clear hc hcm
    by_cases he:L[k]=M[k]
    ·have heb:=zAQ he
     have HE:=zq he;clear he;go_wp2
     go_quiet (fail)
     go_wp2
     go_roundg (gk - 1)
     case measure=>have:=HK.o;omega
     case rel =>
      refine ⟨_,rfl,k+1,zk,zx,fun j hj=>?_⟩
      rcases bK j k with h1 | h1
      ·exact HP.o j h1
      ·obtain rfl:j=k:=by omega
       rw [List.getElem?_eq_getElem hlt,List.getElem?_eq_getElem (by have:=HL.o;omega),HE.o]
    ·have heb:=zAw he
     have HE:Hid (¬ L=M):=by
      show ¬ L=M
      intro e;subst e;exact he rfl
     clear he;go_wp2
     go_quiet (fail)
     go_wp2;go_ret
     exact GivesEq.no HE.o ⟨_,World.drewN_drewN _ _ _⟩
   ·go_wp2
    go_ret
    exact GivesEq.yes (same_of HL.o za HP.o) ⟨_,rfl⟩
 ·have HE:Hid (¬ L=M):=by
   show ¬ L=M
   intro e;subst e;exact hl rfl
  have hlb:((L.length:Int) != (M.length:Int))=true:=zj
  go_enter Tryz.func57,Tryz.ntmps57
  go_wp2;go_ret
  exact GivesEq.no HE.o ⟨0,rfl⟩
def FrRel (_w W:World) (L M:List Rg) (m:Nat) (i:Value) (wr:World):Prop :=
 ∃ q,wr=W.drewN q∧∃ k:Nat,k+m=L.length∧i = .int .i64 k∧∀ j,j<k→L[j]?=M[j]?
theorem sameFrame_c (RA:Option Addr) (rc:Nat) (rs:List Rg) (UA:Option Addr) (uc:Nat) (us:List BA) (DA:Option Addr) (dc:Nat) (ds:List De)
  (RA2:Option Addr) (rc2:Nat) (rs2:List Rg) (UA2:Option Addr) (uc2:Nat) (us2:List BA) (DA2:Option Addr) (dc2:Nat) (ds2:List De) (w:World)
  (hr:Rgs w RA rs) (hu:Strs w UA us) (hr2:Rgs w RA2 rs2) (hu2:Strs w UA2 us2) (hn:rs.length≤140737488355328∧us.length≤140737488355328) (hn2:rs2.length≤140737488355328∧us2.length≤140737488355328) :
  Calls Tryz.prog 19 #[.agg (tiC RA rc rs UA uc us DA dc ds),.agg (tiC RA2 rc2 rs2 UA2 uc2 us2 DA2 dc2 ds2)] w (zAv (rs=rs2∧us=us2) w):=by
 have HX:Hid (Bx ((w.alloc (.cells (tiC RA rc rs UA uc us DA dc ds) 26)).alloc (.cells (tiC RA2 rc2 rs2 UA2 uc2 us2 DA2 dc2 ds2) 26)) w.heap.size (tiC RA rc rs UA uc us DA dc ds) 26):=(Bx.new _ _ _).alloc _;have HY:Hid (Bx ((w.alloc (.cells (tiC RA rc rs UA uc us DA dc ds) 26)).alloc (.cells (tiC RA2 rc2 rs2 UA2 uc2 us2 DA2 dc2 ds2) 26)) (w.heap.size+1) (tiC RA2 rc2 rs2 UA2 uc2 us2 DA2 dc2 ds2) 26):=Bx.new1 _ _ _ _;have HB:Hid (Below w.heap.size w ((w.alloc (.cells (tiC RA rc rs UA uc us DA dc ds) 26)).alloc (.cells (tiC RA2 rc2 rs2 UA2 uc2 us2 DA2 dc2 ds2) 26))):=((bN w.heap.size w).alloc (aB _) _).alloc zg _;obtain ⟨W,hW⟩:∃ W,W=(w.alloc (.cells (tiC RA rc rs UA uc us DA dc ds) 26)).alloc (.cells (tiC RA2 rc2 rs2 UA2 uc2 us2 DA2 dc2 ds2) 26):=⟨_,rfl⟩;rw [←hW] at HX HY HB;have h:=hr.below HB.o;have h2:=hr2.below HB.o;have HU:=zq (hu.below HB.o);have HU2:=zq (hu2.below HB.o);clear hr hr2 hu hu2;obtain ⟨hn1,hnu⟩:=hn;obtain ⟨hn3,hnu2⟩:=hn2
 go_enter Tryz.func19,Tryz.ntmps19
 iterate 13 go_step
 rw [←hW];clear hW;have hsx:=HX.o.lt;have hsy:=HY.o.lt;have x0:=HX.o.c 0 rfl;have x1:=HX.o.c 1 rfl;have y0:W.cell? ⟨w.heap.size+1,0,none⟩=some (.slice RA2 rs2.length rc2):=HY.o.c 0 rfl;have y1:=HY.o.c 1 rfl;clear HX HY
 by_cases hl:rs.length=rs2.length
 case neg =>
  have HE:Hid (¬ (rs=rs2∧us=us2)):=fun e=>hl (by rw [e.1])
  have hlb:((rs.length:Int) != (rs2.length:Int))=true:=zj;clear hl;go_wp2;go_ret
  exact zAv.no HE.o HB.o
 rw [←hl] at y0;have HL:=zq hl;clear hl
 go_wp2_with fail
 with_reducible refine (sameWords_c UA UA2 uc uc2 us us2 _ hnu hnu2 HU.o HU2.o).mono ?_
 rintro x wx ⟨r,rfl,hrr,n,rfl⟩
 by_cases hus:us=us2
 case neg =>
  have hrf:r=false:=by
   cases hh:r with
   | false=>rfl
   | true=>exact absurd (hrr.1 hh) hus
  subst hrf;have HE:Hid (¬ (rs=rs2∧us=us2)):=fun e=>hus e.2
  clear hrr hus;go_wp2;go_ret
  exact zAv.no HE.o (zAc HB.o _)
 have hrt:r=true:=hrr.2 hus;subst hrt;have HUS:=zq hus;clear hrr hus;go_wp2
 go_loopg [5] rs.length (FrRel w W rs rs2)
 case atStart=>exact ⟨n,rfl,0,za,rfl,fun j hj=>absurd hj za⟩
 case round =>
  obtain ⟨q,hw,k,hk,rfl,hpre⟩:=hrel;subst hw;have HK:=zq hk;have HP:=zq hpre;have hk1:k≤rs.length:=za;clear hk hpre
  by_cases hlt:k<rs.length
  ·have hlt2:k<rs2.length:=by have:=HL.o;omega
   obtain ⟨b,o,rfl,hb,hc⟩:=h.at_ za;obtain ⟨b2,o2,rfl,hb2,hcm⟩:=h2.at_ za;have hc0:=(hc k hlt).1;have hc1:=(hc k hlt).2;have hd0:=(hcm k hlt2).1;have hd1:=(hcm k hlt2).2;clear hc hcm
   by_cases he:rs[k]=rs2[k]
   ·have HE:=zq he
    rw [←he] at hd0 hd1;clear he;go_wp2
    go_quiet (fail)
    go_wp2
    go_roundg (gk - 1)
    case measure=>have:=HK.o;omega
    case rel =>
     refine ⟨_,rfl,k+1,zk,zx,fun j hj=>?_⟩
     rcases bK j k with h1 | h1
     ·exact HP.o j h1
     ·obtain rfl:j=k:=by omega
      rw [List.getElem?_eq_getElem hlt,List.getElem?_eq_getElem (by have:=HL.o;omega),HE.o]
   ·have HE:Hid (¬ (rs=rs2∧us=us2)):=fun e=>by
     obtain ⟨e,_⟩:=e;subst e;exact he rfl
    by_cases h0:(rs[k]).nm=(rs2[k]).nm
    ·have h3:¬ (rs[k]).par=(rs2[k]).par:=fun e=>he (by
      cases hx:rs[k]
      cases hy:rs2[k]
      simp_all)
     have hb:=zAw h3;rw [←h0] at hd0;clear he h0 h3;go_wp2
     go_quiet (fail)
     go_wp2;go_ret
     exact zAv.no HE.o (zAc (zAc HB.o _) _)
    ·have hb:=zAw h0
     clear he h0;go_wp2
     go_quiet (fail)
     go_wp2;go_ret
     exact zAv.no HE.o (zAc (zAc HB.o _) _)
  ·go_wp2
   go_ret
   exact zAv.yes ⟨same_of HL.o za HP.o,HUS.o⟩ (zAc HB.o _)
theorem rat_neq2 (a b c d:BA) (W:World):(binOp .neq 43 (.agg #[.string a,.string b]) (.agg #[.string c,.string d])).run Tryz.prog W = .ok (.bool (!((a.toList == c.toList)&&(b.toList == d.toList)))) W:=by
 have h1:=Tryz.underlying43;simp [go_sem,binOp,Op.equal,Op.maxDepth]
 by_cases h2:a.toList=c.toList
 ·by_cases h3:b.toList=d.toList
  ·simp [h2,h3]
  ·simp [h2,h3]
 ·simp [h2]
theorem ratn_yes {a b c d:BA} (h:a=c∧b=d) (W:World):(binOp .neq 43 (.agg #[.string a,.string b]) (.agg #[.string c,.string d])).run Tryz.prog W = .ok (.bool false) W:=by
 rw [rat_neq2,zAQ h.1,zAQ h.2];rfl
theorem ratn_no {a b c d:BA} (h:¬ (a=c∧b=d)) (W:World):(binOp .neq 43 (.agg #[.string a,.string b]) (.agg #[.string c,.string d])).run Tryz.prog W = .ok (.bool true) W:=by
 rw [rat_neq2]
 by_cases h1:a=c
 ·rw [zAw (fun e=>h ⟨h1,e⟩)];simp
 ·rw [zAw h1];rfl
def SdRel {α:Type} (W:World) (L M:List α) (m:Nat) (i:Value) (wr:World):Prop :=
 ∃ q,wr=W.drewN q∧∃ k:Nat,k+m=L.length∧i = .int .i64 k∧∀ j,j<k→L[j]?=M[j]?
theorem sameDeed_c (d e:De) (w:World) (hd:DeOk w d) (he:DeOk w e):Calls Tryz.prog 20 #[deV d,deV e] w (zAv (zBp d e) w):=by
 have HX:Hid (Bx ((w.alloc (.cells (deC d) 47)).alloc (.cells (deC e) 47)) w.heap.size (deC d) 47):=(Bx.new _ _ _).alloc _;have HY:Hid (Bx ((w.alloc (.cells (deC d) 47)).alloc (.cells (deC e) 47)) (w.heap.size+1) (deC e) 47):=Bx.new1 _ _ _ _;have HB:Hid (Below w.heap.size w ((w.alloc (.cells (deC d) 47)).alloc (.cells (deC e) 47))):=((bN w.heap.size w).alloc (aB _) _).alloc zg _;obtain ⟨W,hW⟩:∃ W,W=(w.alloc (.cells (deC d) 47)).alloc (.cells (deC e) 47):=⟨_,rfl⟩;rw [←hW] at HX HY HB;have HD:=zq (hd.below HB.o);have HE:=zq (he.below HB.o);have hl1:=HD.o.lens.1;have hl2:=HD.o.lens.2.2;clear hd he
 go_enter Tryz.func20,Tryz.ntmps20
 simp only [List.append]
 iterate 13 go_step
 rw [←hW];clear hW;have hsx:=HX.o.lt;have hsy:=HY.o.lt;have x0:=HX.o.c 0 rfl;have x1:=HX.o.c 1 rfl;have x2:=HX.o.c 2 rfl;have x3:=HX.o.c 3 rfl;have x4:=HX.o.c 4 rfl;have x5:=HX.o.c 5 rfl;have x6:=HX.o.c 6 rfl;have x7:=HX.o.c 7 rfl;have x8:=HX.o.c 8 rfl;have x9:=HX.o.c 9 rfl;have x10:=HX.o.c 10 rfl;have x11:=HX.o.c 11 rfl;have x12:=HX.o.c 12 rfl;have x13:=HX.o.c 13 rfl;have x14:=HX.o.c 14 rfl;have x15:=HX.o.c 15 rfl;have y0:=HY.o.c 0 rfl;have y1:=HY.o.c 1 rfl;have y2:=HY.o.c 2 rfl;have y3:=HY.o.c 3 rfl;have y4:=HY.o.c 4 rfl;have y5:=HY.o.c 5 rfl;have y6:=HY.o.c 6 rfl;have y7:=HY.o.c 7 rfl;have y8:=HY.o.c 8 rfl;have y9:=HY.o.c 9 rfl;have y10:W.cell? ⟨w.heap.size+1,10,none⟩=some (.slice e.arA e.ar.length e.arc):=HY.o.c 10 rfl;have y11:=HY.o.c 11 rfl;have y12:=HY.o.c 12 rfl;have y13:=HY.o.c 13 rfl;have y14:W.cell? ⟨w.heap.size+1,14,none⟩=some (.slice e.shA e.sh.length e.shc):=HY.o.c 14 rfl;have y15:=HY.o.c 15 rfl;clear HX HY
 by_cases t0:d.id=e.id
 case neg =>
  have q0:=zAw t0
  have HS:Hid (¬ zBp d e):=fun hs=>by
   unfold zBp at hs;exact t0 hs.1
  clear t0;go_wp2;go_ret
  exact zAv.no HS.o ze
 have q0:=zAQ t0
 by_cases t1:d.day=e.day
 case neg =>
  have q1:(d.day != e.day)=true:=by simpa using t1
  have HS:Hid (¬ zBp d e):=fun hs=>by
   unfold zBp at hs;exact t1 hs.2.1
  clear t0 t1;go_wp2;go_ret
  exact zAv.no HS.o ze
 have q1:(d.day != e.day)=false:=by simpa using t1
 by_cases t2:d.kd=e.kd
 case neg =>
  have q2:(d.kd != e.kd)=true:=by simpa using t2
  have HS:Hid (¬ zBp d e):=fun hs=>by
   unfold zBp at hs;exact t2 hs.2.2.1
  clear t0 t1 t2;go_wp2;go_ret
  exact zAv.no HS.o ze
 have q2:(d.kd != e.kd)=false:=by simpa using t2
 by_cases t3:d.th=e.th
 case neg =>
  have q3:=zAw t3
  have HS:Hid (¬ zBp d e):=fun hs=>by
   unfold zBp at hs;exact t3 hs.2.2.2.1
  clear t0 t1 t2 t3;go_wp2;go_ret
  exact zAv.no HS.o ze
 have q3:=zAQ t3
 by_cases t4:d.fr=e.fr
 case neg =>
  have q4:=zAw t4
  have HS:Hid (¬ zBp d e):=fun hs=>by
   unfold zBp at hs;exact t4 hs.2.2.2.2.1
  clear t0 t1 t2 t3 t4;go_wp2;go_ret
  exact zAv.no HS.o ze
 have q4:=zAQ t4
 by_cases t5:d.to_=e.to_
 case neg =>
  have q5:=zAw t5
  have HS:Hid (¬ zBp d e):=fun hs=>by
   unfold zBp at hs;exact t5 hs.2.2.2.2.2.1
  clear t0 t1 t2 t3 t4 t5;go_wp2;go_ret
  exact zAv.no HS.o ze
 have q5:=zAQ t5
 by_cases t6:(d.nu=e.nu∧d.de=e.de)
 case neg =>
  have q6:=ratn_no t6
  have HS:Hid (¬ zBp d e):=fun hs=>by
   unfold zBp at hs;exact t6 hs.2.2.2.2.2.2.1
  clear t0 t1 t2 t3 t4 t5 t6;go_wp2;go_ret
  exact zAv.no HS.o ze
 have q6:=ratn_yes t6
 by_cases t7:d.ex=e.ex
 case neg =>
  have q7:(d.ex != e.ex)=true:=by simpa using t7
  have q7b:(d.ex == e.ex)=false:=by simpa using t7
  have q7c:(d.ex ^^ e.ex)=true:=by simpa using t7
  have HS:Hid (¬ zBp d e):=fun hs=>by
   unfold zBp at hs;exact t7 hs.2.2.2.2.2.2.2.1
  clear t0 t1 t2 t3 t4 t5 t6 t7;go_wp2;go_ret
  exact zAv.no HS.o ze
 have q7:(d.ex != e.ex)=false:=by simpa using t7
 have q7b:(d.ex == e.ex)=true:=by simpa using t7
 have q7c:(d.ex ^^ e.ex)=false:=by simpa using t7
 by_cases t8:d.sb=e.sb
 case neg =>
  have q8:(d.sb != e.sb)=true:=by simpa using t8
  have q8b:(d.sb == e.sb)=false:=by simpa using t8
  have q8c:(d.sb ^^ e.sb)=true:=by simpa using t8
  have HS:Hid (¬ zBp d e):=fun hs=>by
   unfold zBp at hs;exact t8 hs.2.2.2.2.2.2.2.2.1
  clear t0 t1 t2 t3 t4 t5 t6 t7 t8;go_wp2;go_ret
  exact zAv.no HS.o ze
 have q8:(d.sb != e.sb)=false:=by simpa using t8
 have q8b:(d.sb == e.sb)=true:=by simpa using t8
 have q8c:(d.sb ^^ e.sb)=false:=by simpa using t8
 by_cases t9:d.bg=e.bg
 case neg =>
  have q9:(d.bg != e.bg)=true:=by simpa using t9
  have HS:Hid (¬ zBp d e):=fun hs=>by
   unfold zBp at hs;exact t9 hs.2.2.2.2.2.2.2.2.2.2.2.1
  clear t0 t1 t2 t3 t4 t5 t6 t7 t8 t9;go_wp2;go_ret
  exact zAv.no HS.o ze
 have q9:(d.bg != e.bg)=false:=by simpa using t9
 by_cases t10:d.en=e.en
 case neg =>
  have q10:(d.en != e.en)=true:=by simpa using t10
  have HS:Hid (¬ zBp d e):=fun hs=>by
   unfold zBp at hs;exact t10 hs.2.2.2.2.2.2.2.2.2.2.2.2.1
  clear t0 t1 t2 t3 t4 t5 t6 t7 t8 t9 t10;go_wp2;go_ret
  exact zAv.no HS.o ze
 have q10:(d.en != e.en)=false:=by simpa using t10
 by_cases t11:d.ot=e.ot
 case neg =>
  have q11:=zAw t11
  have HS:Hid (¬ zBp d e):=fun hs=>by
   unfold zBp at hs;exact t11 hs.2.2.2.2.2.2.2.2.2.2.2.2.2.2
  clear t0 t1 t2 t3 t4 t5 t6 t7 t8 t9 t10 t11;go_wp2;go_ret
  exact zAv.no HS.o ze
 have q11:=zAQ t11
 go_wp2_with fail
 with_reducible refine (sameWords_c d.usA e.usA d.usc e.usc d.us e.us _ HD.o.lens.2.1 HE.o.lens.2.1 HD.o.uses HE.o.uses).mono ?_
 rintro x wx ⟨r,rfl,hrr,n,rfl⟩
 by_cases t12:d.us=e.us
 case neg =>
  have hrf:r=false:=by
   cases hh:r with
   | false=>rfl
   | true=>exact absurd (hrr.1 hh) t12
  subst hrf;clear hrr
  have HS:Hid (¬ zBp d e):=fun hs=>by
   unfold zBp at hs;exact t12 hs.2.2.2.2.2.2.2.2.2.2.1
  clear t0 t1 t2 t3 t4 t5 t6 t7 t8 t9 t10 t11 t12;go_wp2;go_ret
  exact zAv.no HS.o ze
 have hrt:r=true:=hrr.2 t12;subst hrt;clear hrr
 by_cases t13:d.ar.length=e.ar.length
 case neg =>
  have q13:((d.ar.length:Int) != (e.ar.length:Int))=true:=zj
  have HS:Hid (¬ zBp d e):=fun hs=>by
   unfold zBp at hs;exact t13 (by rw [hs.2.2.2.2.2.2.2.2.2.1])
  clear t0 t1 t2 t3 t4 t5 t6 t7 t8 t9 t10 t11 t12 t13;go_wp2;go_ret
  exact zAv.no HS.o ze
 rw [←t13] at y10
 by_cases t14:d.sh.length=e.sh.length
 case neg =>
  have q14:((d.sh.length:Int) != (e.sh.length:Int))=true:=zj
  have HS:Hid (¬ zBp d e):=fun hs=>by
   unfold zBp at hs;exact t14 (by rw [hs.2.2.2.2.2.2.2.2.2.2.2.2.2.1])
  clear t0 t1 t2 t3 t4 t5 t6 t7 t8 t9 t10 t11 t12 t13 t14;go_wp2;go_ret
  exact zAv.no HS.o ze
 rw [←t14] at y14;have HT:Hid (d.ar=e.ar→d.sh=e.sh→zBp d e):=fun h9 h13=>⟨t0,t1,t2,t3,t4,t5,t6,t7,t8,h9,t12,t9,t10,h13,t11⟩
 have HL1:=zq t13;have HL2:=zq t14;clear t0 t1 t2 t3 t4 t5 t6 t7 t8 t9 t10 t11 t12 t13 t14;go_wp2;clear q0 q1 q2 q3 q4 q5 q6 q7 q8 q7b q7c q8b q8c q9 q10 q11 x0 x1 x2 x3 x4 x5 x6 x7 x8 x9 x11 x12 x13 x15 y0 y1 y2 y3 y4 y5 y6 y7 y8 y9 y11 y12 y13 y15
 go_loopg [5] d.ar.length (SdRel W d.ar e.ar)
 case atStart=>exact ⟨_,rfl,0,za,rfl,fun j hj=>absurd hj za⟩
 case round =>
  obtain ⟨q,hw,k,hk,rfl,hpre⟩:=hrel;subst hw;have HK:=zq hk;have HP:=zq hpre;have hk1:k≤d.ar.length:=za;clear hk hpre
  by_cases hlt:k<d.ar.length
  ·have hlt2:k<e.ar.length:=by have:=HL1.o;omega
   obtain ⟨b,o,hA,hb,hc⟩:=HD.o.ars.at_ za;obtain ⟨b2,o2,hA2,hb2,hcm⟩:=HE.o.ars.at_ za;have hc0:=(hc k hlt).1;have hd0:=(hcm k hlt2).1;have hc1:=(hc k hlt).2;have hd1:=(hcm k hlt2).2;clear hc hcm;rw [hA2] at y10;have x10:W.cell? ⟨w.heap.size,10,none⟩=some (.slice (some ⟨b,o,none⟩) d.ar.length d.arc):=by rw [←hA];exact x10
   by_cases hee:d.ar[k]=e.ar[k]
   ·have HE2:=zq hee
    rw [←hee] at hd0 hd1;clear hee;go_wp2
    go_quiet (fail)
    go_wp2
    go_roundg (gk - 1)
    case measure=>have:=HK.o;omega
    case rel =>
     refine ⟨_,rfl,k+1,zk,zx,fun j hj=>?_⟩
     rcases bK j k with h1 | h1
     ·exact HP.o j h1
     ·obtain rfl:j=k:=by omega
      rw [List.getElem?_eq_getElem hlt,List.getElem?_eq_getElem hlt2,HE2.o]
   ·have HN:Hid (¬ zBp d e):=fun hs=>by
     unfold zBp at hs;have h:=hs.2.2.2.2.2.2.2.2.2.1;exact hee (by simp only [h])
    by_cases h0:(d.ar[k]).rg=(e.ar[k]).rg
    case neg =>
     have hb:=zAw h0;clear hee h0;go_wp2
     go_quiet (fail)
     go_wp2;go_ret
     exact zAv.no HN.o ze
    rw [←h0] at hd0
    have h1:¬ (d.ar[k]).out=(e.ar[k]).out:=fun e2=>hee (by
     cases hx:d.ar[k]
     cases hy:e.ar[k]
     simp_all)
    have hb:=bool_ne h1;clear hee h0 h1;go_wp2
    go_quiet (fail)
    go_wp2;go_ret
    exact zAv.no HN.o ze
  ·have HQ:Hid (d.ar=e.ar):=same_of HL1.o za HP.o
   clear HK HP;have HQ1:=HQ;clear HQ;go_wp2;clear hlt hk1
   go_loopg [6] d.sh.length (SdRel W d.sh e.sh)
   case atStart=>exact ⟨_,rfl,0,za,rfl,fun j hj=>absurd hj za⟩
   case round =>
    obtain ⟨q,hw,k,hk,rfl,hpre⟩:=hrel;subst hw;have HK:=zq hk;have HP:=zq hpre;have hk1:k≤d.sh.length:=za;clear hk hpre
    by_cases hlt:k<d.sh.length
    ·have hlt2:k<e.sh.length:=by have:=HL2.o;omega
     obtain ⟨b,o,hA,hb,hc⟩:=HD.o.shs.at_ za;obtain ⟨b2,o2,hA2,hb2,hcm⟩:=HE.o.shs.at_ za;have hc0:=(hc k hlt).1;have hd0:=(hcm k hlt2).1;have hc1:=(hc k hlt).2.1;have hd1:=(hcm k hlt2).2.1;have hc2:=(hc k hlt).2.2;have hd2:=(hcm k hlt2).2.2;clear hc hcm;rw [hA2] at y14;have x14:W.cell? ⟨w.heap.size,14,none⟩=some (.slice (some ⟨b,o,none⟩) d.sh.length d.shc):=by rw [←hA];exact x14
     by_cases hee:d.sh[k]=e.sh[k]
     ·have HE2:=zq hee
      rw [←hee] at hd0 hd1 hd2;clear hee;go_wp2
      go_quiet (fail)
      go_wp2
      go_roundg (gk - 1)
      case measure=>have:=HK.o;omega
      case rel =>
       refine ⟨_,rfl,k+1,zk,zx,fun j hj=>?_⟩
       rcases bK j k with h1 | h1
       ·exact HP.o j h1
       ·obtain rfl:j=k:=by omega
        rw [List.getElem?_eq_getElem hlt,List.getElem?_eq_getElem hlt2,HE2.o]
     ·have HN:Hid (¬ zBp d e):=fun hs=>by
       unfold zBp at hs;have h:=hs.2.2.2.2.2.2.2.2.2.2.2.2.2.1;exact hee (by simp only [h])
      by_cases h0:(d.sh[k]).pt=(e.sh[k]).pt
      case neg =>
       have hb:=zAw h0;clear hee h0;go_wp2
       go_quiet (fail)
       go_wp2;go_ret
       exact zAv.no HN.o ze
      rw [←h0] at hd0
      by_cases h1:(d.sh[k]).nu=(e.sh[k]).nu
      case neg =>
       have hb:=zAw h1;clear hee h0 h1;go_wp2
       go_quiet (fail)
       go_wp2;go_ret
       exact zAv.no HN.o ze
      rw [←h1] at hd1
      have h2:¬ (d.sh[k]).de=(e.sh[k]).de:=fun e2=>hee (by
       cases hx:d.sh[k]
       cases hy:e.sh[k]
       simp_all)
      have hb:=zAw h2;clear hee h0 h1 h2;go_wp2
      go_quiet (fail)
      go_wp2;go_ret
      exact zAv.no HN.o ze
    ·have HQ:Hid (d.sh=e.sh):=same_of HL2.o za HP.o
     clear HK HP;go_wp2;go_ret
     exact zAv.yes (HT.o HQ1.o HQ.o) ze
def SameT (rs:List Rg) (us:List BA) (ds:List De) (rs2:List Rg) (us2:List BA) (ds2:List De):Prop :=
 rs=rs2∧us=us2∧ds.length=ds2.length∧∀ i,i<ds.length→zBp (ds.getD i default) (ds2.getD i default)
def TtRel (W:World) (ds ds2:List De) (m:Nat) (i:Value) (wr:World):Prop :=
 ∃ k:Nat,k+m=ds.length∧i = .int .i64 k∧Below W.heap.size W wr∧∀ j,j<k→zBp (ds.getD j default) (ds2.getD j default)
theorem sameTitle_c (RA:Option Addr) (rc:Nat) (rs:List Rg) (UA:Option Addr) (uc:Nat) (us:List BA) (DA:Option Addr) (dc:Nat) (ds:List De)
  (RA2:Option Addr) (rc2:Nat) (rs2:List Rg) (UA2:Option Addr) (uc2:Nat) (us2:List BA) (DA2:Option Addr) (dc2:Nat) (ds2:List De) (w:World)
  (hr:Rgs w RA rs) (hu:Strs w UA us) (hd:Des w DA ds) (hr2:Rgs w RA2 rs2) (hu2:Strs w UA2 us2) (hd2:Des w DA2 ds2)
  (hn:rs.length≤140737488355328∧us.length≤140737488355328∧ds.length≤140737488355328) (hn2:rs2.length≤140737488355328∧us2.length≤140737488355328∧ds2.length≤140737488355328) :
  Calls Tryz.prog 7 #[.agg (tiC RA rc rs UA uc us DA dc ds),.agg (tiC RA2 rc2 rs2 UA2 uc2 us2 DA2 dc2 ds2)] w (zAv (SameT rs us ds rs2 us2 ds2) w):=by
 have HX:Hid (Bx ((w.alloc (.cells (tiC RA rc rs UA uc us DA dc ds) 26)).alloc (.cells (tiC RA2 rc2 rs2 UA2 uc2 us2 DA2 dc2 ds2) 26)) w.heap.size (tiC RA rc rs UA uc us DA dc ds) 26):=(Bx.new _ _ _).alloc _;have HY:Hid (Bx ((w.alloc (.cells (tiC RA rc rs UA uc us DA dc ds) 26)).alloc (.cells (tiC RA2 rc2 rs2 UA2 uc2 us2 DA2 dc2 ds2) 26)) (w.heap.size+1) (tiC RA2 rc2 rs2 UA2 uc2 us2 DA2 dc2 ds2) 26):=Bx.new1 _ _ _ _;have HB:Hid (Below w.heap.size w ((w.alloc (.cells (tiC RA rc rs UA uc us DA dc ds) 26)).alloc (.cells (tiC RA2 rc2 rs2 UA2 uc2 us2 DA2 dc2 ds2) 26))):=((bN w.heap.size w).alloc (aB _) _).alloc zg _;obtain ⟨W,hW⟩:∃ W,W=(w.alloc (.cells (tiC RA rc rs UA uc us DA dc ds) 26)).alloc (.cells (tiC RA2 rc2 rs2 UA2 uc2 us2 DA2 dc2 ds2) 26):=⟨_,rfl⟩;rw [←hW] at HX HY HB;have HSF:=zq (sameFrame_c RA rc rs UA uc us DA dc ds RA2 rc2 rs2 UA2 uc2 us2 DA2 dc2 ds2 W (hr.below HB.o) (hu.below HB.o) (hr2.below HB.o) (hu2.below HB.o) ⟨hn.1,hn.2.1⟩ ⟨hn2.1,hn2.2.1⟩);have HDE:=zq (hd.below HB.o);have HDF:=zq (hd2.below HB.o);have hdl:=hn.2.2;clear hr hr2 hu hu2 hd hd2
 go_enter Tryz.func7,Tryz.ntmps7
 iterate 13 go_step
 rw [←hW];clear hW;have hsx:=HX.o.lt;have hsy:=HY.o.lt;obtain ⟨x0,x1,x2⟩:=HX.o.t;obtain ⟨y0,y1,y2⟩:=HY.o.t
 go_wp2_with fail
 with_reducible refine HSF.o.mono ?_
 rintro x w1 ⟨r,rfl,hrr,hb1⟩;have HX1:=zq (HX.o.below hb1);have HY1:=zq (HY.o.below hb1);have HB1:=zq (zAb HB.o hb1);have HDE1:=zq (HDE.o.below hb1);have HDF1:=zq (HDF.o.below hb1);clear hsx hsy x0 x1 x2 y0 y1 y2 hb1 HX HY HB HDE HDF HSF;have hsx:=HX1.o.lt;have hsy:=HY1.o.lt;have x2:=HX1.o.c 2 rfl;have y2:w1.cell? ⟨w.heap.size+1,2,none⟩=some (.slice DA2 ds2.length dc2):=HY1.o.c 2 rfl
 by_cases hfr:rs=rs2∧us=us2
 case neg =>
  have hrf:r=false:=by
   cases hh:r with
   | false=>rfl
   | true=>exact absurd (hrr.1 hh) hfr
  subst hrf;have HE:Hid (¬ SameT rs us ds rs2 us2 ds2):=fun e=>hfr ⟨e.1,e.2.1⟩
  clear hrr hfr;go_wp2;go_ret
  exact zAv.no HE.o HB1.o
 have hrt:r=true:=hrr.2 hfr;subst hrt;have HFR:=zq hfr;clear hrr hfr
 by_cases hl:ds.length=ds2.length
 case neg =>
  have HE:Hid (¬ SameT rs us ds rs2 us2 ds2):=fun e=>hl e.2.2.1
  have hlb:((ds.length:Int) != (ds2.length:Int))=true:=zj;clear hl;go_wp2;go_ret
  exact zAv.no HE.o HB1.o
 rw [←hl] at y2;have HL:=zq hl;clear hl;go_wp2;clear hsx hsy x2 y2
 go_loopg [5] ds.length (TtRel w1 ds ds2)
 case atStart=>exact ⟨0,za,rfl,bN _ _,fun j hj=>absurd hj za⟩
 case round =>
  obtain ⟨k,hk,rfl,hbel,hpre⟩:=hrel;have HK:=zq hk;have HP:=zq hpre;have HBL:=zq hbel;have HX2:=zq (HX1.o.below hbel);have HY2:=zq (HY1.o.below hbel);have hk1:k≤ds.length:=za;have hsx:=HX2.o.lt;have hsy:=HY2.o.lt;clear hk hpre hbel
  by_cases hlt:k<ds.length
  ·have hlt2:k<ds2.length:=by have:=HL.o;omega
   have x2:wr.cell? ⟨w.heap.size,2,none⟩=some (.slice DA ds.length dc):=HX2.o.c 2 rfl;have y2:wr.cell? ⟨w.heap.size+1,2,none⟩=some (.slice DA2 ds.length dc2):=by rw [HL.o];exact HY2.o.c 2 rfl
   obtain ⟨b,o,hA,hb,hc⟩:=(HDE1.o.below HBL.o) za;obtain ⟨b2,o2,hA2,hb2,hcm⟩:=(HDF1.o.below HBL.o) za;obtain ⟨d,hdd⟩:∃ d,d=ds[k]:=⟨_,rfl⟩;obtain ⟨e,hee⟩:∃ e,e=ds2[k]:=⟨_,rfl⟩;have hr1:=(hc k hlt).1;have hr2:=(hcm k hlt2).1;rw [←hdd] at hr1;rw [←hee] at hr2;have hkd:DeOk wr d:=by rw [hdd];exact (hc k hlt).2
   have hke:DeOk wr e:=by rw [hee];exact (hcm k hlt2).2
   have HGD:Hid (ds.getD k default=d):=by show _=_;rw [hdd];simp [List.getD,hlt]
   have HGE:Hid (ds2.getD k default=e):=by show _=_;rw [hee];simp [List.getD,hlt2]
   have HSD:=zq (sameDeed_c d e wr.drew (hkd.below (zAc (bN _ _) 1)) (hke.below (zAc (bN _ _) 1)));rw [hA] at x2;rw [hA2] at y2;have cx:∀ w',Below wr.heap.size wr w'→w'.cell? ⟨w.heap.size,2,none⟩=some (.slice (some ⟨b,o,none⟩) ds.length dc):=fun w' hx=>(hx.cell (p:=⟨w.heap.size,2,none⟩) hsx).trans x2
   have cy:∀ w',Below wr.heap.size wr w'→w'.cell? ⟨w.heap.size+1,2,none⟩=some (.slice (some ⟨b2,o2,none⟩) ds.length dc2):=fun w' hx=>(hx.cell (p:=⟨w.heap.size+1,2,none⟩) hsy).trans y2
   clear hc hcm hkd hke hdd hee hA hA2
   go_wp2_with fail
   refine dO (S:=(fun w'=>Below wr.heap.size wr w')) zb ?_ (fun hHeld=>?_)
   ·(first | exact HB6.o | exact zAc (bN _ _) 1)
   refine Dw.tk 0 ?_ rfl ?_ zi ?_
   rotate_left 1
   ·(intro w _;go_simp;try with_reducible rfl)
   simp only [dS,cB,Act.put,bV,dQ,bP];refine Dw.tk 1 ?_ rfl ?_ zi ?_
   rotate_left 1
   ·(intro w hSw;have e1:=cx _ hSw;go_simp;try with_reducible rfl)
   simp only [Dw.lay,Act.put];refine Dw.tk 2 ?_ rfl ?_ zi ?_
   rotate_left 1
   ·(intro w _;go_simp;try with_reducible rfl)
   simp only [Dw.lay,Act.put];refine Dw.tk 3 ?_ rfl ?_ zi ?_
   rotate_left 1
   ·(intro w _;go_simp;try with_reducible rfl)
   simp only [Dw.lay,Act.put];refine dP (i:=4) (v:=deV d) rfl zb zb zb (fun _ _ _ h=>h) ?_ zi ?_
   ·exact zCf zb (.tmp 29) rfl b (o+k*16) zb d (fun w hSw j v hv=>(hSw.cell hb).trans (hr1 j v hv))
   simp only [Dw.lay,Act.put];refine Dw.tk 5 ?_ rfl ?_ zi ?_
   rotate_left 1
   ·(intro w _;go_simp;try with_reducible rfl)
   simp only [Dw.lay,Act.put];refine Dw.tk 6 ?_ rfl ?_ zi ?_
   rotate_left 1
   ·(intro w hSw;have e1:=cy _ hSw;go_simp;try with_reducible rfl)
   simp only [Dw.lay,Act.put];refine Dw.tk 7 ?_ rfl ?_ zi ?_
   rotate_left 1
   ·(intro w _;go_simp;try with_reducible rfl)
   simp only [Dw.lay,Act.put];refine Dw.tk 8 ?_ rfl ?_ zi ?_
   rotate_left 1
   ·(intro w _;go_simp;try with_reducible rfl)
   simp only [Dw.lay,Act.put];refine dP (i:=9) (v:=deV e) rfl zb zb zb (fun _ _ _ h=>h) ?_ zi ?_
   ·exact zCf zb (.tmp 34) rfl b2 (o2+k*16) zb e (fun w hSw j v hv=>(hSw.cell hb2).trans (hr2 j v hv))
   simp only [Dw.lay,Act.put];refine Dw.rd1 10 rfl (fun K hK=>?_)
   clear hHeld
   go_simp
   go_at_call 20
   with_reducible refine (HSD.o).mono ?_
   rintro x w6 ⟨r,rfl,hrr,hb6⟩;have HB6:=zq (zAb (zAc (bN wr.heap.size wr) 1) hb6);refine hK.out _ _ ?_ (fun hHeld=>?_)
   ·(first | exact HB6.o | exact zAc (bN _ _) 1)
   clear hK K
   try simp only [Dw.lay,Act.put]
   refine Dw.tk 11 ?_ rfl ?_ zi ?_
   rotate_left 1
   ·(intro w _;go_simp;try with_reducible rfl)
   simp only [Dw.lay,Act.put];refine wpAnyH_done zb ?_ _
   clear hHeld
   by_cases hsd:zBp d e
   ·have hrt:r=true:=hrr.2 hsd
    subst hrt;have HSM:=zq hsd;clear hrr hsd;go_wp2
    go_roundg (gk - 1)
    case measure=>have:=HK.o;omega
    case rel =>
     refine ⟨k+1,zk,zx,zAb HBL.o HB6.o,fun j hj=>?_⟩
     rcases bK j k with h1 | h1
     ·exact HP.o j h1
     ·obtain rfl:j=k:=by omega
      rw [HGD.o,HGE.o];exact HSM.o
   ·have hrf:r=false:=by
     cases hh:r with
     | false=>rfl
     | true=>exact absurd (hrr.1 hh) hsd
    subst hrf
    have HE:Hid (¬ SameT rs us ds rs2 us2 ds2):=fun hs=>hsd (by
     have:=hs.2.2.2 k hlt
     rwa [HGD.o,HGE.o] at this)
    clear hrr hsd;go_wp2;go_ret
    exact zAv.no HE.o (zAb HB1.o (zAb HBL.o HB6.o))
  ·obtain rfl:k=ds.length:=by omega
   have x2:=HX2.o.c 2 rfl;go_wp2;go_ret
   exact zAv.yes ⟨HFR.o.1,HFR.o.2,HL.o,HP.o⟩ (zAb HB1.o HBL.o)
end Go.Proofs.YtoaelidmmcbkfaaGreatDoor
namespace Go.Proofs.YtoaelidmmcbkfaaGreatDoor
open Dw
theorem area_nm {rs:List Rg} {a:List Ar} (hr:∀ i (h:i<rs.length),zAC (rs[i]).nm=true) (h:chkA rs a=0):∀ x∈a,zAC x.rg=true:=by
 unfold chkA at h
 split at h
 ·cases h
 split at h
 ·next f hf =>
  exfalso
  obtain ⟨k,_,hk⟩:=List.exists_of_findSome?_eq_some hf;unfold zBr at hk
  split at hk
  ·cases hk;cases h
  ·split at hk
   ·cases hk;cases h
   ·cases hk
 next hn =>
 rw [List.findSome?_eq_none_iff] at hn;intro x hx;obtain ⟨k,hk,rfl⟩:=bL hx;have:=hn k qj;unfold zBr at this;rw [zDn hk] at this
 split at this
 ·cases this
 next h1 =>
 cases hi:idx rs (a[k]).rg with
 | none=>exact absurd hi h1
 | some j =>
  obtain ⟨hj,he⟩:=zCv hi;rw [←he];exact hr j hj
theorem uses_sub {us l:List BA} (h:useF us l=0):∀ u∈l,u∈us:=by
 unfold useF at h
 split at h
 ·next f hf =>
  exfalso
  obtain ⟨k,_,hk⟩:=List.exists_of_findSome?_eq_some hf;unfold zBh at hk
  split at hk
  ·cases hk;cases h
  ·split at hk
   ·cases hk;cases h
   ·cases hk
 next hn =>
 rw [List.findSome?_eq_none_iff] at hn;intro x hx;obtain ⟨k,hk,rfl⟩:=bL hx;have:=hn k qj;have e1:usAt l k=l[k]:=by unfold usAt;rw [List.getD_eq_getElem?_getD,List.getElem?_eq_getElem hk];rfl
 unfold zBh at this;rw [e1] at this
 split at this
 ·cases this
 next h1=>exact memS_true.1 yj
theorem shs_nm {k:Int} {l:List Sh} (h:shF k l=0):∀ s∈l,zAC s.pt=true∧ratF s.nu s.de=0:=by
 unfold shF at h
 split at h
 ·cases h
 split at h
 ·cases h
 have key:∀ i f,zAW l i=some f→f≠0:=fun i f hf=>by
  unfold zAW at hf
  split at hf
  ·cases hf;simp
  ·split at hf
   ·cases hf;simp
   ·split at hf
    ·next h1=>cases hf;exact h1
    ·split at hf
     ·cases hf;simp
     ·cases hf
 split at h
 ·next f hf =>
  exfalso
  obtain ⟨i,_,hi⟩:=List.exists_of_findSome?_eq_some hf;exact key i f hi h
 next hn =>
 rw [List.findSome?_eq_none_iff] at hn;intro x hx;obtain ⟨i,hi,rfl⟩:=bL hx;have:=hn i yt;unfold zAW at this;rw [ptAt_of hi,shD_of hi] at this
 split at this
 ·cases this
 next h1 =>
 split at this
 ·cases this
 split at this
 ·cases this
 next h3=>exact ⟨yj,by simpa using h3⟩
structure WrD (d:De):Prop where
 id:zAC d.id=true
 day:0≤d.day∧d.day≤200000
 kd:1≤d.kd∧d.kd≤5
 th:if (zAd d.kd || decide (d.kd=1))=true then zAC d.th=true else d.th=emp
 fr:if (zAd d.kd || decide (d.kd=5))=true then zAC d.fr=true else d.fr=emp
 to_:if zAd d.kd=true then zAC d.to_=true else d.to_=emp
 pt:if d.kd=2 then ratF d.nu d.de=0 else d.nu=emp∧d.de=emp
 ex:d.kd≠3→d.ex=false∧d.sb=false
 ar:∀ a∈d.ar,zAC a.rg=true
 us:∀ u∈d.us,zAC u=true
 pl:zAd d.kd=false→d.ar=[]∧d.us=[]∧d.en=0
 bg:0≤d.bg∧d.bg≤200000
 en:0≤d.en∧d.en≤200000
 sh:∀ s∈d.sh,zAC s.pt=true∧ratF s.nu s.de=0
 dv:divB d.kd=false→d.sh=[]
 ot:if d.kd=4 then zAC d.ot=true else d.ot=emp
theorem chkD_wr {rs:List Rg} {us:List BA} {pre:List De} {d:De} (h:chkD rs us pre d=0) (hr:∀ i (h:i<rs.length),zAC (rs[i]).nm=true) (hu:∀ u∈us,zAC u=true)
  (hp:∀ p∈pre,zAC p.id=true):WrD d:=by
 unfold chkD at h
 split at h
 ·cases h
 next h1 =>
 split at h
 ·cases h
 next h2 =>
 split at h
 ·cases h
 split at h
 ·cases h
 split at h
 ·cases h
 next h5 =>
 split at h
 ·cases h
 next hnd =>
 have hid:zAC d.id=true:=yj;have hday:=day_of (n:=d.day) (by simpa using h2)
 have hkd:1≤d.kd∧d.kd≤5:=za;simp only [zAq,Bool.not_eq_true,Bool.or_eq_false_iff,Bool.and_eq_false_iff] at hnd;obtain ⟨⟨⟨⟨⟨⟨⟨⟨n1,n2⟩,n3⟩,n4⟩,n5⟩,n6⟩,n7⟩,n8⟩,n9⟩:=hnd;have e1:zAd d.kd=false→d.kd≠1→d.th=emp:=fun a b=>by rcases n1 with n | n<;>simp_all
 have e2:zAd d.kd=false→d.kd≠5→d.fr=emp:=fun a b=>by rcases n2 with n | n<;>simp_all
 have e3:zAd d.kd=false→d.to_=emp:=fun a=>by rcases n3 with n | n<;>simp_all
 have e4:d.kd≠2→d.nu=emp∧d.de=emp:=fun a=>by rcases n4 with n | n<;>simp_all
 have e5:d.kd≠3→d.ex=false∧d.sb=false:=fun a=>by rcases n5 with n | n<;>simp_all
 have e6:zAd d.kd=false→d.ar=[]∧d.us=[]:=fun a=>by rcases n6 with n | n<;>simp_all
 have e7:zAd d.kd=false→d.en=0:=fun a=>by rcases n7 with n | n<;>simp_all
 have e8:d.kd≠1→d.kd≠5→d.sh=[]:=fun a b=>by rcases n8 with n | n<;>simp_all
 have e9:d.kd≠4→d.ot=emp:=fun a=>by rcases n9 with n | n<;>simp_all
 have dv:divB d.kd=false→d.sh=[]:=fun a=>by unfold divB at a;simp at a;exact e8 za za
 split at h
 ·next hg =>
  have hk:d.kd=2∨d.kd=3:=by unfold zAd at hg;simpa using hg
  unfold giftF at h
  split at h
  ·cases h
  next g1 =>
  split at h
  ·cases h
  split at h
  ·next h1=>exact absurd h h1
  next g3 =>
  split at h
  ·next h1=>exact absurd h h1
  next g4 =>
  split at h
  ·cases h
  split at h
  ·next h1=>exact absurd h h1
  next g6 =>
  split at h
  ·cases h
  next g7 =>
  have s1:zAC d.th=true:=by cases hh:zAC d.th with | true=>rfl | false=>exact absurd (.inl hh) g1
  have s2:zAC d.fr=true:=by cases hh:zAC d.fr with | true=>rfl | false=>exact absurd (.inr (.inl hh)) g1
  have s3:zAC d.to_=true:=by cases hh:zAC d.to_ with | true=>rfl | false=>exact absurd (.inr (.inr hh)) g1
  have s4:0≤d.bg∧d.bg≤200000:=day_of (by cases hh:zCG d.bg with | true=>rfl | false=>exact absurd (.inl hh) g7)
  have s5:0≤d.en∧d.en≤200000:=day_of (by cases hh:zCG d.en with | true=>rfl | false=>exact absurd (.inr hh) g7)
  have s6:if d.kd=2 then ratF d.nu d.de=0 else d.nu=emp∧d.de=emp:=by
   by_cases h2:d.kd=2
   ·rw [aE h2]
    have g3':parF d=0:=by simpa using g3
    unfold parF at g3';rw [aC (by rw [h2];simp)] at g3'
    split at g3'
    ·next h1=>exact absurd g3' h1
    ·next h1=>simpa using h1
   ·rw [aC h2];exact e4 h2
  exact ⟨hid,hday,hkd,by rw [hg];exact s1,by rw [hg];exact s2,by rw [aE hg];exact s3,s6,e5,area_nm hr (by simpa using g4),fun u hm=>hu u (uses_sub (by simpa using g6) u hm),
   (fun a=>by rw [hg] at a;cases a),s4,s5,by rw [e8 za za];simp,dv,by rw [aC za];exact e9 za⟩
 ·next hg =>
  have hg':zAd d.kd=false:=by simpa using hg
  have hk:¬ (d.kd=2∨d.kd=3):=fun hh=>by apply hg;unfold zAd;simpa using hh
  obtain ⟨a6,b6⟩:=e6 hg';have t3:if zAd d.kd=true then zAC d.to_=true else d.to_=emp:=by rw [aC hg];exact e3 hg'
  have t4:if d.kd=2 then ratF d.nu d.de=0 else d.nu=emp∧d.de=emp:=by rw [aC za];exact e4 za
  split at h
  ·next h4 =>
   unfold endF at h
   split at h
   ·cases h
   next g1 =>
   split at h
   ·cases h
   next g2 =>
   have s9:zAC d.ot=true:=by
    rw [Bool.not_eq_false,List.any_eq_true] at g2;obtain ⟨p,hpp,hq⟩:=g2;simp only [cU,aH] at hq;rw [←hq.1];exact hp p hpp
   exact ⟨hid,hday,hkd,by rw [hg',aC zj];exact e1 hg' za,by rw [hg',aC zj];exact e2 hg' za,t3,t4,e5,by rw [a6];simp,by rw [b6];simp,
    fun _=>⟨a6,b6,e7 hg'⟩,day_of (by simpa using g1),by rw [e7 hg'];omega,by rw [e8 za za];simp,dv,by rw [aE h4];exact s9⟩
  ·next h4 =>
   unfold divF at h
   split at h
   ·cases h
   next g1 =>
   split at h
   ·cases h
   next g2 =>
   split at h
   ·next h1=>exact absurd h h1
   next g3 =>
   have s1:if (zAd d.kd || decide (d.kd=1))=true then zAC d.th=true else d.th=emp:=by
    rw [hg',Bool.false_or]
    by_cases h1:d.kd=1
    ·rw [aE yj]
     cases hh:zAC d.th with | true=>rfl | false=>exact absurd (.inl ⟨h1,hh⟩) g1
    ·rw [aC yj];exact e1 hg' h1
   have s2:if (zAd d.kd || decide (d.kd=5))=true then zAC d.fr=true else d.fr=emp:=by
    rw [hg',Bool.false_or]
    by_cases h1:d.kd=5
    ·rw [aE yj]
     cases hh:zAC d.fr with | true=>rfl | false=>exact absurd (.inr ⟨h1,hh⟩) g1
    ·rw [aC yj];exact e2 hg' h1
   exact ⟨hid,hday,hkd,s1,s2,t3,t4,e5,by rw [a6];simp,by rw [b6];simp,fun _=>⟨a6,b6,e7 hg'⟩,day_of (by simpa using g2),by rw [e7 hg'];omega,shs_nm (by simpa using g3),dv,by rw [aC h4];exact e9 h4⟩
theorem chkT_wr {rs:List Rg} {us:List BA} {ds:List De} (h:zDh rs us ds=0):(∀ r∈rs,zAC r.nm=true∧(r.par=emp∨zAC r.par=true))∧(∀ u∈us,zAC u=true)∧∀ d∈ds,WrD d:=by
 obtain ⟨h1,_,_⟩:=chkT_zero h;have hg:=good_of h1;have hu:=uses_nm h;have hd:=(chkT_deeds h).2;refine ⟨fun r hr=>?_,hu,fun d hd'=>?_⟩
 ·obtain ⟨i,hi,rfl⟩:=bL hr
  refine ⟨hg.nm i hi,?_⟩
  by_cases hp:(rs[i]).par=emp
  ·exact .inl hp
  ·obtain ⟨j,hj⟩:=hg.par i hi hp
   obtain ⟨hj',he⟩:=zCv hj;rw [←he];exact .inr (hg.nm j hj')
 ·obtain ⟨k,hk,rfl⟩:=bL hd'
  refine chkD_wr (hd k hk) hg.nm hu fun p hp=>?_
  rw [List.mem_take_iff_getElem] at hp;obtain ⟨j,hj,rfl⟩:=hp;exact chkD_id (hd j za)
end Go.Proofs.YtoaelidmmcbkfaaGreatDoor
