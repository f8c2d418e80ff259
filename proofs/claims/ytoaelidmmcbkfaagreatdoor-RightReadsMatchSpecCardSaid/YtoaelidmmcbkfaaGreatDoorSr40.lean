/- Parts of the proof, joined: The reference's comparers: zAe, frames (printed by gen_same.py). The. -/
import Derived.Test.YtoaelidmmcbkfaaGreatDoorSr39
set_option maxRecDepth 100000
set_option maxHeartbeats 8000000
namespace Go.Proofs.YtoaelidmmcbkfaaGreatDoor
open Go.RowKit Dw
theorem sameWords_c (A A2:Option Addr) (c c2:Nat) (L M:List BA) (w:World) (hn:L.length≤140737488355328) (hn2:M.length≤140737488355328) (h:Strs w A L) (h2:Strs w A2 M) :
  Calls Tryz.prog 57 #[.slice A L.length c,.slice A2 M.length c2] w (GivesEq (L=M) w):=by
 by_cases hl:L.length=M.length
 ·rw [←hl]
  have HL:=zq hl;clear hl
  go_enter Tryz.func57,Tryz.ntmps57
  go_wp2
  go_loopg [5] L.length (EqRel2 w L M)
  case atStart=>exact ⟨0,rfl,0,za,rfl,fun j hj=>absurd hj za⟩
  case round =>
   obtain ⟨q,hw,k,hk,rfl,hpre⟩:=hrel;subst hw;have HK:=zq hk;have HP:=zq hpre;have hk1:k≤L.length:=za;clear hk hpre
   by_cases hlt:k<L.length
   ·have hlt2:k<M.length:=by have:=HL.o;omega
    obtain ⟨b,o,rfl,hb,hc⟩:=h.at_ za;obtain ⟨b2,o2,rfl,hb2,hcm⟩:=h2.at_ za;have hc0:=hc k hlt;have hd0:=hcm k hlt2;clear hc hcm
    by_cases he:L[k]=M[k]
    ·have heb:=zAy he
     have HE:=zq he;clear he;go_wp2
     go_quiet (fail)
     go_wp2
     go_roundg (gk - 1)
     case measure=>have:=HK.o;omega
     case rel =>
      refine ⟨_,rfl,k+1,zl,zn,fun j hj=>?_⟩
      rcases bO j k with h1 | h1
      ·exact HP.o j h1
      ·obtain rfl:j=k:=by omega
       rw [List.getElem?_eq_getElem hlt,List.getElem?_eq_getElem (by have:=HL.o;omega),HE.o]
    ·have heb:=zAo he
     have HE:Hid (¬ L=M):=by
      show ¬ L=M
      intro e;subst e;exact he rfl
     clear he;go_wp2
     go_quiet (fail)
     go_wp2;go_ret
     exact GivesEq.no HE.o ⟨_,World.drewN_drewN _ _ _⟩
   ·go_wp2
    go_ret
    exact GivesEq.yes (same_of HL.o za HP.o) ⟨_,rfl⟩
 ·have HE:Hid (¬ L=M):=by
   show ¬ L=M
   intro e;subst e;exact hl rfl
  have hlb:((L.length:Int) != (M.length:Int))=true:=zg
  go_enter Tryz.func57,Tryz.ntmps57
  go_wp2;go_ret
  exact GivesEq.no HE.o ⟨0,rfl⟩
def FrRel (_w W:World) (L M:List Rg) (m:Nat) (i:Value) (wr:World):Prop :=
 ∃ q,wr=W.drewN q∧∃ k:Nat,k+m=L.length∧i = .int .i64 k∧∀ j,j<k→L[j]?=M[j]?
theorem sameFrame_c (RA:Option Addr) (rc:Nat) (rs:List Rg) (UA:Option Addr) (uc:Nat) (us:List BA) (DA:Option Addr) (dc:Nat) (ds:List De)
  (RA2:Option Addr) (rc2:Nat) (rs2:List Rg) (UA2:Option Addr) (uc2:Nat) (us2:List BA) (DA2:Option Addr) (dc2:Nat) (ds2:List De) (w:World)
  (hr:Rgs w RA rs) (hu:Strs w UA us) (hr2:Rgs w RA2 rs2) (hu2:Strs w UA2 us2) (hn:rs.length≤140737488355328∧us.length≤140737488355328) (hn2:rs2.length≤140737488355328∧us2.length≤140737488355328) :
  Calls Tryz.prog 19 #[.agg (tiC RA rc rs UA uc us DA dc ds),.agg (tiC RA2 rc2 rs2 UA2 uc2 us2 DA2 dc2 ds2)] w (zAP (rs=rs2∧us=us2) w):=by
 have HX:Hid (Bx ((w.alloc (.cells (tiC RA rc rs UA uc us DA dc ds) 26)).alloc (.cells (tiC RA2 rc2 rs2 UA2 uc2 us2 DA2 dc2 ds2) 26)) w.heap.size (tiC RA rc rs UA uc us DA dc ds) 26):=(Bx.new _ _ _).alloc _;have HY:Hid (Bx ((w.alloc (.cells (tiC RA rc rs UA uc us DA dc ds) 26)).alloc (.cells (tiC RA2 rc2 rs2 UA2 uc2 us2 DA2 dc2 ds2) 26)) (w.heap.size+1) (tiC RA2 rc2 rs2 UA2 uc2 us2 DA2 dc2 ds2) 26):=Bx.new1 _ _ _ _;have HB:Hid (Below w.heap.size w ((w.alloc (.cells (tiC RA rc rs UA uc us DA dc ds) 26)).alloc (.cells (tiC RA2 rc2 rs2 UA2 uc2 us2 DA2 dc2 ds2) 26))):=((bS w.heap.size w).alloc (aB _) _).alloc zd _;obtain ⟨W,hW⟩:∃ W,W=(w.alloc (.cells (tiC RA rc rs UA uc us DA dc ds) 26)).alloc (.cells (tiC RA2 rc2 rs2 UA2 uc2 us2 DA2 dc2 ds2) 26):=⟨_,rfl⟩;rw [←hW] at HX HY HB;have h:=hr.below HB.o;have h2:=hr2.below HB.o;have HU:=zq (hu.below HB.o);have HU2:=zq (hu2.below HB.o);clear hr hr2 hu hu2;obtain ⟨hn1,hnu⟩:=hn;obtain ⟨hn3,hnu2⟩:=hn2
 go_enter Tryz.func19,Tryz.ntmps19
 iterate 13 go_step
 rw [←hW];clear hW;have hsx:=HX.o.lt;have hsy:=HY.o.lt;have x0:=HX.o.c 0 rfl;have x1:=HX.o.c 1 rfl;have y0:W.cell? ⟨w.heap.size+1,0,none⟩=some (.slice RA2 rs2.length rc2):=HY.o.c 0 rfl;have y1:=HY.o.c 1 rfl;clear HX HY
 by_cases hl:rs.length=rs2.length
 case neg =>
  have HE:Hid (¬ (rs=rs2∧us=us2)):=fun e=>hl (by rw [e.1])
  have hlb:((rs.length:Int) != (rs2.length:Int))=true:=zg;clear hl;go_wp2;go_ret
  exact zAP.no HE.o HB.o
 rw [←hl] at y0;have HL:=zq hl;clear hl
 go_wp2_with fail
 with_reducible refine (sameWords_c UA UA2 uc uc2 us us2 _ hnu hnu2 HU.o HU2.o).mono ?_
 rintro x wx ⟨r,rfl,hrr,n,rfl⟩
 by_cases hus:us=us2
 case neg =>
  have hrf:r=false:=by
   cases hh:r with
   | false=>rfl
   | true=>exact absurd (hrr.1 hh) hus
  subst hrf;have HE:Hid (¬ (rs=rs2∧us=us2)):=fun e=>hus e.2
  clear hrr hus;go_wp2;go_ret
  exact zAP.no HE.o (zAc HB.o _)
 have hrt:r=true:=hrr.2 hus;subst hrt;have HUS:=zq hus;clear hrr hus;go_wp2
 go_loopg [5] rs.length (FrRel w W rs rs2)
 case atStart=>exact ⟨n,rfl,0,za,rfl,fun j hj=>absurd hj za⟩
 case round =>
  obtain ⟨q,hw,k,hk,rfl,hpre⟩:=hrel;subst hw;have HK:=zq hk;have HP:=zq hpre;have hk1:k≤rs.length:=za;clear hk hpre
  by_cases hlt:k<rs.length
  ·have hlt2:k<rs2.length:=by have:=HL.o;omega
   obtain ⟨b,o,rfl,hb,hc⟩:=h.at_ za;obtain ⟨b2,o2,rfl,hb2,hcm⟩:=h2.at_ za;have hc0:=(hc k hlt).1;have hc1:=(hc k hlt).2;have hd0:=(hcm k hlt2).1;have hd1:=(hcm k hlt2).2;clear hc hcm
   by_cases he:rs[k]=rs2[k]
   ·have HE:=zq he
    rw [←he] at hd0 hd1;clear he;go_wp2
    go_quiet (fail)
    go_wp2
    go_roundg (gk - 1)
    case measure=>have:=HK.o;omega
    case rel =>
     refine ⟨_,rfl,k+1,zl,zn,fun j hj=>?_⟩
     rcases bO j k with h1 | h1
     ·exact HP.o j h1
     ·obtain rfl:j=k:=by omega
      rw [List.getElem?_eq_getElem hlt,List.getElem?_eq_getElem (by have:=HL.o;omega),HE.o]
   ·have HE:Hid (¬ (rs=rs2∧us=us2)):=fun e=>by
     obtain ⟨e,_⟩:=e;subst e;exact he rfl
    by_cases h0:(rs[k]).nm=(rs2[k]).nm
    ·have h3:¬ (rs[k]).par=(rs2[k]).par:=fun e=>he (by
      cases hx:rs[k]
      cases hy:rs2[k]
      simp_all)
     have hb:=zAo h3;rw [←h0] at hd0;clear he h0 h3;go_wp2
     go_quiet (fail)
     go_wp2;go_ret
     exact zAP.no HE.o (zAc (zAc HB.o _) _)
    ·have hb:=zAo h0
     clear he h0;go_wp2
     go_quiet (fail)
     go_wp2;go_ret
     exact zAP.no HE.o (zAc (zAc HB.o _) _)
  ·go_wp2
   go_ret
   exact zAP.yes ⟨same_of HL.o za HP.o,HUS.o⟩ (zAc HB.o _)
theorem rat_neq2 (a b c d:BA) (W:World):(binOp .neq 43 (.agg #[.string a,.string b]) (.agg #[.string c,.string d])).run Tryz.prog W = .ok (.bool (!((a.toList == c.toList)&&(b.toList == d.toList)))) W:=by
 have h1:=Tryz.underlying43;simp [go_sem,binOp,Op.equal,Op.maxDepth]
 by_cases h2:a.toList=c.toList
 ·by_cases h3:b.toList=d.toList
  ·simp [h2,h3]
  ·simp [h2,h3]
 ·simp [h2]
theorem ratn_yes {a b c d:BA} (h:a=c∧b=d) (W:World):(binOp .neq 43 (.agg #[.string a,.string b]) (.agg #[.string c,.string d])).run Tryz.prog W = .ok (.bool false) W:=by
 rw [rat_neq2,zAy h.1,zAy h.2];rfl
theorem ratn_no {a b c d:BA} (h:¬ (a=c∧b=d)) (W:World):(binOp .neq 43 (.agg #[.string a,.string b]) (.agg #[.string c,.string d])).run Tryz.prog W = .ok (.bool true) W:=by
 rw [rat_neq2]
 by_cases h1:a=c
 ·rw [zAo (fun e=>h ⟨h1,e⟩)];simp
 ·rw [zAo h1];rfl
def SdRel {α:Type} (W:World) (L M:List α) (m:Nat) (i:Value) (wr:World):Prop :=
 ∃ q,wr=W.drewN q∧∃ k:Nat,k+m=L.length∧i = .int .i64 k∧∀ j,j<k→L[j]?=M[j]?
theorem sameDeed_c (d e:De) (w:World) (hd:DeOk w d) (he:DeOk w e):Calls Tryz.prog 20 #[deV d,deV e] w (zAP (zBS d e) w):=by
 have HX:Hid (Bx ((w.alloc (.cells (deC d) 47)).alloc (.cells (deC e) 47)) w.heap.size (deC d) 47):=(Bx.new _ _ _).alloc _;have HY:Hid (Bx ((w.alloc (.cells (deC d) 47)).alloc (.cells (deC e) 47)) (w.heap.size+1) (deC e) 47):=Bx.new1 _ _ _ _;have HB:Hid (Below w.heap.size w ((w.alloc (.cells (deC d) 47)).alloc (.cells (deC e) 47))):=((bS w.heap.size w).alloc (aB _) _).alloc zd _;obtain ⟨W,hW⟩:∃ W,W=(w.alloc (.cells (deC d) 47)).alloc (.cells (deC e) 47):=⟨_,rfl⟩;rw [←hW] at HX HY HB;have HD:=zq (hd.below HB.o);have HE:=zq (he.below HB.o);have hl1:=HD.o.lens.1;have hl2:=HD.o.lens.2.2;clear hd he
 go_enter Tryz.func20,Tryz.ntmps20
 simp only [List.append]
 iterate 13 go_step
 rw [←hW];clear hW;have hsx:=HX.o.lt;have hsy:=HY.o.lt;have x0:=HX.o.c 0 rfl;have x1:=HX.o.c 1 rfl;have x2:=HX.o.c 2 rfl;have x3:=HX.o.c 3 rfl;have x4:=HX.o.c 4 rfl;have x5:=HX.o.c 5 rfl;have x6:=HX.o.c 6 rfl;have x7:=HX.o.c 7 rfl;have x8:=HX.o.c 8 rfl;have x9:=HX.o.c 9 rfl;have x10:=HX.o.c 10 rfl;have x11:=HX.o.c 11 rfl;have x12:=HX.o.c 12 rfl;have x13:=HX.o.c 13 rfl;have x14:=HX.o.c 14 rfl;have x15:=HX.o.c 15 rfl;have y0:=HY.o.c 0 rfl;have y1:=HY.o.c 1 rfl;have y2:=HY.o.c 2 rfl;have y3:=HY.o.c 3 rfl;have y4:=HY.o.c 4 rfl;have y5:=HY.o.c 5 rfl;have y6:=HY.o.c 6 rfl;have y7:=HY.o.c 7 rfl;have y8:=HY.o.c 8 rfl;have y9:=HY.o.c 9 rfl;have y10:W.cell? ⟨w.heap.size+1,10,none⟩=some (.slice e.arA e.ar.length e.arc):=HY.o.c 10 rfl;have y11:=HY.o.c 11 rfl;have y12:=HY.o.c 12 rfl;have y13:=HY.o.c 13 rfl;have y14:W.cell? ⟨w.heap.size+1,14,none⟩=some (.slice e.shA e.sh.length e.shc):=HY.o.c 14 rfl;have y15:=HY.o.c 15 rfl;clear HX HY
 by_cases t0:d.id=e.id
 case neg =>
  have q0:=zAo t0
  have HS:Hid (¬ zBS d e):=fun hs=>by
   unfold zBS at hs;exact t0 hs.1
  clear t0;go_wp2;go_ret
  exact zAP.no HS.o ze
 have q0:=zAy t0
 by_cases t1:d.day=e.day
 case neg =>
  have q1:(d.day != e.day)=true:=by simpa using t1
  have HS:Hid (¬ zBS d e):=fun hs=>by
   unfold zBS at hs;exact t1 hs.2.1
  clear t0 t1;go_wp2;go_ret
  exact zAP.no HS.o ze
 have q1:(d.day != e.day)=false:=by simpa using t1
 by_cases t2:d.kd=e.kd
 case neg =>
  have q2:(d.kd != e.kd)=true:=by simpa using t2
  have HS:Hid (¬ zBS d e):=fun hs=>by
   unfold zBS at hs;exact t2 hs.2.2.1
  clear t0 t1 t2;go_wp2;go_ret
  exact zAP.no HS.o ze
 have q2:(d.kd != e.kd)=false:=by simpa using t2
 by_cases t3:d.th=e.th
 case neg =>
  have q3:=zAo t3
  have HS:Hid (¬ zBS d e):=fun hs=>by
   unfold zBS at hs;exact t3 hs.2.2.2.1
  clear t0 t1 t2 t3;go_wp2;go_ret
  exact zAP.no HS.o ze
 have q3:=zAy t3
 by_cases t4:d.fr=e.fr
 case neg =>
  have q4:=zAo t4
  have HS:Hid (¬ zBS d e):=fun hs=>by
   unfold zBS at hs;exact t4 hs.2.2.2.2.1
  clear t0 t1 t2 t3 t4;go_wp2;go_ret
  exact zAP.no HS.o ze
 have q4:=zAy t4
 by_cases t5:d.to_=e.to_
 case neg =>
  have q5:=zAo t5
  have HS:Hid (¬ zBS d e):=fun hs=>by
   unfold zBS at hs;exact t5 hs.2.2.2.2.2.1
  clear t0 t1 t2 t3 t4 t5;go_wp2;go_ret
  exact zAP.no HS.o ze
 have q5:=zAy t5
 by_cases t6:(d.nu=e.nu∧d.de=e.de)
 case neg =>
  have q6:=ratn_no t6
  have HS:Hid (¬ zBS d e):=fun hs=>by
   unfold zBS at hs;exact t6 hs.2.2.2.2.2.2.1
  clear t0 t1 t2 t3 t4 t5 t6;go_wp2;go_ret
  exact zAP.no HS.o ze
 have q6:=ratn_yes t6
 by_cases t7:d.ex=e.ex
 case neg =>
  have q7:(d.ex != e.ex)=true:=by simpa using t7
  have q7b:(d.ex == e.ex)=false:=by simpa using t7
  have q7c:(d.ex ^^ e.ex)=true:=by simpa using t7
  have HS:Hid (¬ zBS d e):=fun hs=>by
   unfold zBS at hs;exact t7 hs.2.2.2.2.2.2.2.1
  clear t0 t1 t2 t3 t4 t5 t6 t7;go_wp2;go_ret
  exact zAP.no HS.o ze
 have q7:(d.ex != e.ex)=false:=by simpa using t7
 have q7b:(d.ex == e.ex)=true:=by simpa using t7
 have q7c:(d.ex ^^ e.ex)=false:=by simpa using t7
 by_cases t8:d.sb=e.sb
 case neg =>
  have q8:(d.sb != e.sb)=true:=by simpa using t8
  have q8b:(d.sb == e.sb)=false:=by simpa using t8
  have q8c:(d.sb ^^ e.sb)=true:=by simpa using t8
  have HS:Hid (¬ zBS d e):=fun hs=>by
   unfold zBS at hs;exact t8 hs.2.2.2.2.2.2.2.2.1
  clear t0 t1 t2 t3 t4 t5 t6 t7 t8;go_wp2;go_ret
  exact zAP.no HS.o ze
 have q8:(d.sb != e.sb)=false:=by simpa using t8
 have q8b:(d.sb == e.sb)=true:=by simpa using t8
 have q8c:(d.sb ^^ e.sb)=false:=by simpa using t8
 by_cases t9:d.bg=e.bg
 case neg =>
  have q9:(d.bg != e.bg)=true:=by simpa using t9
  have HS:Hid (¬ zBS d e):=fun hs=>by
   unfold zBS at hs;exact t9 hs.2.2.2.2.2.2.2.2.2.2.2.1
  clear t0 t1 t2 t3 t4 t5 t6 t7 t8 t9;go_wp2;go_ret
  exact zAP.no HS.o ze
 have q9:(d.bg != e.bg)=false:=by simpa using t9
 by_cases t10:d.en=e.en
 case neg =>
  have q10:(d.en != e.en)=true:=by simpa using t10
  have HS:Hid (¬ zBS d e):=fun hs=>by
   unfold zBS at hs;exact t10 hs.2.2.2.2.2.2.2.2.2.2.2.2.1
  clear t0 t1 t2 t3 t4 t5 t6 t7 t8 t9 t10;go_wp2;go_ret
  exact zAP.no HS.o ze
 have q10:(d.en != e.en)=false:=by simpa using t10
 by_cases t11:d.ot=e.ot
 case neg =>
  have q11:=zAo t11
  have HS:Hid (¬ zBS d e):=fun hs=>by
   unfold zBS at hs;exact t11 hs.2.2.2.2.2.2.2.2.2.2.2.2.2.2
  clear t0 t1 t2 t3 t4 t5 t6 t7 t8 t9 t10 t11;go_wp2;go_ret
  exact zAP.no HS.o ze
 have q11:=zAy t11
 go_wp2_with fail
 with_reducible refine (sameWords_c d.usA e.usA d.usc e.usc d.us e.us _ HD.o.lens.2.1 HE.o.lens.2.1 HD.o.uses HE.o.uses).mono ?_
 rintro x wx ⟨r,rfl,hrr,n,rfl⟩
 by_cases t12:d.us=e.us
 case neg =>
  have hrf:r=false:=by
   cases hh:r with
   | false=>rfl
   | true=>exact absurd (hrr.1 hh) t12
  subst hrf;clear hrr
  have HS:Hid (¬ zBS d e):=fun hs=>by
   unfold zBS at hs;exact t12 hs.2.2.2.2.2.2.2.2.2.2.1
  clear t0 t1 t2 t3 t4 t5 t6 t7 t8 t9 t10 t11 t12;go_wp2;go_ret
  exact zAP.no HS.o ze
 have hrt:r=true:=hrr.2 t12;subst hrt;clear hrr
 by_cases t13:d.ar.length=e.ar.length
 case neg =>
  have q13:((d.ar.length:Int) != (e.ar.length:Int))=true:=zg
  have HS:Hid (¬ zBS d e):=fun hs=>by
   unfold zBS at hs;exact t13 (by rw [hs.2.2.2.2.2.2.2.2.2.1])
  clear t0 t1 t2 t3 t4 t5 t6 t7 t8 t9 t10 t11 t12 t13;go_wp2;go_ret
  exact zAP.no HS.o ze
 rw [←t13] at y10
 by_cases t14:d.sh.length=e.sh.length
 case neg =>
  have q14:((d.sh.length:Int) != (e.sh.length:Int))=true:=zg
  have HS:Hid (¬ zBS d e):=fun hs=>by
   unfold zBS at hs;exact t14 (by rw [hs.2.2.2.2.2.2.2.2.2.2.2.2.2.1])
  clear t0 t1 t2 t3 t4 t5 t6 t7 t8 t9 t10 t11 t12 t13 t14;go_wp2;go_ret
  exact zAP.no HS.o ze
 rw [←t14] at y14;have HT:Hid (d.ar=e.ar→d.sh=e.sh→zBS d e):=fun h9 h13=>⟨t0,t1,t2,t3,t4,t5,t6,t7,t8,h9,t12,t9,t10,h13,t11⟩
 have HL1:=zq t13;have HL2:=zq t14;clear t0 t1 t2 t3 t4 t5 t6 t7 t8 t9 t10 t11 t12 t13 t14;go_wp2;clear q0 q1 q2 q3 q4 q5 q6 q7 q8 q7b q7c q8b q8c q9 q10 q11 x0 x1 x2 x3 x4 x5 x6 x7 x8 x9 x11 x12 x13 x15 y0 y1 y2 y3 y4 y5 y6 y7 y8 y9 y11 y12 y13 y15
 go_loopg [5] d.ar.length (SdRel W d.ar e.ar)
 case atStart=>exact ⟨_,rfl,0,za,rfl,fun j hj=>absurd hj za⟩
 case round =>
  obtain ⟨q,hw,k,hk,rfl,hpre⟩:=hrel;subst hw;have HK:=zq hk;have HP:=zq hpre;have hk1:k≤d.ar.length:=za;clear hk hpre
  by_cases hlt:k<d.ar.length
  ·have hlt2:k<e.ar.length:=by have:=HL1.o;omega
   obtain ⟨b,o,hA,hb,hc⟩:=HD.o.ars.at_ za;obtain ⟨b2,o2,hA2,hb2,hcm⟩:=HE.o.ars.at_ za;have hc0:=(hc k hlt).1;have hd0:=(hcm k hlt2).1;have hc1:=(hc k hlt).2;have hd1:=(hcm k hlt2).2;clear hc hcm;rw [hA2] at y10;have x10:W.cell? ⟨w.heap.size,10,none⟩=some (.slice (some ⟨b,o,none⟩) d.ar.length d.arc):=by rw [←hA];exact x10
   by_cases hee:d.ar[k]=e.ar[k]
   ·have HE2:=zq hee
    rw [←hee] at hd0 hd1;clear hee;go_wp2
    go_quiet (fail)
    go_wp2
    go_roundg (gk - 1)
    case measure=>have:=HK.o;omega
    case rel =>
     refine ⟨_,rfl,k+1,zl,zn,fun j hj=>?_⟩
     rcases bO j k with h1 | h1
     ·exact HP.o j h1
     ·obtain rfl:j=k:=by omega
      rw [List.getElem?_eq_getElem hlt,List.getElem?_eq_getElem hlt2,HE2.o]
   ·have HN:Hid (¬ zBS d e):=fun hs=>by
     unfold zBS at hs;have h:=hs.2.2.2.2.2.2.2.2.2.1;exact hee (by simp only [h])
    by_cases h0:(d.ar[k]).rg=(e.ar[k]).rg
    case neg =>
     have hb:=zAo h0;clear hee h0;go_wp2
     go_quiet (fail)
     go_wp2;go_ret
     exact zAP.no HN.o ze
    rw [←h0] at hd0
    have h1:¬ (d.ar[k]).out=(e.ar[k]).out:=fun e2=>hee (by
     cases hx:d.ar[k]
     cases hy:e.ar[k]
     simp_all)
    have hb:=bool_ne h1;clear hee h0 h1;go_wp2
    go_quiet (fail)
    go_wp2;go_ret
    exact zAP.no HN.o ze
  ·have HQ:Hid (d.ar=e.ar):=same_of HL1.o za HP.o
   clear HK HP;have HQ1:=HQ;clear HQ;go_wp2;clear hlt hk1
   go_loopg [6] d.sh.length (SdRel W d.sh e.sh)
   case atStart=>exact ⟨_,rfl,0,za,rfl,fun j hj=>absurd hj za⟩
   case round =>
    obtain ⟨q,hw,k,hk,rfl,hpre⟩:=hrel;subst hw;have HK:=zq hk;have HP:=zq hpre;have hk1:k≤d.sh.length:=za;clear hk hpre
    by_cases hlt:k<d.sh.length
    ·have hlt2:k<e.sh.length:=by have:=HL2.o;omega
     obtain ⟨b,o,hA,hb,hc⟩:=HD.o.shs.at_ za;obtain ⟨b2,o2,hA2,hb2,hcm⟩:=HE.o.shs.at_ za;have hc0:=(hc k hlt).1;have hd0:=(hcm k hlt2).1;have hc1:=(hc k hlt).2.1;have hd1:=(hcm k hlt2).2.1;have hc2:=(hc k hlt).2.2;have hd2:=(hcm k hlt2).2.2;clear hc hcm;rw [hA2] at y14;have x14:W.cell? ⟨w.heap.size,14,none⟩=some (.slice (some ⟨b,o,none⟩) d.sh.length d.shc):=by rw [←hA];exact x14
     by_cases hee:d.sh[k]=e.sh[k]
     ·have HE2:=zq hee
      rw [←hee] at hd0 hd1 hd2;clear hee;go_wp2
      go_quiet (fail)
      go_wp2
      go_roundg (gk - 1)
      case measure=>have:=HK.o;omega
      case rel =>
       refine ⟨_,rfl,k+1,zl,zn,fun j hj=>?_⟩
       rcases bO j k with h1 | h1
       ·exact HP.o j h1
       ·obtain rfl:j=k:=by omega
        rw [List.getElem?_eq_getElem hlt,List.getElem?_eq_getElem hlt2,HE2.o]
     ·have HN:Hid (¬ zBS d e):=fun hs=>by
       unfold zBS at hs;have h:=hs.2.2.2.2.2.2.2.2.2.2.2.2.2.1;exact hee (by simp only [h])
      by_cases h0:(d.sh[k]).pt=(e.sh[k]).pt
      case neg =>
       have hb:=zAo h0;clear hee h0;go_wp2
       go_quiet (fail)
       go_wp2;go_ret
       exact zAP.no HN.o ze
      rw [←h0] at hd0
      by_cases h1:(d.sh[k]).nu=(e.sh[k]).nu
      case neg =>
       have hb:=zAo h1;clear hee h0 h1;go_wp2
       go_quiet (fail)
       go_wp2;go_ret
       exact zAP.no HN.o ze
      rw [←h1] at hd1
      have h2:¬ (d.sh[k]).de=(e.sh[k]).de:=fun e2=>hee (by
       cases hx:d.sh[k]
       cases hy:e.sh[k]
       simp_all)
      have hb:=zAo h2;clear hee h0 h1 h2;go_wp2
      go_quiet (fail)
      go_wp2;go_ret
      exact zAP.no HN.o ze
    ·have HQ:Hid (d.sh=e.sh):=same_of HL2.o za HP.o
     clear HK HP;go_wp2;go_ret
     exact zAP.yes (HT.o HQ1.o HQ.o) ze
def SameT (rs:List Rg) (us:List BA) (ds:List De) (rs2:List Rg) (us2:List BA) (ds2:List De):Prop :=
 rs=rs2∧us=us2∧ds.length=ds2.length∧∀ i,i<ds.length→zBS (ds.getD i default) (ds2.getD i default)
def TtRel (W:World) (ds ds2:List De) (m:Nat) (i:Value) (wr:World):Prop :=
 ∃ k:Nat,k+m=ds.length∧i = .int .i64 k∧Below W.heap.size W wr∧∀ j,j<k→zBS (ds.getD j default) (ds2.getD j default)
theorem sameTitle_c (RA:Option Addr) (rc:Nat) (rs:List Rg) (UA:Option Addr) (uc:Nat) (us:List BA) (DA:Option Addr) (dc:Nat) (ds:List De)
  (RA2:Option Addr) (rc2:Nat) (rs2:List Rg) (UA2:Option Addr) (uc2:Nat) (us2:List BA) (DA2:Option Addr) (dc2:Nat) (ds2:List De) (w:World)
  (hr:Rgs w RA rs) (hu:Strs w UA us) (hd:Des w DA ds) (hr2:Rgs w RA2 rs2) (hu2:Strs w UA2 us2) (hd2:Des w DA2 ds2)
  (hn:rs.length≤140737488355328∧us.length≤140737488355328∧ds.length≤140737488355328) (hn2:rs2.length≤140737488355328∧us2.length≤140737488355328∧ds2.length≤140737488355328) :
  Calls Tryz.prog 7 #[.agg (tiC RA rc rs UA uc us DA dc ds),.agg (tiC RA2 rc2 rs2 UA2 uc2 us2 DA2 dc2 ds2)] w (zAP (SameT rs us ds rs2 us2 ds2) w):=by
 have HX:Hid (Bx ((w.alloc (.cells (tiC RA rc rs UA uc us DA dc ds) 26)).alloc (.cells (tiC RA2 rc2 rs2 UA2 uc2 us2 DA2 dc2 ds2) 26)) w.heap.size (tiC RA rc rs UA uc us DA dc ds) 26):=(Bx.new _ _ _).alloc _;have HY:Hid (Bx ((w.alloc (.cells (tiC RA rc rs UA uc us DA dc ds) 26)).alloc (.cells (tiC RA2 rc2 rs2 UA2 uc2 us2 DA2 dc2 ds2) 26)) (w.heap.size+1) (tiC RA2 rc2 rs2 UA2 uc2 us2 DA2 dc2 ds2) 26):=Bx.new1 _ _ _ _;have HB:Hid (Below w.heap.size w ((w.alloc (.cells (tiC RA rc rs UA uc us DA dc ds) 26)).alloc (.cells (tiC RA2 rc2 rs2 UA2 uc2 us2 DA2 dc2 ds2) 26))):=((bS w.heap.size w).alloc (aB _) _).alloc zd _;obtain ⟨W,hW⟩:∃ W,W=(w.alloc (.cells (tiC RA rc rs UA uc us DA dc ds) 26)).alloc (.cells (tiC RA2 rc2 rs2 UA2 uc2 us2 DA2 dc2 ds2) 26):=⟨_,rfl⟩;rw [←hW] at HX HY HB;have HSF:=zq (sameFrame_c RA rc rs UA uc us DA dc ds RA2 rc2 rs2 UA2 uc2 us2 DA2 dc2 ds2 W (hr.below HB.o) (hu.below HB.o) (hr2.below HB.o) (hu2.below HB.o) ⟨hn.1,hn.2.1⟩ ⟨hn2.1,hn2.2.1⟩);have HDE:=zq (hd.below HB.o);have HDF:=zq (hd2.below HB.o);have hdl:=hn.2.2;clear hr hr2 hu hu2 hd hd2
 go_enter Tryz.func7,Tryz.ntmps7
 iterate 13 go_step
 rw [←hW];clear hW;have hsx:=HX.o.lt;have hsy:=HY.o.lt;obtain ⟨x0,x1,x2⟩:=HX.o.t;obtain ⟨y0,y1,y2⟩:=HY.o.t
 go_wp2_with fail
 with_reducible refine HSF.o.mono ?_
 rintro x w1 ⟨r,rfl,hrr,hb1⟩;have HX1:=zq (HX.o.below hb1);have HY1:=zq (HY.o.below hb1);have HB1:=zq (zAb HB.o hb1);have HDE1:=zq (HDE.o.below hb1);have HDF1:=zq (HDF.o.below hb1);clear hsx hsy x0 x1 x2 y0 y1 y2 hb1 HX HY HB HDE HDF HSF;have hsx:=HX1.o.lt;have hsy:=HY1.o.lt;have x2:=HX1.o.c 2 rfl;have y2:w1.cell? ⟨w.heap.size+1,2,none⟩=some (.slice DA2 ds2.length dc2):=HY1.o.c 2 rfl
 by_cases hfr:rs=rs2∧us=us2
 case neg =>
  have hrf:r=false:=by
   cases hh:r with
   | false=>rfl
   | true=>exact absurd (hrr.1 hh) hfr
  subst hrf;have HE:Hid (¬ SameT rs us ds rs2 us2 ds2):=fun e=>hfr ⟨e.1,e.2.1⟩
  clear hrr hfr;go_wp2;go_ret
  exact zAP.no HE.o HB1.o
 have hrt:r=true:=hrr.2 hfr;subst hrt;have HFR:=zq hfr;clear hrr hfr
 by_cases hl:ds.length=ds2.length
 case neg =>
  have HE:Hid (¬ SameT rs us ds rs2 us2 ds2):=fun e=>hl e.2.2.1
  have hlb:((ds.length:Int) != (ds2.length:Int))=true:=zg;clear hl;go_wp2;go_ret
  exact zAP.no HE.o HB1.o
 rw [←hl] at y2;have HL:=zq hl;clear hl;go_wp2;clear hsx hsy x2 y2
 go_loopg [5] ds.length (TtRel w1 ds ds2)
 case atStart=>exact ⟨0,za,rfl,bS _ _,fun j hj=>absurd hj za⟩
 case round =>
  obtain ⟨k,hk,rfl,hbel,hpre⟩:=hrel;have HK:=zq hk;have HP:=zq hpre;have HBL:=zq hbel;have HX2:=zq (HX1.o.below hbel);have HY2:=zq (HY1.o.below hbel);have hk1:k≤ds.length:=za;have hsx:=HX2.o.lt;have hsy:=HY2.o.lt;clear hk hpre hbel
  by_cases hlt:k<ds.length
  ·have hlt2:k<ds2.length:=by have:=HL.o;omega
   have x2:wr.cell? ⟨w.heap.size,2,none⟩=some (.slice DA ds.length dc):=HX2.o.c 2 rfl;have y2:wr.cell? ⟨w.heap.size+1,2,none⟩=some (.slice DA2 ds.length dc2):=by rw [HL.o];exact HY2.o.c 2 rfl
   obtain ⟨b,o,hA,hb,hc⟩:=(HDE1.o.below HBL.o) za;obtain ⟨b2,o2,hA2,hb2,hcm⟩:=(HDF1.o.below HBL.o) za;obtain ⟨d,hdd⟩:∃ d,d=ds[k]:=⟨_,rfl⟩;obtain ⟨e,hee⟩:∃ e,e=ds2[k]:=⟨_,rfl⟩;have hr1:=(hc k hlt).1;have hr2:=(hcm k hlt2).1;rw [←hdd] at hr1;rw [←hee] at hr2;have hkd:DeOk wr d:=by rw [hdd];exact (hc k hlt).2
   have hke:DeOk wr e:=by rw [hee];exact (hcm k hlt2).2
   have HGD:Hid (ds.getD k default=d):=by show _=_;rw [hdd];simp [List.getD,hlt]
   have HGE:Hid (ds2.getD k default=e):=by show _=_;rw [hee];simp [List.getD,hlt2]
   have HSD:=zq (sameDeed_c d e wr.drew (hkd.below (zAc (bS _ _) 1)) (hke.below (zAc (bS _ _) 1)));rw [hA] at x2;rw [hA2] at y2;have cx:∀ w',Below wr.heap.size wr w'→w'.cell? ⟨w.heap.size,2,none⟩=some (.slice (some ⟨b,o,none⟩) ds.length dc):=fun w' hx=>(hx.cell (p:=⟨w.heap.size,2,none⟩) hsx).trans x2
   have cy:∀ w',Below wr.heap.size wr w'→w'.cell? ⟨w.heap.size+1,2,none⟩=some (.slice (some ⟨b2,o2,none⟩) ds.length dc2):=fun w' hx=>(hx.cell (p:=⟨w.heap.size+1,2,none⟩) hsy).trans y2
   clear hc hcm hkd hke hdd hee hA hA2
   go_wp2_with fail
   refine dW (S:=(fun w'=>Below wr.heap.size wr w')) zb ?_ (fun hHeld=>?_)
   ·(first | exact HB6.o | exact zAc (bS _ _) 1)
   refine Dw.tk 0 ?_ rfl ?_ zh ?_
   rotate_left 1
   ·(intro w _;go_simp;try with_reducible rfl)
   simp only [eB,cN,Act.put,cF,dY,bV];refine Dw.tk 1 ?_ rfl ?_ zh ?_
   rotate_left 1
   ·(intro w hSw;have e1:=cx _ hSw;go_simp;try with_reducible rfl)
   simp only [Dw.lay,Act.put];refine Dw.tk 2 ?_ rfl ?_ zh ?_
   rotate_left 1
   ·(intro w _;go_simp;try with_reducible rfl)
   simp only [Dw.lay,Act.put];refine Dw.tk 3 ?_ rfl ?_ zh ?_
   rotate_left 1
   ·(intro w _;go_simp;try with_reducible rfl)
   simp only [Dw.lay,Act.put];refine dX (i:=4) (v:=deV d) rfl zb zb zb (fun _ _ _ h=>h) ?_ zh ?_
   ·exact zCQ zb (.tmp 29) rfl b (o+k*16) zb d (fun w hSw j v hv=>(hSw.cell hb).trans (hr1 j v hv))
   simp only [Dw.lay,Act.put];refine Dw.tk 5 ?_ rfl ?_ zh ?_
   rotate_left 1
   ·(intro w _;go_simp;try with_reducible rfl)
   simp only [Dw.lay,Act.put];refine Dw.tk 6 ?_ rfl ?_ zh ?_
   rotate_left 1
   ·(intro w hSw;have e1:=cy _ hSw;go_simp;try with_reducible rfl)
   simp only [Dw.lay,Act.put];refine Dw.tk 7 ?_ rfl ?_ zh ?_
   rotate_left 1
   ·(intro w _;go_simp;try with_reducible rfl)
   simp only [Dw.lay,Act.put];refine Dw.tk 8 ?_ rfl ?_ zh ?_
   rotate_left 1
   ·(intro w _;go_simp;try with_reducible rfl)
   simp only [Dw.lay,Act.put];refine dX (i:=9) (v:=deV e) rfl zb zb zb (fun _ _ _ h=>h) ?_ zh ?_
   ·exact zCQ zb (.tmp 34) rfl b2 (o2+k*16) zb e (fun w hSw j v hv=>(hSw.cell hb2).trans (hr2 j v hv))
   simp only [Dw.lay,Act.put];refine Dw.rd1 10 rfl (fun K hK=>?_)
   clear hHeld
   go_simp
   go_at_call 20
   with_reducible refine (HSD.o).mono ?_
   rintro x w6 ⟨r,rfl,hrr,hb6⟩;have HB6:=zq (zAb (zAc (bS wr.heap.size wr) 1) hb6);refine hK.out _ _ ?_ (fun hHeld=>?_)
   ·(first | exact HB6.o | exact zAc (bS _ _) 1)
   clear hK K
   try simp only [Dw.lay,Act.put]
   refine Dw.tk 11 ?_ rfl ?_ zh ?_
   rotate_left 1
   ·(intro w _;go_simp;try with_reducible rfl)
   simp only [Dw.lay,Act.put];refine dZ zb ?_ _
   clear hHeld
   by_cases hsd:zBS d e
   ·have hrt:r=true:=hrr.2 hsd
    subst hrt;have HSM:=zq hsd;clear hrr hsd;go_wp2
    go_roundg (gk - 1)
    case measure=>have:=HK.o;omega
    case rel =>
     refine ⟨k+1,zl,zn,zAb HBL.o HB6.o,fun j hj=>?_⟩
     rcases bO j k with h1 | h1
     ·exact HP.o j h1
     ·obtain rfl:j=k:=by omega
      rw [HGD.o,HGE.o];exact HSM.o
   ·have hrf:r=false:=by
     cases hh:r with
     | false=>rfl
     | true=>exact absurd (hrr.1 hh) hsd
    subst hrf
    have HE:Hid (¬ SameT rs us ds rs2 us2 ds2):=fun hs=>hsd (by
     have:=hs.2.2.2 k hlt
     rwa [HGD.o,HGE.o] at this)
    clear hrr hsd;go_wp2;go_ret
    exact zAP.no HE.o (zAb HB1.o (zAb HBL.o HB6.o))
  ·obtain rfl:k=ds.length:=by omega
   have x2:=HX2.o.c 2 rfl;go_wp2;go_ret
   exact zAP.yes ⟨HFR.o.1,HFR.o.2,HL.o,HP.o⟩ (zAb HB1.o HBL.o)
abbrev encV:Value→List Value:=fun v=>[v]
theorem elSets:ElemT Tryz.prog 113 117 (.slice none 0 0) 1 24:=⟨Tryz.underlying113,zb,rfl,zc⟩
def SlA (w:World) (B:Option Addr) (aa:List (List Ar)):Prop :=
 ∃ b o:Nat,B=some ⟨b,o,none⟩∧b<w.heap.size∧∀ i (h:i<aa.length),∃ Ai ci,w.cell? ⟨b,o+i,none⟩=some (.slice Ai (aa[i]).length ci)∧Ars w Ai aa[i]
theorem SlA.below {w w':World} {B:Option Addr} {aa:List (List Ar)} (h:SlA w B aa) (hb:Below w.heap.size w w'):SlA w' B aa:=by
 obtain ⟨b,o,rfl,hlt,hc⟩:=h;refine ⟨b,o,rfl,cX hlt hb.size,fun i hi=>?_⟩
 obtain ⟨Ai,ci,h1,h2⟩:=hc i hi;exact ⟨Ai,ci,(hb.cell hlt).trans h1,h2.below hb⟩
def SetsOf (w:World) (l:List Rg) (aa:List (List Ar)) (vs:List Value):Prop :=
 ∀ (i:Nat) (v:Value),vs[i]?=some v→∃ a,aa[i]?=some a∧∃ gi ci,v = .slice (some ⟨gi,0,none⟩) (inL l a).length ci∧w.heap[gi]?=some (.cells (bArr (inL l a) (inL l a).length) 4 (0,0))
theorem SetsOf.keep {w w':World} {l:List Rg} {aa:List (List Ar)} {vs:List Value} (h:SetsOf w l aa vs) (hk:∀ (g:Nat) (cs:Array Value),w.heap[g]?=some (.cells cs 4 (0,0))→w'.heap[g]?=w.heap[g]?):SetsOf w' l aa vs:=fun i v hv=>by
 obtain ⟨a,ha,gi,ci,h1,h2⟩:=h i v hv;exact ⟨a,ha,gi,ci,h1,(hk _ _ h2).trans h2⟩
theorem SetsOf.below {w w':World} {l:List Rg} {aa:List (List Ar)} {vs:List Value} (h:SetsOf w l aa vs) (hb:Below w.heap.size w w'):SetsOf w' l aa vs :=
 h.keep fun _ _ hg=>hb.block _ (zAl hg)
theorem SetsOf.push {w:World} {l:List Rg} {aa:List (List Ar)} {vs:List Value} (h:SetsOf w l aa vs) {a:List Ar} {gi ci:Nat} (ha:aa[vs.length]?=some a) (hg:w.heap[gi]?=some (.cells (bArr (inL l a) (inL l a).length) 4 (0,0))) :
  SetsOf w l aa (vs++[.slice (some ⟨gi,0,none⟩) (inL l a).length ci]):=fun i v hv=>by
 rcases Nat.lt_trichotomy i vs.length with h1 | h1 | h1
 ·rw [List.getElem?_append_left h1] at hv
  exact h i v hv
 ·subst h1
  simp at hv
  exact ⟨a,ha,gi,ci,hv.symm,hg⟩
 ·rw [List.getElem?_append_right za,List.getElem?_eq_none zg] at hv
  cases hv
theorem six_cells {w:World} {s:Nat} {a0 a1 a2 a3 a4 a5:Value} {T:TypeId} (h:w.heap[s]?=some (.cells #[a0,a1,a2,a3,a4,a5] T (0,0))) :
  w.cell? ⟨s,0,none⟩=some a0∧w.cell? ⟨s,1,none⟩=some a1∧w.cell? ⟨s,2,none⟩=some a2∧w.cell? ⟨s,3,none⟩=some a3∧w.cell? ⟨s,4,none⟩=some a4∧w.cell? ⟨s,5,none⟩=some a5 :=
 ⟨by rw [bQ w _ 0 _ _ _ h];rfl,by rw [bQ w _ 1 _ _ _ h];rfl,by rw [bQ w _ 2 _ _ _ h];rfl,by rw [bQ w _ 3 _ _ _ h];rfl,by rw [bQ w _ 4 _ _ _ h];rfl,by rw [bQ w _ 5 _ _ _ h];rfl⟩
theorem six_free {w:World} {s:Nat} {cs:Array Value} {T:TypeId} (h:w.heap[s]?=some (.cells cs T (0,0))) :
  w.frozen? ⟨s,0,none⟩=false∧w.frozen? ⟨s,1,none⟩=false∧w.frozen? ⟨s,2,none⟩=false∧w.frozen? ⟨s,3,none⟩=false∧w.frozen? ⟨s,4,none⟩=false∧w.frozen? ⟨s,5,none⟩=false :=
 ⟨cD w _ 0 _ _ h,cD w _ 1 _ _ h,cD w _ 2 _ _ h,cD w _ 3 _ _ h,cD w _ 4 _ _ h,cD w _ 5 _ _ h⟩
theorem below6 {B:Nat} {w w':World} {s:Nat} (h:Below B w w') (hs:B≤s) (b0 b1 b2 b3 b4 b5:Value):Below B w ((((((w'.setCell ⟨s,0,none⟩ b0).setCell ⟨s,1,none⟩ b1).setCell ⟨s,2,none⟩ b2).setCell ⟨s,3,none⟩ b3).setCell ⟨s,4,none⟩ b4).setCell ⟨s,5,none⟩ b5) :=
 (((((h.setCell (p:=⟨s,0,none⟩) hs _).setCell (p:=⟨s,1,none⟩) hs _).setCell (p:=⟨s,2,none⟩) hs _).setCell (p:=⟨s,3,none⟩) hs _).setCell (p:=⟨s,4,none⟩) hs _).setCell (p:=⟨s,5,none⟩) hs _
theorem z6 {j:Nat} {v:Value} (h:(#[zAv,.map none,zAv,.map none,zAv,zAv]:Array Value)[j]?=some v):v=zAv∨v = .map none:=by
 match j,h with
 | 0,h=>simp at h;exact .inl h.symm
 | 1,h=>simp at h;exact .inr h.symm
 | 2,h=>simp at h;exact .inl h.symm
 | 3,h=>simp at h;exact .inr h.symm
 | 4,h=>simp at h;exact .inl h.symm
 | 5,h=>simp at h;exact .inl h.symm
 | j+6,h=>rw [Array.getElem?_eq_none zd] at h;cases h
theorem rd1_set0 {α:Type} {f:α→Value} {w w':World} {A:Option Addr} {L:List α} {s:Nat} {T:TypeId} (h:Rd1 f w A L) (hs:w.heap[s]?=some (.cells #[zAv,.map none,zAv,.map none,zAv,zAv] T (0,0))) (hk:∀ x,x≠s→w'.heap[x]?=w.heap[x]?) (hf:∀ x,f x≠zAv∧f x≠.map none):Rd1 f w' A L:=fun hl=>by
 obtain ⟨b,o,rfl,hc⟩:=h hl;refine ⟨b,o,rfl,fun i hi=>?_⟩
 have hne:b≠s:=fun e=>by
  subst e;have:=hc i hi;rw [bQ w b _ _ _ _ hs] at this
  rcases z6 this with h1 | h1
  ·exact (hf _).1 h1
  ·exact (hf _).2 h1
 rw [World.cell?_of_block (hk _ hne)];exact hc i hi
theorem rd2_set0 {α:Type} {f f2:α→Value} {w w':World} {A:Option Addr} {L:List α} {s:Nat} {T:TypeId} (h:Rd2 f f2 w A L) (hs:w.heap[s]?=some (.cells #[zAv,.map none,zAv,.map none,zAv,zAv] T (0,0))) (hk:∀ x,x≠s→w'.heap[x]?=w.heap[x]?) (hf:∀ x,f x≠zAv∧f x≠.map none):Rd2 f f2 w' A L:=fun hl=>by
 obtain ⟨b,o,rfl,hc⟩:=h hl;refine ⟨b,o,rfl,fun i hi=>?_⟩
 have hne:b≠s:=fun e=>by
  subst e;have:=(hc i hi).1;rw [bQ w b _ _ _ _ hs] at this
  rcases z6 this with h1 | h1
  ·exact (hf _).1 h1
  ·exact (hf _).2 h1
 rw [World.cell?_of_block (hk _ hne),World.cell?_of_block (hk _ hne)];exact hc i hi
theorem WR.set0 {w w':World} {A:Option Addr} {r1 r2 g1 g2:Nat} {AL:Option Addr} {l:List Rg} {s:Nat} (h:WR w A r1 r2 g1 g2 AL l) (hs:w.heap[s]?=some (.cells #[zAv,.map none,zAv,.map none,zAv,zAv] 97 (0,0))) (hk:∀ x,x≠s→w'.heap[x]?=w.heap[x]?) (hsz:w.heap.size≤w'.heap.size):WR w' A r1 r2 g1 g2 AL l:=by
 obtain ⟨cs,hcs⟩:=h.h3;have hg2:g2≠s:=zBp hcs hs zc;refine ⟨rd2_set0 h.rg hs hk (fun x=>zd),h.m1.keep (hk _ (zAq h.m1 hs).symm),rd1_set0 h.lv hs hk (fun x=>zd),h.m2.keep (hk _ (zAq h.m2 hs).symm),fun i hi=>?_,fun i hi=>?_,cX h.h1 hsz,cX h.h2 hsz,cs,(hk _ hg2).trans hcs⟩
 ·have hne:g1≠s:=fun e=>by
   subst e;have:=h.up i hi;rw [bQ w g1 _ _ _ _ hs] at this
   rcases z6 this with h1 | h1<;>simp at h1
  rw [World.cell?_of_block (hk _ hne)];exact h.up i hi
 ·obtain ⟨Ai,ci,h1,h2⟩:=h.bl i hi
  exact ⟨Ai,ci,by rw [World.cell?_of_block (hk _ hg2)];exact h1,rd1_set0 h2 hs hk (fun x=>zd)⟩
theorem size6 (w:World) (s:Nat) (b0 b1 b2 b3 b4 b5:Value):w.heap.size≤((((((w.setCell ⟨s,0,none⟩ b0).setCell ⟨s,1,none⟩ b1).setCell ⟨s,2,none⟩ b2).setCell ⟨s,3,none⟩ b3).setCell ⟨s,4,none⟩ b4).setCell ⟨s,5,none⟩ b5).heap.size:=zd
theorem own_rd {w w':World} {base n c:Nat} {T:TypeId} {O:Option Addr} {vs:List Value} (h:zAF encV 1 w base T (.slice O n c) vs) (hk:∀ g,base≤g→w'.heap[g]?=w.heap[g]?):Rd1 id w' O vs:=by
 obtain ⟨O',c',e,hr⟩:=(own_keepB h fun g h1 _=>hk g h1).rd1
 injection e with e1
 subst e1;exact hr
def zw:Value:=.agg #[zAv,.map none,zAv,.map none,zAv,zAv]
def areasF (l:List Rg) (aa:List (List Ar)):Int:=if zEd l≠0 then zEd l else ((aa.map (zDN l)).find? fun f=>decide (f≠0)).getD 0
def GivesAs (A:Option Addr) (c:Nat) (l:List Rg) (aa:List (List Ar)) (w:World) (e:Ending) (w':World):Prop :=
 Below w.heap.size w w'∧((areasF l aa≠0∧e = .returned (.tuple #[zw,zAv,.int .i64 (areasF l aa)])) ∨
  (zEd l=0∧(∀ i (h:i<aa.length),zDN l aa[i]=0)∧∃ r1 r2 g1 g2 AL cL O co vs,e = .returned (.tuple #[wv A c r1 r2 g1 g2 AL cL l,.slice O aa.length co,.int .i64 0])∧WR w' A r1 r2 g1 g2 AL l ∧
   vs.length=aa.length∧Rd1 id w' O vs∧SetsOf w' l aa vs))
def ArRel (W:World) (l:List Rg) (aa:List (List Ar)) (m:Nat) (out i:Value) (wr:World):Prop :=
 ∃ (k:Nat) (vs:List Value),k+m=aa.length∧i = .int .i64 k∧vs.length=k∧(∀ j (h:j<aa.length),j<k→zDN l aa[j]=0)∧zAF encV 1 wr W.heap.size 117 out vs∧SetsOf wr l aa vs∧Below W.heap.size W wr
theorem areasF_R {l:List Rg} {aa:List (List Ar)} (h:zEd l≠0):areasF l aa=zEd l:=by rw [areasF,aE h]
theorem areasF_A {l:List Rg} {aa:List (List Ar)} (h:zEd l=0) {k:Nat} (hk:k<aa.length) (hpre:∀ j (h:j<aa.length),j<k→zDN l aa[j]=0) (hf:zDN l aa[k]≠0):areasF l aa=zDN l aa[k]:=by
 rw [areasF,aC (by simp [h])]
 have:(aa.map (zDN l)).find? (fun f=>decide (f≠0))=some (zDN l aa[k]):=by
  rw [List.find?_eq_some_iff_getElem];refine ⟨by simpa using hf,k,by simpa using hk,zd,fun j hj=>?_⟩
  simp [hpre j za hj]
 rw [this];rfl
theorem areas_c (A B:Option Addr) (c cb:Nat) (l:List Rg) (aa:List (List Ar)) (w:World) (h:Rgs w A l) (hz:∀ i (h:i<l.length),(l[i]).nm.size≤9223372036854775807) (h2:SlA w B aa) (hn2:aa.length≤2) :
  Calls Tryz.prog 58 #[.slice A l.length c,.slice B aa.length cb] w (GivesAs A c l aa w):=by
 have hwb:Below w.heap.size w (w.alloc (.cells #[zAv,.map none,zAv,.map none,zAv,zAv] 97)):=(bS _ _).alloc (aB _) _;have hblk:=cI w (.cells #[zAv,.map none,zAv,.map none,zAv,zAv] 97);generalize hres:zEd l=res;have HR:=zq hres
 go_enter Tryz.func58,Tryz.ntmps58
 go_wp2_with fail
 refine (CheckRegions_c _ _ _ _ (h.below hwb) hz).mono ?_
 rintro e w1 ⟨rfl,hb1⟩;have hw1:Below w.heap.size w w1:=zAb hwb hb1;have hblk1:w1.heap[w.heap.size]?=some (.cells #[zAv,.map none,zAv,.map none,zAv,zAv] 97 (0,0)):=(hb1.block _ zd).trans hblk;have h1:=h.below hw1;have h21:=h2.below hw1;have HW1:=zq hw1;rw [hres];clear hwb hblk hb1 h h2 hw1
 by_cases hr:res=0
 ·subst hr
  have g:=good_of hres;clear hres
  go_wp2_with fail
  refine (newWorld_c A c l w1 g h1).mono ?_
  rintro e w2 ⟨r1,r2,g1,g2,AL,cL,rfl,hwr2,hb2⟩;unfold wv;have hblk2:w2.heap[w.heap.size]?=some (.cells #[zAv,.map none,zAv,.map none,zAv,zAv] 97 (0,0)):=(hb2.block _ (zAl hblk1)).trans hblk1;have hsl2:=h21.below hb2;have hwb2:Below w.heap.size w w2:=zAb HW1.o hb2;clear hb2 HW1 h1 h21 hblk1;go_wp2;generalize hW:w2.alloc (.cells #[.slice A l.length c,.map (some r1),.slice AL (zCq l (fun i=>!zBc l i) l.length).length cL,.map (some r2),.slice (some ⟨g1,0,none⟩) l.length l.length,.slice (some ⟨g2,0,none⟩) l.length l.length] 97)=W
  have hWr:=cI w2 (.cells #[.slice A l.length c,.map (some r1),.slice AL (zCq l (fun i=>!zBc l i) l.length).length cL,.map (some r2),.slice (some ⟨g1,0,none⟩) l.length l.length,.slice (some ⟨g2,0,none⟩) l.length l.length] 97)
  have hWb:Below w2.heap.size w2 W:=qz;rw [hW] at hWr;have hw2W:w2.heap.size<W.heap.size:=zAl hWr;have hblkW:W.heap[w.heap.size]?=some (.cells #[zAv,.map none,zAv,.map none,zAv,zAv] 97 (0,0)):=(hWb.block _ (zAl hblk2)).trans hblk2;have hwW:w.heap.size<W.heap.size:=zAl hblkW;obtain ⟨s8,hs8⟩:∃ s8,s8=w2.heap.size:=⟨_,rfl⟩;rw [←hs8] at hWr hw2W ⊢;have HWR:=zq (hwr2.below hWb);have HSL:=zq (hsl2.below hWb);have HWb:=zq (hwb2.trans (hWb.mono hwb2.size));have HWr:=zq hWr;have HBk:=zq hblkW;clear hW hWr hWb hblkW hblk2 hwr2 hsl2 hwb2 hs8;clear w1 w2
  go_loopg [9,23] aa.length (ArRel W l aa)
  case atStart=>exact ⟨0,[],za,rfl,rfl,fun j _ hj=>absurd hj za,zAF.nil _ _ _ _ _,fun i v hv=>by simp at hv,bS _ _⟩
  case round =>
   obtain ⟨k,vs,hk,rfl,hvs,hpre,hown,hsets,hbel⟩:=hrel;have HK:=zq hk;have HP:=zq hpre;have HB:=zq hbel;have HV:=zq hvs;have hk1:k≤aa.length:=za;have hs8r:s8<wr.heap.size:=cX hw2W hbel.size;have hwr:w.heap.size<wr.heap.size:=cX hwW hbel.size;have hrow:wr.heap[s8]?=_:=(hbel.block _ hw2W).trans HWr.o;have hs0:wr.cell? ⟨s8,0,none⟩=some (.slice A l.length c):=by rw [bQ _ s8 0 _ _ _ hrow];rfl
   have hs1:wr.cell? ⟨s8,1,none⟩=some (.map (some r1)):=by rw [bQ _ s8 1 _ _ _ hrow];rfl
   have hs2:wr.cell? ⟨s8,2,none⟩=some (.slice AL (zCq l (fun i=>!zBc l i) l.length).length cL):=by rw [bQ _ s8 2 _ _ _ hrow];rfl
   have hs3:wr.cell? ⟨s8,3,none⟩=some (.map (some r2)):=by rw [bQ _ s8 3 _ _ _ hrow];rfl
   have hs4:wr.cell? ⟨s8,4,none⟩=some (.slice (some ⟨g1,0,none⟩) l.length l.length):=by rw [bQ _ s8 4 _ _ _ hrow];rfl
   have hs5:wr.cell? ⟨s8,5,none⟩=some (.slice (some ⟨g2,0,none⟩) l.length l.length):=by rw [bQ _ s8 5 _ _ _ hrow];rfl
   have HRow:=zq hrow;clear hk hpre hbel hvs hrow
   by_cases hlt:k<aa.length
   ·obtain ⟨b,o,rfl,hb,hc⟩:=HSL.o.below HB.o
    obtain ⟨Ai,ci,hci,hai⟩:=hc k hlt;have hwrr:=HWR.o.below HB.o;clear hc;generalize hak:zDN l aa[k]=fk;have HAK:=zq hak
    go_wp2_with fail
    refine (checkArea_c A Ai c r1 r2 g1 g2 AL cL ci l aa[k] wr g hwrr hai).mono ?_
    rintro e w3 ⟨rfl,hb3⟩;rw [hak]
    by_cases hf:fk=0
    ·subst hf
     have ga:=goodA_of hak;have hrow3:w3.heap[s8]?=_:=(hb3.block _ hs8r).trans HRow.o;obtain ⟨hs0',hs1',hs2',hs3',hs4',hs5'⟩:=six_cells hrow3;have hs8':s8<w3.heap.size:=zAl hrow3;have hwr3:=hwrr.below hb3;have hai3:=hai.below hb3;have hown3:=hown.below hb3;have hsets3:=hsets.below hb3;have hbel3:Below W.heap.size W w3:=zAb HB.o hb3;clear hs0 hs1 hs2 hs3 hs4 hs5 hrow3 hb3 hwrr hai hown hsets hak hci hb hwr
     go_wp2_with fail
     refine (in_c A Ai c r1 r2 g1 g2 AL cL ci l aa[k] w3 g ga hwr3 hai3).mono ?_
     rintro e w4 ⟨gi,cgi,rfl,hgi,hb4⟩;have hown4:=hown3.below hb4;have hsets4:=hsets3.below hb4;have hbel4:Below W.heap.size W w4:=zAb hbel3 hb4;have hWle:W.heap.size≤w4.heap.size:=hbel4.size;clear hown3 hsets3 hbel3 hb4 hs0' hs1' hs2' hs3' hs4' hs5' hwr3 hai3 hs8';have hvl:vs.length+1≤2:=by have:=HV.o;omega
     have HSP:=zq (SetsOf.push (ci:=cgi) hsets4 (a:=aa[k]) (gi:=gi) (by rw [HV.o];simp [hlt]) hgi)
     go_wp2_with (at_builtin;refine wpList_push _ _ _ elSets rfl rfl W.heap.size _ vs rfl (hown4.alloc _) w4.heap.size 1 (.slice (some ⟨gi,0,none⟩) (inL l aa[k]).length cgi) rfl (cI _ _) rfl zu zt za zg ?_;intro v5 w5 hown5 hg5 hb5)
     have hkeep:∀ (g:Nat) (cs:Array Value),w4.heap[g]?=some (.cells cs 4 (0,0))→w5.heap[g]?=w4.heap[g]?:=fun g cs hg =>
      (hg5.block _ (zAl (zBz hg)) fun e2=>by
       obtain ⟨_,cs',hcs⟩:=zDd hown4 e2.symm;exact zBp hg hcs zc rfl).trans ((zBz hg).trans hg.symm)
     have HO5:=zq hown5;have HS5:=zq (HSP.o.keep hkeep);have HB5:=zq ((hbel4.alloc hWle _).trans hb5);clear hown4 hsets4 hbel4 hown5 hg5 hb5 hkeep hgi HSP;go_wp2
     go_roundg (gk - 1)
     case measure=>have:=HK.o;omega
     case rel =>
      refine ⟨k+1,_,zl,zn,by simp [HV.o],fun j hj hjk=>?_,HO5.o,HS5.o,HB5.o⟩
      rcases bO j k with h1 | h1
      ·exact HP.o j hj h1
      ·obtain rfl:j=k:=by omega
       exact HAK.o
    ·have hfb:(fk != 0)=true:=by simpa using hf
     have hblk3:w3.heap[w.heap.size]?=_:=(hb3.block _ hwr).trans ((HB.o.block _ hwW).trans HBk.o);obtain ⟨hd0,hd1,hd2,hd3,hd4,hd5⟩:=six_cells hblk3;obtain ⟨hf0,hf1,hf2,hf3,hf4,hf5⟩:=six_free hblk3;have ha:areasF l aa=fk:=by rw [areasF_A HR.o hlt HP.o (by rw [hak];exact hf)];exact hak
     have HA:=zq ha;have HB3:=zq (HWb.o.trans ((zAb HB.o hb3).mono (bG hwW)));clear hblk3 hs0 hs1 hs2 hs3 hs4 hs5 hb3 hwrr hai hown hsets hak hci hb hwr ha;go_wp2;refine dD (v:=.tuple #[zw,zAv,.int .i64 fk]) ?_ rfl ?_
     ·simp [results,Tryz.results58,go_sem,zw,hd0,hd1,hd2,hd3,hd4,hd5]
     ·exact ⟨below6 HB3.o (aB _) _ _ _ _ _ _,.inl ⟨by rw [HA.o];exact hf,by rw [HA.o]⟩⟩
   ·have hke:k=aa.length:=by omega
    have HKE:=zq hke;have hblk3:wr.heap[w.heap.size]?=_:=(HB.o.block _ hwW).trans HBk.o;obtain ⟨hd0,hd1,hd2,hd3,hd4,hd5⟩:=six_cells hblk3;obtain ⟨hf0,hf1,hf2,hf3,hf4,hf5⟩:=six_free hblk3;have HO:=zq hown;have HS:=zq hsets;have HB3:=zq (HWb.o.trans (HB.o.mono (bG hwW)));obtain ⟨O,co,rfl,hrd⟩:=hown.rd1;have HD:=zq hrd;have HBL:=zq hblk3;clear hblk3 hown hsets hke hrd;go_wp2;refine dD (v:=.tuple #[wv A c r1 r2 g1 g2 AL cL l,.slice O aa.length co,.int .i64 0]) ?_ rfl ?_
    ·have e:vs.length=aa.length:=by rw [HV.o,HKE.o]
     simp [results,Tryz.results58,go_sem,wv,hd0,hd1,hd2,hd3,hd4,hd5,e]
    ·refine ⟨below6 HB3.o (aB _) _ _ _ _ _ _,.inr ⟨HR.o,fun i hi=>HP.o i hi (by rw [HKE.o];exact hi),r1,r2,g1,g2,AL,cL,O,co,vs,rfl,?_,by rw [HV.o,HKE.o],?_,?_⟩⟩
     ·exact (HWR.o.below HB.o).set0 HBL.o (setCells6 _ _ _ _ _ _) (size6 _ _ _ _ _ _ _ _)
     ·exact own_rd HO.o fun g hg=>setCells6 _ _ _ _ _ _ _ (Nat.ne_of_gt (cX hwW hg))
     ·exact HS.o.keep fun g cs hg=>setCells6 _ _ _ _ _ _ _ (fun e=>by rw [e,HBL.o] at hg;injection hg with hg;injection hg with _ hg;exact absurd hg zc)
 ·have hrb:(res != 0)=true:=by simpa using hr
  have hd0:w1.cell? ⟨w.heap.size,0,none⟩=some zAv:=by rw [bQ w1 _ 0 _ _ _ hblk1];rfl
  have hd1:w1.cell? ⟨w.heap.size,1,none⟩=some (.map none):=by rw [bQ w1 _ 1 _ _ _ hblk1];rfl
  have hd2:w1.cell? ⟨w.heap.size,2,none⟩=some zAv:=by rw [bQ w1 _ 2 _ _ _ hblk1];rfl
  have hd3:w1.cell? ⟨w.heap.size,3,none⟩=some (.map none):=by rw [bQ w1 _ 3 _ _ _ hblk1];rfl
  have hd4:w1.cell? ⟨w.heap.size,4,none⟩=some zAv:=by rw [bQ w1 _ 4 _ _ _ hblk1];rfl
  have hd5:w1.cell? ⟨w.heap.size,5,none⟩=some zAv:=by rw [bQ w1 _ 5 _ _ _ hblk1];rfl
  have hf0:=cD w1 _ 0 _ _ hblk1;have hf1:=cD w1 _ 1 _ _ hblk1;have hf2:=cD w1 _ 2 _ _ hblk1;have hf3:=cD w1 _ 3 _ _ hblk1;have hf4:=cD w1 _ 4 _ _ hblk1;have hf5:=cD w1 _ 5 _ _ hblk1;clear hblk1 hres;go_wp2;refine dD (v:=.tuple #[zw,zAv,.int .i64 res]) ?_ rfl ?_
  ·simp [results,Tryz.results58,go_sem,zw,hd0,hd1,hd2,hd3,hd4,hd5]
  ·have ha:areasF l aa=res:=by rw [areasF_R (by rw [HR.o];exact hr)];exact HR.o
   refine ⟨(((((HW1.o.setCell (p:=⟨w.heap.size,0,none⟩) (aB _) _).setCell (p:=⟨w.heap.size,1,none⟩) (aB _) _).setCell (p:=⟨w.heap.size,2,none⟩) (aB _) _).setCell (p:=⟨w.heap.size,3,none⟩) (aB _) _).setCell (p:=⟨w.heap.size,4,none⟩) (aB _) _).setCell (p:=⟨w.heap.size,5,none⟩) (aB _) _,.inl ⟨by rw [ha];exact hr,by rw [ha]⟩⟩
def GivesS2 (r:List BA×Int) (w:World) (e:Ending) (w':World):Prop :=
 ∃ A c,e = .returned (.tuple #[.slice A r.1.length c,.int .i64 r.2])∧Strs w' A r.1∧Below w.heap.size w w'
theorem GivesS2.err {r:List BA×Int} {w w':World} {f:Int} (hr:r=([],f)) (hw:Below w.heap.size w w'):GivesS2 r w (.returned (.tuple #[.slice none 0 0,.int .i64 f])) w':=by
 subst hr;exact ⟨none,0,rfl,Rd1.nil,hw⟩
theorem GivesS2.ok {r:List BA×Int} {l:List BA} {w w':World} {f:Int} {A:Option Addr} {c:Nat} (hr:r=(l,f)) (hl:Strs w' A l) (hw:Below w.heap.size w w'):GivesS2 r w (.returned (.tuple #[.slice A l.length c,.int .i64 f])) w':=by
 subst hr;exact ⟨A,c,rfl,hl,hw⟩
theorem areasF_1 (l:List Rg) (a:List Ar):areasF l [a]=if zEd l≠0 then zEd l else zDN l a:=by
 unfold areasF
 by_cases h:zEd l=0
 ·by_cases h2:zDN l a=0
  ·simp [h,h2]
  ·simp [h,h2]
 ·simp [h]
def lvTo (l:List Rg) (a:List Ar) (k:Nat):List BA:=(((zAV l).take k).filter (lies l a)).map (nmAt l)
theorem lvTo_succ {l:List Rg} {a:List Ar} {k:Nat} (h:k<(zAV l).length):lvTo l a (k+1)=lvTo l a k++if lies l a (zAV l)[k] then [nmAt l (zAV l)[k]] else []:=by
 unfold lvTo;rw [bD h,List.filter_append,dV]
 congr 1
 cases hl:lies l a (zAV l)[k]<;>simp [hl]
theorem lvTo_le (l:List Rg) (a:List Ar) (k:Nat):(lvTo l a k).length≤k:=by
 unfold lvTo;rw [aK];refine cV (dC _ _) ?_
 rw [bE];omega
def LvRel (W:World) (l:List Rg) (a:List Ar) (m:Nat) (out i:Value) (wr:World):Prop :=
 ∃ k:Nat,k+m=(zAV l).length∧i = .int .i64 k∧zAF encS 1 wr W.heap.size 9 out (lvTo l a k)∧Below W.heap.size W wr
theorem Leaves_c (A A2:Option Addr) (c c2:Nat) (l:List Rg) (a:List Ar) (w:World) (h:Rgs w A l) (h2:Ars w A2 a) (hz:∀ i (h:i<l.length),(l[i]).nm.size≤9223372036854775807) :
  Calls Tryz.prog 21 #[.slice A l.length c,.slice A2 a.length c2] w (GivesS2 (leavesS l a) w):=by
 have hwb:Below w.heap.size w (w.alloc (.cells #[.slice A2 a.length c2] 44)):=(bS _ _).alloc (aB _) _
 have hsl:SlA (w.alloc (.cells #[.slice A2 a.length c2] 44)) (some ⟨w.heap.size,0,none⟩) [a] :=
  ⟨w.heap.size,0,rfl,zd,fun i hi=>by
   have:i=0:=by simp at hi;omega
   subst this;exact ⟨A2,c2,by rw [bQ _ w.heap.size _ _ _ _ (cI _ _)];rfl,h2.below hwb⟩⟩
 generalize hres:leavesS l a=res;have HR:=zq hres;clear hres
 go_enter Tryz.func21,Tryz.ntmps21
 go_wp2_with fail
 refine (areas_c A (some ⟨w.heap.size,0,none⟩) c 1 l [a] _ (h.below hwb) hz hsl zd).mono ?_
 rintro e w1 ⟨hb1,⟨hf,rfl⟩ | ⟨hr,hc,r1,r2,g1,g2,AL,cL,O,co,vs,rfl,hwr,hvl,hrd,hsets⟩⟩
 ·have hw1:Below w.heap.size w w1:=zAb hwb hb1
  have hrs:res=([],areasF l [a]):=by
   rw [←HR.o,leavesS];rw [areasF_1] at hf ⊢
   by_cases hq:zEd l=0
   ·rw [aC (by simp [hq])] at hf
    simp [hq,hf]
   ·simp [hq]
  have HS:=zq hrs;generalize areasF l [a]=f at *;have hfb:(f != 0)=true:=by simpa using hf
  have HB:=zq (hw1.alloc hw1.size (.cells #[zAv,.map none,zAv,.map none,zAv,zAv] 97));clear hrs hf hb1 hw1 hwb hsl h h2;unfold zw;go_wp2;go_ret2
  exact GivesS2.err HS.o HB.o
 ·have hw1:Below w.heap.size w w1:=zAb hwb hb1
  have g:=good_of hr;have hn:=g.len;have ha0:zDN l a=0:=hc 0 zd
  have hrs:res=(zBG l a,0):=by
   rw [←HR.o,leavesS];simp [hr,ha0]
  have HS:=zq hrs;clear hrs hb1 hwb hsl h h2 hc ha0 hr
  obtain ⟨v0,hv0⟩:∃ v0,vs=[v0]:=by
   match vs,hvl with
   | [v0],_=>exact ⟨v0,rfl⟩
  subst hv0;obtain ⟨a',ha',gi,ci,rfl,hgi⟩:=hsets 0 v0 rfl;have:a'=a:=by simpa using ha'.symm
  subst this;obtain ⟨bo,oo,rfl,hbo,hco⟩:=hrd.at_ zd;have hco0:w1.cell? ⟨bo,oo,none⟩=some (.slice (some ⟨gi,0,none⟩) (inL l a').length ci):=hco 0 zd;clear hco hsets hvl ha' hrd;unfold wv;go_wp2;have hgl:(zCq l (fun i=>!zBc l i) l.length).length=(zAV l).length:=by rw [gath_len l a',inL,aK]
  have hil:(zAV l).length≤200:=cV (leafTo_le l l.length) hn;rw [hgl];have HGL:=zq hgl;clear hgl;generalize hW:w1.alloc (.cells #[.slice A l.length c,.map (some r1),.slice AL (zAV l).length cL,.map (some r2),.slice (some ⟨g1,0,none⟩) l.length l.length,.slice (some ⟨g2,0,none⟩) l.length l.length] 97)=W;have hWb:Below w1.heap.size w1 W:=qz;have HLV:=zq (hwr.lv.below hWb);have hgW:gi<W.heap.size:=cX (zAl hgi) hWb.size;have HGI:=zq ((hWb.block _ (zAl hgi)).trans hgi);have hboW:bo<W.heap.size:=cX hbo hWb.size;have hcoW:=(hWb.cell hbo).trans hco0;have HWb:=zq (zAb hw1 hWb);clear hW hWb hwr hgi hbo hco0 hw1;obtain ⟨s6,hs6⟩:∃ s6,s6=w1.heap.size:=⟨_,rfl⟩;rw [←hs6];clear hs6;clear w1;have hinl:(inL l a').length=(zAV l).length:=by rw [inL,aK]
  rw [hinl] at hcoW;have HIN:=zq hinl;clear hinl
  go_loopg [9,26] (zAV l).length (LvRel W l a')
  case atStart=>exact ⟨0,za,rfl,zAF.nil _ _ _ _ _,bS _ _⟩
  case round =>
   obtain ⟨k,hk,rfl,hown,hbel⟩:=hrel;have HK:=zq hk;have hk1:k≤(zAV l).length:=za;clear hk
   by_cases hlt:k<(zAV l).length
   ·have hltG:k<(zCq l (fun i=>!zBc l i) l.length).length:=by rw [HGL.o];exact hlt
    obtain ⟨b,o,rfl,hb,hc⟩:=HLV.o.at_ za;have hyl:=leafIdx_lt hlt
    have hc0:wr.cell? ⟨b,o+k,none⟩=some (.string (nmAt l (zAV l)[k])):=by
     rw [hbel.cell hb,hc k hltG,gath_get l hltG hlt]
    have hbr:b<wr.heap.size:=cX hb hbel.size;have hcor:=(hbel.cell hboW).trans hcoW;have hbor:bo<wr.heap.size:=cX hboW hbel.size;have hgr:gi<wr.heap.size:=cX hgW hbel.size
    have hcs:wr.cell? ⟨gi,k,none⟩=some (.bool (lies l a' (zAV l)[k])):=by
     rw [hbel.cell hgW,bQ _ gi k _ _ _ HGI.o,zEg _ _ (by rw [HIN.o];exact hlt)]
     simp [inL,hlt]
    have hle:=lvTo_le l a' k;have hwr:W.heap.size≤wr.heap.size:=hbel.size;have HSU:=zq (lvTo_succ (a:=a') hlt);clear hc;generalize hx:nmAt l (zAV l)[k]=nm at *
    cases hq:lies l a' (zAV l)[k] with
    | false =>
     rw [hq] at hcs;have HQ:=zq hq;have HO:=zq hown;have HB:=zq hbel;clear hq hown hbel hx;go_wp2
     go_roundg (gk - 1)
     case measure=>have:=HK.o;omega
     case rel=>exact ⟨k+1,zl,zn,by rw [HSU.o,HQ.o];simpa using HO.o,HB.o⟩
    | true =>
     rw [hq] at hcs;have HQ:=zq hq;clear hq hx
     go_wp2_with (at_builtin;refine wpList_push _ _ _ elStr rfl rfl W.heap.size _ (lvTo l a' k) rfl (hown.alloc _) wr.heap.size 1 nm rfl (cI _ _) rfl zu zt za zg ?_;intro v1 w2 hown2 hg2 hb2)
     have HO:=zq hown2;have HB:=zq ((hbel.alloc hwr _).trans hb2);clear hown hbel hown2 hg2 hb2;go_wp2
     go_roundg (gk - 1)
     case measure=>have:=HK.o;omega
     case rel=>exact ⟨k+1,zl,zn,by rw [HSU.o,HQ.o];simpa using HO.o,HB.o⟩
   ·have hke:k=(zAV l).length:=by omega
    have e:lvTo l a' k=zBG l a':=by rw [hke,lvTo,bM];rfl
    rw [e] at hown;obtain ⟨A',c',rfl,hrd⟩:=hown.rd1;have HB:=zq (zAb HWb.o hbel);have HD:=zq hrd;clear e hown hrd hbel hke;go_wp2;go_ret2
    exact GivesS2.ok HS.o HD.o HB.o
def sa:BA:=⟨#[97]⟩
theorem leaves_awake:leavesS [⟨sa,emp⟩] [⟨sa,false⟩]=([sa],0):=qx
theorem awake_c (w:World):Calls Tryz.prog 8 #[] w (zAd (.bool true) w):=by
 have hb1:Below w.heap.size w (w.alloc (.cells #[.string ⟨#[97]⟩,.string ⟨#[]⟩] 56)):=(bS _ _).alloc (aB _) _;have hb2:Below w.heap.size w ((w.alloc (.cells #[.string ⟨#[97]⟩,.string ⟨#[]⟩] 56)).alloc (.cells #[.string ⟨#[97]⟩,.bool false] 65)):=hb1.alloc hb1.size _
 have hr:Rgs ((w.alloc (.cells #[.string ⟨#[97]⟩,.string ⟨#[]⟩] 56)).alloc (.cells #[.string ⟨#[97]⟩,.bool false] 65)) (some ⟨w.heap.size,0,none⟩) [⟨sa,emp⟩]:=fun _ =>
  ⟨w.heap.size,0,rfl,fun i hi=>by
   have:i=0:=by simp at hi;omega
   subst this
   constructor
   ·rw [bQ _ w.heap.size _ _ _ _ (zBz (cI _ _))];rfl
   ·rw [bQ _ w.heap.size _ _ _ _ (zBz (cI _ _))];rfl⟩
 have ha:Ars ((w.alloc (.cells #[.string ⟨#[97]⟩,.string ⟨#[]⟩] 56)).alloc (.cells #[.string ⟨#[97]⟩,.bool false] 65)) (some ⟨w.heap.size+1,0,none⟩) [⟨sa,false⟩]:=fun _ =>
  ⟨w.heap.size+1,0,rfl,fun i hi=>by
   have:i=0:=by simp at hi;omega
   subst this;have hn:=cI (w.alloc (.cells #[.string ⟨#[97]⟩,.string ⟨#[]⟩] 56)) (.cells #[.string ⟨#[97]⟩,.bool false] 65);rw [show (w.alloc (.cells #[.string ⟨#[97]⟩,.string ⟨#[]⟩] 56)).heap.size=w.heap.size+1 by simp] at hn
   constructor
   ·rw [bQ _ (w.heap.size+1) _ _ _ _ hn];rfl
   ·rw [bQ _ (w.heap.size+1) _ _ _ _ hn];rfl⟩
 have hl:=Leaves_c (some ⟨w.heap.size,0,none⟩) (some ⟨w.heap.size+1,0,none⟩) 1 1 [⟨sa,emp⟩] [⟨sa,false⟩] _ hr ha (fun i hi=>by
  have:i=0:=by simp at hi;omega
  subst this
  show (sa.size:Nat)≤9223372036854775807
  decide)
 rw [leaves_awake] at hl
 go_enter Tryz.func8,Tryz.ntmps8
 go_wp2_with fail
 refine hl.mono ?_
 rintro e w1 ⟨A1,c1,rfl,hx,hb⟩;have HB:=zq (hb2.trans (hb.mono hb2.size));obtain ⟨b,o,rfl,hbl,hc⟩:=hx.at_ zd;have hc0:w1.cell? ⟨b,o,none⟩=some (.string ⟨#[97]⟩):=hc 0 zd;clear hl hr ha hb1 hb2 hb hx hc;go_wp2;go_ret
 exact zAd.mk rfl HB.o
theorem ReadJ_l (s:BA) (w:World) (hl:500000<s.size) (hs:s.size≤9223372036854775807) :
  Calls Tryz.prog 6 #[.string s] w (zAN s.data.toList w):=by
 have HX:Hid (Bx (w.alloc (.cells #[.slice none 0 0,.slice none 0 0,.slice none 0 0] 26)) w.heap.size #[.slice none 0 0,.slice none 0 0,.slice none 0 0] 26):=Bx.new _ _ _;have HB:Hid (Below w.heap.size w (w.alloc (.cells #[.slice none 0 0,.slice none 0 0,.slice none 0 0] 26))):=(bS _ _).alloc (aB _) _;obtain ⟨W,hW⟩:∃ W,W=w.alloc (.cells #[.slice none 0 0,.slice none 0 0,.slice none 0 0] 26):=⟨_,rfl⟩;rw [←hW] at HX HB;have htl:s.data.toList.length=s.size:=rfl;have HF:Hid (zEp s.data.toList=(([],[],[]),0,2)):=by show _=_;unfold zEp;rw [aE za]
 have hl1:(500000:Int)<(s.size:Int):=za;clear hl htl
 go_enter Tryz.func6,Tryz.ntmps6
 go_upto_region 1 with fail
 rw [←hW];clear hW;obtain ⟨z0,z1,z2⟩:=HX.o.t;have f0:=HX.o.frozen 0;have f1:=HX.o.frozen 1;have f2:=HX.o.frozen 2;have hsz:=HX.o.lt;go_wp2;refine dD (v:=.tuple #[.agg #[.slice none 0 0,.slice none 0 0,.slice none 0 0],.int .i64 0,.int .i64 2]) ?_ rfl ?_
 ·simp [results,Tryz.results6,go_sem,z0,z1,z2]
 ·exact zAN.no HF.o (zBE HB.o (aB _) _ _ _)
theorem ReadJ_c (s:BA) (w:World) (hG:GOK w) (hs:s.size≤9223372036854775807) :
  Calls Tryz.prog 6 #[.string s] w (zAN s.data.toList w):=by
 by_cases hl:500000<s.size
 ·exact ReadJ_l s w hl hs
 ·obtain ⟨L,ll,hL⟩:∃ L ll,spl 10 s.data.toList=L++[ll]:=⟨_,_,(List.dropLast_concat_getLast (spl_ne s.data.toList)).symm⟩
  exact ReadJ_s s w hG za L ll hL
theorem sameT_read {rs:List Rg} {us:List BA} {ds ds2:List De} (h:ds.map zBr=ds2.map zBr):SameT rs us ds rs us ds2:=by
 have hl:ds.length=ds2.length:=by have:=aY List.length h;simpa using this
 refine ⟨rfl,rfl,hl,fun i hi=>(sameD_iff _ _).2 ?_⟩
 have h1:ds.getD i default=ds[i]:=by simp [List.getD_eq_getElem?_getD,List.getElem?_eq_getElem hi]
 have h2:ds2.getD i default=ds2[i]'(by omega):=by simp [List.getD_eq_getElem?_getD,List.getElem?_eq_getElem (show i<ds2.length by omega)]
 rw [h1,h2];have h3:(ds.map zBr)[i]?=(ds2.map zBr)[i]?:=jf;rw [List.getElem?_map,List.getElem?_map,List.getElem?_eq_getElem hi,List.getElem?_eq_getElem (show i<ds2.length by omega)] at h3
 simpa using h3
theorem lawR_c (s:BA) (w:World) (hs:s.size≤9223372036854775807) (hG:GOK w) :
  Calls Tryz.prog 3 #[.string s] w (zAd (.bool true) w):=by
 have HGK:=zq hG;have HRD:=zq (Read_c s w hG hs);clear hG
 go_enter Tryz.func3,Tryz.ntmps3
 go_wp2_with fail
 with_reducible refine HRD.o.mono ?_
 rintro e w1 ⟨RA,rc,rs,UA,uc,us,DA,dc,ds,n,f,rfl,hrf,⟨hr,hu,hd⟩,hn,_,_,hb1⟩;have HRF:=zq hrf;have HBA:Hid (Below w1.heap.size w1 (w1.alloc (.cells (tiC RA rc rs UA uc us DA dc ds) 26))):=(bS w1.heap.size w1).alloc (aB _) _;have HXA:Hid (Bx (w1.alloc (.cells (tiC RA rc rs UA uc us DA dc ds) 26)) w1.heap.size (tiC RA rc rs UA uc us DA dc ds) 26):=Bx.new _ _ _;have HBW:=zq (zAb hb1 HBA.o);have HR:=zq (hr.below HBA.o);have HU:=zq (hu.below HBA.o);have HD:=zq (hd.below HBA.o);clear hrf hr hu hd hb1 HBA HRD;obtain ⟨g1,hg1⟩:∃ g1,g1=w1.heap.size:=⟨_,rfl⟩;rw [←hg1] at HXA;obtain ⟨wA,hwA⟩:∃ wA,wA=w1.alloc (.cells (tiC RA rc rs UA uc us DA dc ds) 26):=⟨_,rfl⟩;rw [←hwA] at HXA HBW HR HU HD;have HRJ:=zq (ReadJ_c s wA (HGK.o.below HBW.o) hs);go_upto_region 2 with fail
 rw [←hg1,←hwA];clear hg1 hwA
 go_wp2_with fail
 with_reducible refine HRJ.o.mono ?_
 rintro e w2 ⟨RA2,rc2,rs2,UA2,uc2,us2,DA2,dc2,ds2,n2,f2,rfl,hrf,⟨hr,hu,hd⟩,hn2,_,_,hb2⟩;rw [HRF.o] at hrf;simp only [Prod.mk.injEq] at hrf;obtain ⟨⟨rfl,rfl,hds⟩,rfl,rfl⟩:=hrf;have HDS:=zq hds;have HBA:Hid (Below w2.heap.size w2 (w2.alloc (.cells (tiC RA2 rc2 rs UA2 uc2 us DA2 dc2 ds2) 26))):=(bS w2.heap.size w2).alloc (aB _) _;have HXB:=zq ((HXA.o.below hb2).below HBA.o);have HYB:Hid (Bx (w2.alloc (.cells (tiC RA2 rc2 rs UA2 uc2 us DA2 dc2 ds2) 26)) w2.heap.size (tiC RA2 rc2 rs UA2 uc2 us DA2 dc2 ds2) 26):=Bx.new _ _ _;have HBX:=zq (zAb (zAb HBW.o hb2) HBA.o);have HSA:=zq (sameTitle_c RA rc rs UA uc us DA dc ds RA2 rc2 rs UA2 uc2 us DA2 dc2 ds2 (w2.alloc (.cells (tiC RA2 rc2 rs UA2 uc2 us DA2 dc2 ds2) 26)) ((HR.o.below hb2).below HBA.o) ((HU.o.below hb2).below HBA.o) ((HD.o.below hb2).below HBA.o) (hr.below HBA.o) (hu.below HBA.o) (hd.below HBA.o) ⟨za,za,za⟩ ⟨za,za,za⟩);clear hds hr hu hd hb2 HXA HR HU HD HBW HBA HRJ HRF;obtain ⟨g2,hg2⟩:∃ g2,g2=w2.heap.size:=⟨_,rfl⟩;rw [←hg2] at HYB;obtain ⟨wB,hwB⟩:∃ wB,wB=w2.alloc (.cells (tiC RA2 rc2 rs UA2 uc2 us DA2 dc2 ds2) 26):=⟨_,rfl⟩;rw [←hwB] at HXB HYB HBX HSA;go_upto_region 3 with fail
 rw [←hg2,←hwB];clear hg2 hwB;obtain ⟨x0,x1,x2⟩:=HXB.o.t;have hsx:=HXB.o.lt;obtain ⟨y0,y1,y2⟩:=HYB.o.t;have hsy:=HYB.o.lt
 go_wp2_with fail
 with_reducible refine HSA.o.mono ?_
 rintro e w4 ⟨r,rfl,hrr,hb4⟩;obtain rfl:r=true:=hrr.2 (sameT_read HDS.o);have HB4:=zq (zAb HBX.o hb4);have e1:(n == n)=true:=zd;have e2:(f == f)=true:=zd;clear hrr hb4
 go_wp2_with fail
 with_reducible refine (awake_c _).mono ?_
 rintro e w5 ⟨rfl,hb5⟩;have HB5:=zq (zAb HB4.o hb5);clear hb5;go_wp2;go_ret
 exact zAd.mk rfl HB5.o
end Go.Proofs.YtoaelidmmcbkfaaGreatDoor
