/- The reference's Controls. -/
import Derived.Test.YtieoifkdobcpiaaGreatDoorSs43
set_option maxRecDepth 100000
set_option maxHeartbeats 8000000
namespace Go.Proofs.YtieoifkdobcpiaaGreatDoor
open Go.RowKit Dw
theorem checkWhere_c (RA:Option Addr) (rc:Nat) (rs:List Rg) (UA:Option Addr) (uc:Nat) (us:List ByteArray) (DA:Option Addr) (dc:Nat) (ds:List De) (pl use:ByteArray) (day:Int) (w:World)
  (hr:Rgs w RA rs) (hu:Strs w UA us) (hrl:rs.length≤200) (hul:us.length≤20) :
  Calls Tryz.prog 54 #[.agg (tiC RA rc rs UA uc us DA dc ds),.agg (whrC pl use day)] w (zAe (.int .i64 (zCA rs us pl use day)) w):=by
 have hbw:Below w.heap.size w ((w.alloc (.cells (tiC RA rc rs UA uc us DA dc ds) 26)).alloc (.cells (whrC pl use day) 117)):=((Below.refl _ _).alloc (Nat.le_refl _) _).alloc ze _;have HX:Hid (Bx ((w.alloc (.cells (tiC RA rc rs UA uc us DA dc ds) 26)).alloc (.cells (whrC pl use day) 117)) w.heap.size (tiC RA rc rs UA uc us DA dc ds) 26):=(Bx.new _ _ _).alloc _;have HY:Hid (Bx ((w.alloc (.cells (tiC RA rc rs UA uc us DA dc ds) 26)).alloc (.cells (whrC pl use day) 117)) (w.heap.size+1) (whrC pl use day) 117):=Bx.new1 _ _ _ _;obtain ⟨W,hW⟩:∃ W,W=(w.alloc (.cells (tiC RA rc rs UA uc us DA dc ds) 26)).alloc (.cells (whrC pl use day) 117):=⟨_,rfl⟩;rw [←hW] at hbw HX HY;have HB:=zq hbw;have HLF:=zq (IsLeaf_c RA rc rs pl W hrl (hr.below hbw));have HHA:=zq (has_c UA uc us use W za (hu.below hbw));have HDY:=zq (zCG day W);clear hbw hr hu
 go_enter Tryz.func54,Tryz.ntmps54
 go_upto_region 1 with fail
 rw [←hW];clear hW;have x0:=HX.o.cell (i:=0) rfl;have x1:=HX.o.cell (i:=1) rfl;have hsx:=HX.o.lt;have y0:=HY.o.cell (i:=0) rfl;have y1:=HY.o.cell (i:=1) rfl;have y2:=HY.o.cell (i:=2) rfl;have hsy:=HY.o.lt
 go_wp2_with fail
 with_reducible refine HLF.o.mono ?_
 rintro e w1 ⟨rfl,rfl⟩
 cases hlb:leafB rs pl with
 | false =>
  have HF:Hid (zCA rs us pl use day=5):=by show _=_;unfold zCA;rw [hlb];rfl
  clear hlb;go_wp2;go_ret
  exact zAe.mk (zAw HF.o.symm) HB.o
 | true =>
  have HLB:=zq hlb;clear hlb
  go_wp2_with fail
  with_reducible refine HHA.o.mono ?_
  rintro e w2 ⟨rfl,rfl⟩
  cases hmu:memS us use with
  | false =>
   have HF:Hid (zCA rs us pl use day=5):=by show _=_;unfold zCA;rw [HLB.o,hmu];rfl
   clear hmu;go_wp2;go_ret
   exact zAe.mk (zAw HF.o.symm) HB.o
  | true =>
   have HMU:=zq hmu;clear hmu
   go_wp2_with fail
   with_reducible refine HDY.o.mono ?_
   rintro e w3 ⟨rfl,rfl⟩
   cases hdy:zCo day with
   | false =>
    have HF:Hid (zCA rs us pl use day=1):=qd;clear hdy;go_wp2;go_ret
    exact zAe.mk (zAw HF.o.symm) HB.o
   | true =>
    have HF:Hid (zCA rs us pl use day=0):=qd;clear hdy;go_wp2;go_ret
    exact zAe.mk (zAw HF.o.symm) HB.o
theorem spot_leaf {rs:List Rg} {us:List ByteArray} {pl use:ByteArray} {day:Int} (h:zCA rs us pl use day=0):leafB rs pl=true:=by
 unfold zCA at h
 cases hl:leafB rs pl with
 | true=>rfl
 | false=>rw [hl] at h;cases h
end Go.Proofs.YtieoifkdobcpiaaGreatDoor
