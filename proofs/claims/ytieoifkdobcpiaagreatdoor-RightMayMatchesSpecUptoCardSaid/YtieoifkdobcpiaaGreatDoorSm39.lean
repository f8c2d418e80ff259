/- The reference's Controls. -/
import Derived.Test.YtieoifkdobcpiaaGreatDoorSm37
set_option maxRecDepth 100000
set_option maxHeartbeats 8000000
namespace Go.Proofs.YtieoifkdobcpiaaGreatDoor
open Go.RowKit Dw
theorem checkWhere_c (RA:Option Addr) (rc:Nat) (rs:List Rg) (UA:Option Addr) (uc:Nat) (us:List BA) (DA:Option Addr) (dc:Nat) (ds:List De) (pl use:BA) (day:Int) (w:World)
  (hr:Rgs w RA rs) (hu:Strs w UA us) (hrl:rs.length≤200) (hul:us.length≤20) :
  Calls Tryz.prog 54 #[.agg (tiC RA rc rs UA uc us DA dc ds),.agg (whrC pl use day)] w (zAe (.int .i64 (zCN rs us pl use day)) w):=by
 have hbw:Below w.heap.size w ((w.alloc (.cells (tiC RA rc rs UA uc us DA dc ds) 26)).alloc (.cells (whrC pl use day) 117)):=((aS _ _).alloc (aB _) _).alloc ze _;have HX:Hid (Bx ((w.alloc (.cells (tiC RA rc rs UA uc us DA dc ds) 26)).alloc (.cells (whrC pl use day) 117)) w.heap.size (tiC RA rc rs UA uc us DA dc ds) 26):=(Bx.new _ _ _).alloc _;have HY:Hid (Bx ((w.alloc (.cells (tiC RA rc rs UA uc us DA dc ds) 26)).alloc (.cells (whrC pl use day) 117)) (w.heap.size+1) (whrC pl use day) 117):=Bx.new1 _ _ _ _;obtain ⟨W,hW⟩:∃ W,W=(w.alloc (.cells (tiC RA rc rs UA uc us DA dc ds) 26)).alloc (.cells (whrC pl use day) 117):=⟨_,rfl⟩;rw [←hW] at hbw HX HY;have HB:=zq hbw;have HLF:=zq (IsLeaf_c RA rc rs pl W hrl (hr.below hbw));have HHA:=zq (has_c UA uc us use W za (hu.below hbw));have HDY:=zq (zCJ day W);clear hbw hr hu
 go_enter Tryz.func54,Tryz.ntmps54
 go_upto_region 1 with fail
 rw [←hW];clear hW;have x0:=HX.o.c 0 rfl;have x1:=HX.o.c 1 rfl;have hsx:=HX.o.lt;obtain ⟨y0,y1,y2⟩:=HY.o.t;have hsy:=HY.o.lt
 go_wp2_with fail
 with_reducible refine HLF.o.mono ?_
 rintro e w1 ⟨rfl,rfl⟩
 cases hlb:leafB rs pl with
 | false =>
  have HF:Hid (zCN rs us pl use day=5):=by show _=_;unfold zCN;rw [hlb];rfl
  clear hlb;go_wp2;go_ret
  exact zAe.mk (zAx HF.o.symm) HB.o
 | true =>
  have HLB:=zq hlb;clear hlb
  go_wp2_with fail
  with_reducible refine HHA.o.mono ?_
  rintro e w2 ⟨rfl,rfl⟩
  cases hmu:zDt us use with
  | false =>
   have HF:Hid (zCN rs us pl use day=5):=by show _=_;unfold zCN;rw [HLB.o,hmu];rfl
   clear hmu;go_wp2;go_ret
   exact zAe.mk (zAx HF.o.symm) HB.o
  | true =>
   have HMU:=zq hmu;clear hmu
   go_wp2_with fail
   with_reducible refine HDY.o.mono ?_
   rintro e w3 ⟨rfl,rfl⟩
   cases hdy:zCr day with
   | false =>
    have HF:Hid (zCN rs us pl use day=1):=qh;clear hdy;go_wp2;go_ret
    exact zAe.mk (zAx HF.o.symm) HB.o
   | true =>
    have HF:Hid (zCN rs us pl use day=0):=qh;clear hdy;go_wp2;go_ret
    exact zAe.mk (zAx HF.o.symm) HB.o
theorem to_ne {rs:List Rg} {us:List BA} {ds:List De} (h:zCI rs us ds=0):∀ d∈ds,d.kd=3→d.to_≠emp:=fun d hd hk=>by
 obtain ⟨j,hj,rfl⟩:=aK hd;have hc:=(zAZ h).2 j hj;generalize ds[j]=d at hc hk;unfold chkD at hc
 split at hc
 ·cases hc
 split at hc
 ·cases hc
 split at hc
 ·cases hc
 split at hc
 ·cases hc
 split at hc
 ·cases hc
 split at hc
 ·cases hc
 rw [aE (by rw [hk];rfl)] at hc
 unfold giftF at hc
 split at hc
 ·cases hc
 next hn =>
 refine isNm_ne ?_
 cases hh:zBe d.to_ with
 | true=>rfl
 | false=>exact absurd (.inr (.inr hh)) hn
theorem spot_leaf {rs:List Rg} {us:List BA} {pl use:BA} {day:Int} (h:zCN rs us pl use day=0):leafB rs pl=true:=by
 unfold zCN at h
 cases hl:leafB rs pl with
 | true=>rfl
 | false=>rw [hl] at h;cases h
end Go.Proofs.YtieoifkdobcpiaaGreatDoor
