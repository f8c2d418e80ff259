/- The law RightMayMatchesSpec as one call. -/
import Derived.Test.YtieoifkdobcpiaaGreatDoorSm41
set_option maxRecDepth 100000
set_option maxHeartbeats 8000000
namespace Go.Proofs.YtieoifkdobcpiaaGreatDoor
open Go.RowKit Dw
theorem lawM_c (RA:Option Addr) (rc:Nat) (rs:List Rg) (UA:Option Addr) (uc:Nat) (us:List BA) (DA:Option Addr) (dc:Nat) (ds:List De) (th party pl use:BA) (day:Int) (w:World)
  (hr:Rgs w RA rs) (hu:Strs w UA us) (hd:Des w DA ds) (hz:∀ i (h:i<rs.length),(rs[i]).nm.size≤9223372036854775807) (hz2:∀ i (h:i<us.length),(us[i]).size≤9223372036854775807) (hdc:ds.length≤dc)
  (hth:th.size≤9223372036854775807) (hpa:party.size≤9223372036854775807) (hP:POK w) :
  Calls Tryz.prog 7 #[.agg (tiC RA rc rs UA uc us DA dc ds),.string th,.string party,.string pl,.string use,.int .i64 day] w (zAe (.bool true) w):=by
 have HX:Hid (Bx (w.alloc (.cells (tiC RA rc rs UA uc us DA dc ds) 26)) w.heap.size (tiC RA rc rs UA uc us DA dc ds) 26):=Bx.new _ _ _;have HB:Hid (Below w.heap.size w (w.alloc (.cells (tiC RA rc rs UA uc us DA dc ds) 26))):=(aS _ _).alloc (aB _) _;obtain ⟨W,hW⟩:∃ W,W=w.alloc (.cells (tiC RA rc rs UA uc us DA dc ds) 26):=⟨_,rfl⟩;rw [←hW] at HX HB;have HR:=zq (hr.below HB.o);have HU:=zq (hu.below HB.o);have HD:=zq (hd.below HB.o);have HPW:=zq (hP.below HB.o);clear hr hu hd hP
 go_enter Tryz.func7,Tryz.ntmps7
 go_upto_region 1 with fail
 rw [←hW];clear hW;have HC:=zq (May_c RA rc rs UA uc us DA dc ds th party pl use day W HR.o HU.o HD.o hz hz2 hdc hth hpa);obtain ⟨res,hres⟩:∃ res,res=mayA rs us ds th party pl use day:=⟨_,rfl⟩;rw [←hres] at HC
 iterate 2 go_step
 refine fC _ _ zk w.heap.size 0 zk (tiC RA rc rs UA uc us DA dc ds).toList _ (zBZ HX.o) Tryz.underlying26 rfl zc ?_
 go_wp2_with fail
 with_reducible refine HC.o.mono ?_
 rintro e w1 ⟨rfl,hb1⟩;have HB1:=zq (zAa HB.o hb1);have HX1:=zq (HX.o.below hb1);have HC2:=zq (MayR_c RA rc rs UA uc us DA dc ds th party pl use day w1 (HR.o.below hb1) (HU.o.below hb1) (HD.o.below hb1) hz hz2 hth hpa (HPW.o.below hb1));rw [←hres] at HC2;clear hb1 HB HX HC HR HU HD HPW hres;obtain ⟨ra,rf⟩:=res;have hf:(rf == rf)=true:=ze;go_upto_region 2 with fail
 iterate 2 go_step
 refine fC _ _ zk w.heap.size 0 zk (tiC RA rc rs UA uc us DA dc ds).toList _ (zBZ HX1.o) Tryz.underlying26 rfl zc ?_
 go_wp2_with fail
 with_reducible refine HC2.o.mono ?_
 rintro e w2 ⟨rfl,hb2⟩;have HB2:=zq (zAa HB1.o hb2);clear hb2 HB1 HX1 HC2;go_upto_region 3 with fail
 go_wp2_with fail
 with_reducible refine (awake_c _).mono ?_
 rintro e w4 ⟨rfl,hb4⟩;have HB4:=zq (zAa HB2.o hb4);clear hb4;go_wp2;go_ret
 exact zAe.mk rfl HB4.o
end Go.Proofs.YtieoifkdobcpiaaGreatDoor
