/- Lines of a deed, written into a builder; words of kinds; ratios. -/
import Derived.Test.YtlcfgejaeecclaaGreatDoorZr01
set_option maxRecDepth 100000
set_option maxHeartbeats 8000000
namespace Go.Proofs.YtlcfgejaeecclaaGreatDoor
open Go.RowKit Dw
def BelH (w w' : World) : Prop := Hid (Below w.heap.size w w')
def GivesH (w1 : World) (v : Value) (e : Ending) (w' : World) : Prop := e = .returned v ∧ BelH w1 w'
theorem GivesB.toH {w1 w w' : World} {v : Value} {e : Ending} (h : BelH w1 w) (hg : GivesB v w e w') : GivesH w1 v e w' := ⟨hg.1, below_trans h.out hg.2⟩
theorem BelH.alloc {w1 w : World} (h : BelH w1 w) (o : Obj) : BelH w1 (w.alloc o) := h.out.alloc h.out.size o
theorem kept_bel {e : TypeId} {b : Option Nat} {w wr wr' : World} (h : Lib.OthersKept e b w wr) (hb : Below wr.heap.size wr wr') : Lib.OthersKept e b w wr' := fun k o hk hne ho => by
 have h1 := h k o hk hne ho
 exact (hb.block k (Array.getElem?_eq_some_iff.1 h1).1).trans h1
structure NmS (B b : Nat) (l : List UInt8) (w wr : World) : Prop where
 bld : Bld B b l wr
 bel : Below B w wr
 kept : Lib.OthersKept 5 (some b) w wr
theorem NmS.below {B b : Nat} {l : List UInt8} {w wr wr' : World} (h : NmS B b l w wr) (hB : B ≤ w.heap.size) (hb : Below wr.heap.size wr wr') : NmS B b l w wr' :=
 ⟨h.bld.below hb, h.bel.trans (hb.mono (Nat.le_trans hB h.bel.size)), kept_bel h.kept hb⟩
theorem NmS.trans {B b : Nat} {l l' : List UInt8} {w wr wr' : World} (h : NmS B b l w wr) (k : NmS B b l' wr wr') : NmS B b l' w wr' := ⟨k.bld, h.bel.trans k.bel, h.kept.trans k.kept⟩
theorem NmS.box {B b : Nat} {l : List UInt8} {w wr : World} (h : NmS B b l w wr) {g : Nat} {cs : Array Value} {T : TypeId} (hb : Bx w g cs T) (hg : g ≠ b) (hT : T ≠ 5) : Bx wr g cs T :=
 h.kept g _ hb (fun e => hg (by injection e)) (fun _ _ e => by injection e with _ e; exact hT e)
def GivesLn (B b : Nat) (l : List UInt8) (w : World) (e : Ending) (w' : World) : Prop := e = .returned (.tuple #[]) ∧ NmS B b l w w'
def GivesWq (B b : Nat) (l : List UInt8) (n : Nat) (w : World) (e : Ending) (w' : World) : Prop := e = .returned (.tuple #[.int .i64 (n : Int), .nilIface]) ∧ NmS B b l w w'
theorem writeS_c (B b : Nat) (l : List UInt8) (s : ByteArray) (w0 w : World) (h : NmS B b l w0 w) (hl : l.length + s.size ≤ 140737488355328) (hB : B ≤ w0.heap.size) :
  Calls Tryz.prog 41 #[.pointer (some ⟨b, 0, none⟩), .string s] w (GivesWq B b (l ++ s.data.toList) s.size w0) :=
 (write_c B b l s w h.bld hl (Nat.le_trans hB h.bel.size)).mono fun _ _ ⟨he, h1, h2, h3⟩ => ⟨he, h.trans ⟨h1, h2, h3⟩⟩
theorem lnB_eq {ws : List ByteArray} {j : ByteArray} (hj : j = joinB ws spB) : (((⟨#[32, 32]⟩ : ByteArray) ++ j) ++ ⟨#[10]⟩).data.toList = lnL ws := by
 rw [data_app, data_app, hj]
 rfl
theorem ln_c (B b pc : Nat) (l : List UInt8) (yes : Bool) (A : Option Addr) (c : Nat) (ws : List ByteArray) (w : World) (hb : Bld B b l w) (hB : B ≤ w.heap.size) (hp : Bx w pc #[.pointer (some ⟨b, 0, none⟩)] 94)
  (hws : Strs w A ws) (hc : ws.length ≤ c) (hl : ws.length ≤ 3) (hz : ∀ s ∈ ws, s.size ≤ 4100) (hll : l.length ≤ 1000000000) (hpb : pc ≠ b) :
  Calls Tryz.prog 73 #[.bool yes, .slice A ws.length c, .pointer (some ⟨pc, 0, none⟩)] w (GivesLn B b (l ++ ifL yes (lnL ws)) w) := by
 cases yes with
 | false =>
  have HS : Hid (NmS B b (l ++ ifL false (lnL ws)) w w) := by
   show NmS _ _ _ _ _
   rw [ifL_false, List.append_nil]
   exact ⟨hb, Below.refl _ _, Lib.OthersKept.refl _ _ _⟩
  clear hb hp hws
  go_enter Tryz.func73, Tryz.ntmps73
  go_wp2
  go_end0
  exact ⟨rfl, HS.out⟩
 | true =>
  have HBL := zq hb
  have HPX := zq hp
  obtain ⟨j, hj⟩ : ∃ j, j = joinB ws spB := ⟨_, rfl⟩
  have hjz : j.size ≤ 13000 := by
   rw [hj]
   have h1 := joinB_size (xs := ws) (sep := spB) (m := 4100) hz
   have h2 : spB.size = 1 := rfl
   rw [h2] at h1
   have h4 : ws.length * (1 + 4100) ≤ 3 * 4101 := Nat.mul_le_mul hl (Nat.le_refl _)
   omega
  have HJ : Hid (∀ d os, Calls Tryz.prog 74 #[.slice A ws.length c, .string spB] (Sort.grow (redrawn w d) os) (GivesB (.string j) (Sort.grow (redrawn w d) os))) := fun d os => by
   rw [hj]
   exact joinB_c A c ws spB _ (hws.below (below_regrown w d os)) hc (by omega) (by rw [← hj]; omega)
  have HJ2 : Hid (∀ W, BelH w W → Calls Tryz.prog 74 #[.slice A ws.length c, .string ⟨#[32]⟩] W (GivesH w (.string j))) := fun W hW =>
   (joinB_c A c ws spB W (hws.below hW.out) hc (by omega) (by rw [← hj]; omega)).mono fun _ _ h => by rw [hj]; exact GivesB.toH hW h
  have HE : Hid (((⟨#[32, 32]⟩ ++ j) ++ ⟨#[10]⟩ : ByteArray).data.toList = lnL ws) := lnB_eq hj
  have e1 : (⟨#[32, 32]⟩ : ByteArray).size = 2 := rfl
  have e2 : (⟨#[10]⟩ : ByteArray).size = 1 := rfl
  have c1 := cat_big ⟨#[32, 32]⟩ j (by rw [e1]; omega)
  have c2 := cat_big (⟨#[32, 32]⟩ ++ j) ⟨#[10]⟩ (by rw [ByteArray.size_append, e1, e2]; omega)
  have hz3 : (((⟨#[32, 32]⟩ ++ j) ++ ⟨#[10]⟩ : ByteArray)).size ≤ 13100 := by rw [ByteArray.size_append, ByteArray.size_append, e1, e2]; omega
  generalize hln : ((⟨#[32, 32]⟩ ++ j) ++ ⟨#[10]⟩ : ByteArray) = ln at *
  have HWR : Hid (∀ W, BelH w W → Calls Tryz.prog 41 #[.pointer (some ⟨b, 0, none⟩), .string ln] W (GivesWq B b (l ++ lnL ws) ln.size w)) := fun W hW => by
   have h := writeS_c B b l ln w W ⟨HBL.out.below hW.out, hW.out.mono hB, kept_bel (Lib.OthersKept.refl _ _ _) hW.out⟩ (by omega) hB
   rw [HE.out] at h
   exact h
  have HBC : Hid (∀ W, BelH w W → W.cell? ⟨pc, 0, none⟩ = some (.pointer (some ⟨b, 0, none⟩))) := fun W hW => (HPX.out.below hW.out).cell (i := 0) rfl
  have z0 := HPX.out.cell (i := 0) rfl
  have H1 : BelH w w.drew := below_drewN (Below.refl _ _) 1
  clear hb hp hws hj hln HJ
  go_enter Tryz.func73, Tryz.ntmps73
  go_upto_region 1 with fail
  go_region_held3 (fun w' => w'.cell? ⟨pc, 0, none⟩ = some (.pointer (some ⟨b, 0, none⟩))) (go_keep)
   (first
    | ((go_at_call 74; (with_reducible refine (HJ2.out _ (by assumption)).mono ?_); rintro e w3 ⟨rfl, H3⟩; have z3 := HBC.out _ H3))
    | ((go_at_call 41; (with_reducible refine (HWR.out _ (by assumption)).mono ?_); rintro e w6 ⟨rfl, hs6⟩; have HS6 := zq hs6; have z6 := (hs6.box HPX.out hpb (by decide)).cell (i := 0) rfl; clear hs6)))
  all_goals
   go_wp2
   go_end0
   exact ⟨rfl, HS6.out⟩
theorem word_c (k : Int) (w : World) (hk : 1 ≤ k ∧ k ≤ 5) : Calls Tryz.prog 76 #[.int .i64 k] w (Gives (.string (kdS k)) w) := by
 have h5 : k = 1 ∨ k = 2 ∨ k = 3 ∨ k = 4 ∨ k = 5 := by omega
 rcases h5 with rfl | rfl | rfl | rfl | rfl
 all_goals
  clear hk
  go_enter Tryz.func76, Tryz.ntmps76
  go_wp2
  go_ret
  exact Gives.mk rfl rfl
theorem ratioR_c (nu de : ByteArray) (w : World) (h1 : nu.size ≤ 2001) (h2 : de.size ≤ 2001) : Calls Tryz.prog 78 #[.agg #[.string nu, .string de]] w (GivesB (.string (ratB nu de)) w) := by
 have e1 : (⟨#[47]⟩ : ByteArray).size = 1 := rfl
 have c1 := cat_big nu ⟨#[47]⟩ (by rw [e1]; omega)
 have c2 := cat_big (nu ++ ⟨#[47]⟩) de (by rw [ByteArray.size_append, e1]; omega)
 go_enter Tryz.func78, Tryz.ntmps78
 go_wp2
 go_ret
 exact GivesB.mk rfl ((Below.refl _ _).alloc (Nat.le_refl _) _)
abbrev kdWs : List ByteArray := [kdS 1, kdS 2, kdS 3, kdS 4, kdS 5]
def GivesWd (w : World) (e : Ending) (w' : World) : Prop := ∃ g, e = .returned (.slice (some ⟨g, 0, none⟩) 5 5) ∧ Below w.heap.size w w' ∧ Bx w' g #[.string (kdS 1), .string (kdS 2), .string (kdS 3), .string (kdS 4), .string (kdS 5)] 9
theorem wordsR_c (w : World) : Calls Tryz.prog 77 #[] w (GivesWd w) := by
 go_enter Tryz.func77, Tryz.ntmps77
 go_wp2
 go_ret
 exact ⟨_, rfl, (Below.refl _ _).alloc (Nat.le_refl _) _, Bx.new _ _ _⟩
end Go.Proofs.YtlcfgejaeecclaaGreatDoor
