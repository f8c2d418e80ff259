/- What the loop of Join keeps in memory, and how it turns. slices.SortFunc at deeds, of a row of the call's own. -/
import Derived.Test.YtlcfgejaeecclaaGreatDoorZq37
set_option maxRecDepth 100000
set_option maxHeartbeats 8000000
namespace Go.Proofs.YtlcfgejaeecclaaGreatDoor
open Go.RowKit Dw
theorem ClK.grown {α : Type} {enc : α → List Value} {k b : Nat} {e : TypeId} {w w' : World} {A : Option Addr} {c : Nat} {L : List α} (h : ClK enc k e b w A c L) {row : Option Nat} (hg : w.grownBy w' row) (hne : ∀ v : Value, OwnL enc k w b e v L → v.ownBlock = none ∨ v.ownBlock ≠ row) : ClK enc k e b w' A c L :=
 h.imp id fun h => h.grown hg (hne _ h)
theorem ClK.far {α : Type} {enc : α → List Value} {k : Nat} {e : TypeId} {base : Nat} {w : World} {A : Option Addr} {c g : Nat} {L : List α} {cs : Array Value} {t : TypeId} (h : ClK enc k e base w A c L) (hg : w.heap[g]? = some (.cells cs t (0, 0))) (ht : e ≠ t) {i : Nat} (u : Value) : ClK enc k e base (w.setCell ⟨g, i, none⟩ u) A c L :=
 h.imp id fun h => own_far h hg ht i u
theorem ClK.base {α : Type} {enc : α → List Value} {k b b' : Nat} {e : TypeId} {w : World} {A : Option Addr} {c : Nat} {L : List α} (h : ClK enc k e b w A c L) (hb : b' ≤ b) : ClK enc k e b' w A c L := h.imp id fun h => OwnL.base h hb
theorem ClK.rd1 {α : Type} {f : α → Value} {b : Nat} {e : TypeId} {w : World} {A : Option Addr} {c : Nat} {L : List α} (h : ClK (fun x => [f x]) 1 e b w A c L) : Rd1 f w A L := by
 rcases h with rfl | h
 ·exact Rd1.nil
 ·obtain ⟨A', c', e1, hr⟩ := OwnL.rd1 h
  injection e1 with e1 _ _
  subst e1; exact hr
theorem ClK.rd2 {α : Type} {f g : α → Value} {b : Nat} {e : TypeId} {w : World} {A : Option Addr} {c : Nat} {L : List α} (h : ClK (fun x => [f x, g x]) 2 e b w A c L) : Rd2 f g w A L := by
 rcases h with rfl | h
 ·exact Rd2.nil
 ·obtain ⟨A', c', e1, hr⟩ := OwnL.rd2 h
  injection e1 with e1 _ _
  subst e1; exact hr
theorem ClK.shs {b : Nat} {e : TypeId} {w : World} {A : Option Addr} {c : Nat} {L : List Sh} (h : ClK eH 3 e b w A c L) : Shs w A L := by
 rcases h with rfl | h
 ·exact fun h => absurd h (by simp)
 ·obtain ⟨A', c', e1, hr⟩ := OwnL.rdk h
  injection e1 with e1 _ _
  subst e1
  intro hl
  obtain ⟨b, o, rfl, hc⟩ := hr hl
  have key : ∀ i (h : i < L.length) c (hc : c < 3), (L.flatMap eH)[i * 3 + c]? = (eH L[i])[c]? := fun i hi c hc => flat_at (enc := eH) (k := 3) (fun _ => rfl) L i hi c hc
  refine ⟨b, o, rfl, fun i hi => ⟨?_, ?_, ?_⟩⟩
  ·exact hc (i * 3) _ (by have := key i hi 0 (by omega); rw [Nat.add_zero] at this; rw [this]; rfl)
  ·have := hc (i * 3 + 1) _ (by rw [key i hi 1 (by omega)]; rfl); rwa [← Nat.add_assoc] at this
  ·have := hc (i * 3 + 2) _ (by rw [key i hi 2 (by omega)]; rfl); rwa [← Nat.add_assoc] at this
abbrev eR : Rg → List Value := fun x => [Value.string x.nm, .string x.par]
def ElK (base : Nat) (w : World) (o : De) : Prop := ClK eA 2 63 base w o.arA o.arc o.ar ∧ ClK eS 1 9 base w o.usA o.usc o.us ∧ ClK eH 3 118 base w o.shA o.shc o.sh
theorem ElK.below {base : Nat} {w w' : World} {o : De} (h : ElK base w o) (hb : Below w.heap.size w w') : ElK base w' o := ⟨h.1.below hb, h.2.1.below hb, h.2.2.below hb⟩
theorem dok_of {w0 w : World} {base : Nat} {d o : De} (h : DeOk w0 d) (e : plainD o = plainD d) (hk : ElK base w o) : DeOk w o := by
 have e1 : o.ar = d.ar := by have h2 := congrArg De.ar e; exact h2
 have e2 : o.us = d.us := by have h2 := congrArg De.us e; exact h2
 have e3 : o.sh = d.sh := by have h2 := congrArg De.sh e; exact h2
 have e4 : o.id = d.id := by have h2 := congrArg De.id e; exact h2
 have e5 : o.th = d.th := by have h2 := congrArg De.th e; exact h2
 have e6 : o.fr = d.fr := by have h2 := congrArg De.fr e; exact h2
 have e7 : o.to_ = d.to_ := by have h2 := congrArg De.to_ e; exact h2
 have e8 : o.nu = d.nu := by have h2 := congrArg De.nu e; exact h2
 have e9 : o.de = d.de := by have h2 := congrArg De.de e; exact h2
 exact ⟨hk.1.rd2, hk.2.1.rd1, hk.2.2.shs, by rw [e1, e2, e3]; exact h.lens, by rw [e4, e5, e6, e7, e8, e9]; exact h.strs, by rw [e3]; exact h.shz⟩
theorem rdk_keep {w w' : World} {A : Option Addr} {S : List De} (h : RdK eD w A S) (hk : ∀ b o, A = some ⟨b, o, none⟩ → w'.heap[b]? = w.heap[b]?) : RdK eD w' A S := fun hl => by
 obtain ⟨b, o, rfl, hc⟩ := h hl
 exact ⟨b, o, rfl, fun j v hv => (World.cell?_of_block (w := w) (hk b o rfl)).trans (hc j v hv)⟩
theorem des_of {w : World} {A : Option Addr} {S : List De} (h : RdK eD w A S) (hd : ∀ s ∈ S, DeOk w s) : Des w A S := fun hl => by
 obtain ⟨b, o, rfl, hc⟩ := h hl
 have key : ∀ i (h : i < S.length) j v, (deC S[i]).toList[j]? = some v → w.cell? ⟨b, o + i * 16 + j, none⟩ = some v := fun i hi j v hv => by
  have hj : j < 16 := by
   have := (List.getElem?_eq_some_iff.1 hv).1
   simpa using this
  have := hc (i * 16 + j) v (by rw [flat_at (enc := eD) (k := 16) (fun _ => rfl) S i hi j hj]; exact hv)
  rwa [← Nat.add_assoc] at this
 exact ⟨b, o, rfl, World.block_lt_of_cell? w _ (key 0 hl 0 _ rfl), fun i hi => ⟨fun j v hv => key i hi j v hv, hd _ (List.getElem_mem hi)⟩⟩
theorem ElK.set {base : Nat} {w : World} {o : De} (h : ElK base w o) {a : Addr} (ha : a.block < base) (u : Value) : ElK base (w.setCell a u) o := ⟨h.1.set ha u, h.2.1.set ha u, h.2.2.set ha u⟩
structure JW (w5 w8 : World) (g r bL : Nat) (rs : List Rg) (us : List ByteArray) (A : Option Addr) (c : Nat) (A2 : Option Addr) (c2 : Nat) (AV : Option Addr) (cv : Nat) (L : List De) (f : ByteArray → Option Value) (v : Value) (outs : List De) (wr : World) : Prop where
 bel : Below w5.heap.size w5 wr
 size : w8.heap.size ≤ wr.heap.size
 cat : OwnL eD 16 wr bL 54 (.slice AV L.length cv) L
 out : Bx wr g #[.slice A rs.length c, .slice A2 us.length c2, v] 26
 own : OwnL eD 16 wr w8.heap.size 54 v outs
 mp : MapIs Value.string wr r f
 k1 : ClK eR 2 43 w5.heap.size wr A c rs
 k2 : ClK eS 1 9 w5.heap.size wr A2 c2 us
 els : ∀ o ∈ outs, ElK w8.heap.size wr o
section
variable {w5 w8 wr w' : World} {g r bL : Nat} {rs : List Rg} {us : List ByteArray} {A : Option Addr} {c : Nat} {A2 : Option Addr} {c2 : Nat} {AV : Option Addr} {cv : Nat} {L : List De} {f f' : ByteArray → Option Value} {v v' : Value} {outs : List De}
theorem JW.below (h : JW w5 w8 g r bL rs us A c A2 c2 AV cv L f v outs wr) (hb : Below wr.heap.size wr w') : JW w5 w8 g r bL rs us A c A2 c2 AV cv L f v outs w' :=
 ⟨below_trans h.bel hb, Nat.le_trans h.size hb.size, h.cat.below hb, h.out.below hb, h.own.below hb, h.mp.below hb, h.k1.below hb, h.k2.below hb, fun o ho => (h.els o ho).below hb⟩
theorem JW.upd (h : JW w5 w8 g r bL rs us A c A2 c2 AV cv L f v outs wr) (hr : w5.heap.size ≤ r) (hm : MapIs Value.string w' r f') (hg : wr.grownBy w' (some r)) : JW w5 w8 g r bL rs us A c A2 c2 AV cv L f' v outs w' := by
 have hne : ∀ {α : Type} {enc : α → List Value} {k b : Nat} {e : TypeId} {u : Value} {l : List α}, OwnL enc k wr b e u l → u.ownBlock = none ∨ u.ownBlock ≠ some r := fun h2 => own_ne_mapJ h2 h.mp
 refine ⟨h.bel.grown hg h.bel.size (fun k hk => by injection hk with hk; omega), Nat.le_trans h.size hg.size, h.cat.grown hg (hne h.cat), ?_, h.own.grown hg (hne h.own), hm, h.k1.grown hg (fun _ h2 => hne h2), h.k2.grown hg (fun _ h2 => hne h2), fun o ho => ?_⟩
 ·have hgr : g ≠ r := map_ne_cells h.mp h.out
  show w'.heap[g]? = _
  rw [hg.block g h.out.lt (by simp; exact hgr)]
  exact h.out
 ·obtain ⟨e1, e2, e3⟩ := h.els o ho
  exact ⟨e1.grown hg (fun _ h2 => hne h2), e2.grown hg (fun _ h2 => hne h2), e3.grown hg (fun _ h2 => hne h2)⟩
theorem JW.mid (h : JW w5 w8 g r bL rs us A c A2 c2 AV cv L f v outs wr) (hg : wr.grownBy w' v.ownBlock) : Bx w' g #[.slice A rs.length c, .slice A2 us.length c2, v] 26 := by
 show w'.heap[g]? = _
 rw [hg.block g h.out.lt fun e => by
  obtain ⟨_, cs, hc⟩ := own_row h.own e.symm
  exact cells_ne h.out hc (by decide) rfl]
 exact h.out
theorem JW.sorted (h : JW w5 w8 g r bL rs us A c A2 c2 AV cv L f v outs wr) (h58 : w5.heap.size ≤ w8.heap.size) (hg : wr.grownBy w' v.ownBlock) :
  Below w5.heap.size w5 w' ∧ ClK eR 2 43 w5.heap.size w' A c rs ∧ ClK eS 1 9 w5.heap.size w' A2 c2 us ∧ (∀ o ∈ outs, ElK w8.heap.size w' o) ∧ ∀ b, v.ownBlock = some b → w8.heap.size ≤ b := by
 have hvb : ∀ q, v.ownBlock = some q → w8.heap.size ≤ q := fun q hq => (own_row h.own hq).1
 have hne : ∀ {α : Type} {enc : α → List Value} {k b : Nat} {e : TypeId} {u : Value} {l : List α}, e ≠ 54 → OwnL enc k wr b e u l → u.ownBlock = none ∨ u.ownBlock ≠ v.ownBlock := fun hd h2 => own_ne_type h2 h.own hd
 refine ⟨h.bel.grown hg h.bel.size fun q hq => Nat.le_trans h58 (hvb q hq), h.k1.grown hg (fun _ h2 => hne (by decide) h2), h.k2.grown hg (fun _ h2 => hne (by decide) h2), fun o ho => ?_, hvb⟩
 obtain ⟨e1, e2, e3⟩ := h.els o ho
 exact ⟨e1.grown hg (fun _ h2 => hne (by decide) h2), e2.grown hg (fun _ h2 => hne (by decide) h2), e3.grown hg (fun _ h2 => hne (by decide) h2)⟩
theorem JW.push (h : JW w5 w8 g r bL rs us A c A2 c2 AV cv L f v outs wr) (h58 : w5.heap.size ≤ w8.heap.size) (hg5 : w5.heap.size ≤ g) (hcat : ∀ q, (Value.slice AV L.length cv).ownBlock = some q → q < w8.heap.size) {o : De} (ho : ElK w8.heap.size wr o)
  (hn : OwnL eD 16 w' w8.heap.size 54 v' (outs ++ [o])) (hg : wr.grownBy w' v.ownBlock) : JW w5 w8 g r bL rs us A c A2 c2 AV cv L f v' (outs ++ [o]) (w'.setCell ⟨g, 2, none⟩ v') := by
 have hvb : ∀ q, v.ownBlock = some q → w8.heap.size ≤ q ∧ ∃ cs, wr.heap[q]? = some (.cells cs 54 (0, 0)) := fun q hq => own_row h.own hq
 have hne : ∀ {α : Type} {enc : α → List Value} {k b : Nat} {e : TypeId} {u : Value} {l : List α}, e ≠ 54 → OwnL enc k wr b e u l → u.ownBlock = none ∨ u.ownBlock ≠ v.ownBlock := fun hd h2 => own_ne_type h2 h.own hd
 have hkeep : ∀ x, x < wr.heap.size → (∀ q, v.ownBlock = some q → x ≠ q) → w'.heap[x]? = wr.heap[x]? := fun x hx hq => hg.block x hx fun e => hq x e.symm rfl
 have hgb : Bx w' g #[.slice A rs.length c, .slice A2 us.length c2, v] 26 := by
  show w'.heap[g]? = _
  rw [hkeep g h.out.lt fun q hq => by
   obtain ⟨_, cs, hc⟩ := hvb q hq
   exact cells_ne h.out hc (by decide)]
  exact h.out
 have hb1 : Below w5.heap.size w5 w' := h.bel.grown hg h.bel.size fun q hq => Nat.le_trans h58 (hvb q hq).1
 have hmp : MapIs Value.string w' r f := h.mp.keep (hkeep r h.mp.lt fun q hq => by
  obtain ⟨_, cs, hc⟩ := hvb q hq
  exact (map_ne_cells h.mp hc).symm)
 have hcat' : OwnL eD 16 w' bL 54 (.slice AV L.length cv) L := h.cat.grown hg (by
  cases hv : (Value.slice AV L.length cv).ownBlock with
  | none => exact .inl rfl
  | some q =>
   refine .inr fun e => ?_
   have h1 := hcat q hv
   have h2 := (hvb q e.symm).1
   omega)
 refine ⟨hb1.setCell (p := ⟨g, 2, none⟩) hg5 _, ?_, own_far hcat' hgb (by decide) 2 _, ?_, own_far hn hgb (by decide) 2 _, hmp.setCell (map_ne_cells hmp hgb).symm _, ?_, ?_, fun o2 ho2 => ?_⟩
 ·have := hg.size
  have := h.size
  rw [World.size_setCell]; omega
 ·exact heap_setCell_same w' g 2 _ _ v' hgb
 ·exact (h.k1.grown hg (fun _ h2 => hne (by decide) h2)).far hgb (by decide) _
 ·exact (h.k2.grown hg (fun _ h2 => hne (by decide) h2)).far hgb (by decide) _
 ·have he : ElK w8.heap.size wr o2 := by
   rcases List.mem_append.1 ho2 with h2 | h2
   ·exact h.els o2 h2
   ·rw [List.mem_singleton.1 h2]; exact ho
  obtain ⟨e1, e2, e3⟩ := he
  exact ⟨(e1.grown hg (fun _ h2 => hne (by decide) h2)).far hgb (by decide) _, (e2.grown hg (fun _ h2 => hne (by decide) h2)).far hgb (by decide) _, (e3.grown hg (fun _ h2 => hne (by decide) h2)).far hgb (by decide) _⟩
end
theorem cat_range {w : World} {b : Nat} {A : Option Addr} {c : Nat} {L : List De} (h : OwnL eD 16 w b 54 (.slice A L.length c) L) (hl : 0 < L.length) : ∃ q o : Nat, A = some ⟨q, o, none⟩ ∧ ∀ k (h : k < L.length) j v, (deC L[k]).toList[j]? = some v → w.cell? ⟨q, o + k * 16 + j, none⟩ = some v := by
 obtain ⟨A', c', e, hr⟩ := h.rdk
 injection e with e1 _ _
 subst e1
 obtain ⟨q, o, rfl, hc⟩ := hr hl
 refine ⟨q, o, rfl, fun k hk j v hv => ?_⟩
 have hj : j < 16 := by
  have := (List.getElem?_eq_some_iff.1 hv).1
  simpa using this
 have := hc (k * 16 + j) v (by rw [flat_at (enc := eD) (k := 16) (fun _ => rfl) L k hk j hj]; exact hv)
 rwa [← Nat.add_assoc] at this
theorem slice_own_lt {α : Type} {enc : α → List Value} {k b : Nat} {e : TypeId} {w : World} {v : Value} {l : List α} (h : OwnL enc k w b e v l) : ∀ q, v.ownBlock = some q → q < w.heap.size := fun q hq => (World.ownsRow.lt h q hq).2
open Go.Shelf Go.RowKit Go.Lib Go.Sort Dw
def GivesSO (v : Value) (L : List De) (w : World) (e : Ending) (w' : World) : Prop :=
 e = .returned (.tuple #[]) ∧ ∃ S : List De, S.Perm L ∧ S.Pairwise (fun a b => deLt b a = false) ∧ (∃ A c, v = .slice A L.length c ∧ RdK eD w' A S) ∧ w.grownBy w' v.ownBlock
theorem sortO_c (v : Value) (L : List De) (base : Nat) (w : World) (hown : OwnL eD 16 w base 54 v L) (hl : L.length ≤ 1000000) :
  Calls Tryz.prog 27 #[v, .func (.func 28) #[] #[]] w (GivesSO v L w) := by
 have hown' := hown
 rcases hown'.2 with ⟨rfl, hn⟩ | ⟨g, cap, cur, rfl, hb, hgg, _⟩
 ·have hn : L = [] := List.length_eq_zero_iff.1 hn
  subst hn
  have hS := AnyF.slices_SortFunc_none Tryz.sortE27 none 0 (.func (.func 28) #[] #[]) w
  change Calls Tryz.prog 27 _ _ _ at hS
  refine hS.mono fun e w' ⟨he, hw⟩ => ?_
  subst hw
  exact ⟨he, [], List.Perm.refl _, List.Pairwise.nil, ⟨none, 0, rfl, fun h => absurd h (by simp)⟩, World.grownBy.refl _ _⟩
 ·obtain ⟨A', c', e1, hr⟩ := hown.rdk
  injection e1 with e1 _ _
  subst e1
  have hgl : g < w.heap.size := (Array.getElem?_eq_some_iff.1 hgg).1
  have hH : HoldsK encE 16 w g 0 L.toArray := by
   intro j hj
   refine ⟨?_, frozen_of_row w g _ _ _ hgg⟩
   have hj' : j < L.toArray.size * 16 := by simpa using hj
   have hi : j / 16 < L.length := by simp at hj'; omega
   obtain ⟨b, o, e2, hc⟩ := hr (by omega)
   injection e2 with e2
   injection e2 with e3 e4 _
   subst e3
   subst e4
   rw [get_flatK _ _ _ _ hj']
   have hget : L.toArray[j / 16]! = L[j / 16] := by rw [getElem!_pos _ _ (by simpa using hi)]; rfl
   rw [hget]
   have hm : j % 16 < 16 := Nat.mod_lt _ (by decide)
   have h2 := flat_at (enc := eD) (k := 16) (fun _ => rfl) L (j / 16) hi (j % 16) hm
   rw [show j / 16 * 16 + j % 16 = j by omega] at h2
   have hm2 : j % 16 < (encE L[j / 16]).length := hm
   refine hc j _ ?_
   rw [h2, getElem!_pos (encE L[j / 16]) (j % 16) hm2]
   exact List.getElem?_eq_getElem hm2
  refine (sortE_c g cap L w hH hgl hl).mono ?_
  rintro e w' ⟨he, S, hp, hs, hh, ho, hx⟩
  refine ⟨he, S, hp, hs, ⟨_, cap, rfl, fun hl => ⟨g, 0, rfl, flat_cells (k := 16) (fun _ => rfl) S 0 fun i hi c u hu => ?_⟩⟩, ho.1, ho.2.1, ho.2.2.1, ho.2.2.2, fun i hi hne => hx i hi fun e => hne (by rw [e]; rfl)⟩
  have hc : c < 16 := by
   have := (List.getElem?_eq_some_iff.1 hu).1
   simpa using this
  have hi' : i < S.toArray.size := by simpa using hi
  have h1 := (hh.cell hi' hc).1
  have hget : S.toArray[i]! = S[i] := by rw [getElem!_pos S.toArray i hi']; rfl
  have hc2 : c < (encE S[i]).length := hc
  rw [hget, getElem!_pos (encE S[i]) c hc2] at h1
  rw [h1, ← hu]
  exact (List.getElem?_eq_getElem hc2).symm
end Go.Proofs.YtlcfgejaeecclaaGreatDoor
