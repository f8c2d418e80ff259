/- Small helpers of this claim: one lemma for a set of equations, and shorter forms of the kit's rules for drawn regions. -/
import Derived.OrdersHeld
import Derived.Deep.RegionHeld
import Derived.KernelRfl
import Derived.WalkKit
import Derived.IntWalk
import Derived.Below
theorem zq {p:Prop} (h:p):Go.RowKit.Hid p:=h
namespace Dw
open Go
theorem lay:(∀ {α:Type} {l:List α} {i:Nat} {h:i<l.toArray.size},l.toArray[i]=l[i]'(by simpa using h))∧(∀ {α:Type} {a:α} {l:List α} {i:Nat} {h:i+1<(a::l).length},(a::l)[i+1]=l[i]'(by simpa using h))∧(∀ {α:Type} {a:α} {l:List α} {h:0<(a::l).length},(a::l)[0]=a)∧(∀ {α:Type} {l:List α} {i:Nat} {a:α},l.toArray.setIfInBounds i a=(l.set i a).toArray)∧(∀ {α:Type} {x:α} {l:List α} {a:α},(x::l).set 0 a=a::l)∧∀ {α:Type} {x:α} {l:List α} {n:Nat} {a:α},(x::l).set (n+1) a=x::l.set n a :=
  ⟨by intros;exact List.getElem_toArray ..,by intros;exact List.getElem_cons_succ ..,by intros;exact List.getElem_cons_zero ..,by intros;exact List.setIfInBounds_toArray ..,by intros;exact List.set_cons_zero ..,by intros;exact List.set_cons_succ ..⟩
section
variable {P:Program} {md:Region.Mode} {ops:Array Oper} {Q:Exit→Act→World→Prop} {S:World→Prop} {fuel:Nat} {listed:Array Bool} {a:Act} {w:World} {oi:Oper}
theorem tk (i:Nat) (v:Value) (hi:ops[i]?=some oi) (hy:∀ w,S w→(execOp a.eval oi).run P w = .ok (.value v) w) (hS:S w) (h:wpAnyH P md ops Q S fuel (listed.setIfInBounds i true) (a.put oi.dst v) w)
    (hs:Region.noSelect ops=true:=by kernel_rfl) (hf:Region.free md ops listed i=true:=by kernel_rfl) (hr:(Region.ready md ops listed).contains i=true:=by kernel_rfl) (hQ:∀ c a w,Q (.panic c) (a.put oi.dst v) w→Q (.panic c) a w:=by exact fun _ _ _ h=>h)
    (hw:Region.wanted oi (yielded ops a.tmps)=true:=by kernel_rfl):wpAnyH P md ops Q S (fuel+1) listed a w :=
  wpAnyH_take hi hs hf hr hQ (Or.inl ⟨hw,hy⟩) hS h
theorem rd1 (i:Nat) (ho:ops[i]?=some oi)
    (h:∀ K':Act→World→Prop,Shut (∀ a w,S w→(S w→wpAnyH P md ops Q S fuel (listed.setIfInBounds i true) a w)→K' a w)→if Region.wanted oi (yielded ops a.tmps)=true then Oper.wp P oi a w K' Q else K' (a.put oi.dst undef) w)
    (hr:Region.ready md ops listed=[i]:=by kernel_rfl):wpAnyH P md ops Q S (fuel+1) listed a w :=
  wpAnyH_ready hr (by simp) (AllReadyH.cons ho h AllReadyH.nil)
end
end Dw
theorem Go.RowKit.Hid.o {p:Prop}(h:Go.RowKit.Hid p):p:=h.out
theorem za {p:Prop}(h:p:=by omega):p:=h
theorem zb {p:Prop}(h:p:=by kernel_rfl):p:=h
theorem zc {p:Prop}(h:p:=by decide):p:=h
theorem zd {p:Prop}(h:p:=by simp):p:=h
theorem ze {p:Prop}(h:p:=by simp;omega):p:=h
theorem zg {p:Prop}(h:p:=by assumption):p:=h
theorem zh {p:Prop}(h:p:=by have:=HK.out;omega):p:=h
theorem zi {p:Prop}(h:p:=by go_num):p:=h
theorem zj {p:Prop}(h:p:=by rw [hc _ _ (by simp)];go_simp):p:=h
theorem zk {p:Prop}(h:p:=by rfl):p:=h
theorem zm {p:Prop}(h:p:=by unfold maxLen;omega):p:=h
theorem zn {p:Prop}(h:p:=by rw [ho'];rfl):p:=h
theorem zo {p:Prop}(h:p:=by rw [ho];rfl):p:=h
theorem zr {p:Prop}(h:p:=by simpa using h):p:=h
theorem zt {p:Prop}(h:p:=by simp [Value.oneCell']):p:=h
theorem zu {p:Prop}(h:p:=by rw [←hW];exact (Below.refl _ _).alloc (Nat.le_refl _) _):p:=h
theorem zv {p:Prop}(h:p:=by rw [hwd];exact (Below.refl _ _).alloc (Nat.le_refl _) _):p:=h
theorem zx {p:Prop}(h:p:=by rw [hW];exact ((h2.alloc _).alloc _).alloc _):p:=h
theorem zy {p:Prop}(h:p:=by rw [hW];exact ((h3.alloc _).alloc _).alloc _):p:=h
theorem ya {p:Prop}(h:p:=by rw [hW];exact ((h4.alloc _).alloc _).alloc _):p:=h
theorem yb {p:Prop}(h:p:=by rw [hW];exact ((h.alloc _).alloc _).alloc _):p:=h
theorem yc {p:Prop}(h:p:=by show Bx _ _ _ _;rw [hwd];exact Bx.new _ _ _):p:=h
theorem yf {p:Prop}(h:p:=by simpa using hi):p:=h
theorem yg {p:Prop}(h:p:=by simpa using hj):p:=h
theorem yh {p:Prop}(h:p:=by rw [HG.out];exact Nat.le_refl _):p:=h
theorem yi {p:Prop}(h:p:=by have:=HJ.out;omega):p:=h
theorem yj {p:Prop}(h:p:=by first | exact zAd (Below.refl _ _) _ | exact zAd (zAd (Below.refl _ _) _) _):p:=h
theorem yk {p:Prop}(h:p:=by rw [zBZ];omega):p:=h
theorem ym {p:Prop}(h:p:=by simp [results,Tryz.results100,go_sem,r0,r1,r2]):p:=h
theorem yn {p:Prop}(h:p:=by have:=congrArg List.length hL;simpa using this):p:=h
theorem yo {p:Prop}(h:p:=by rw [ne (by decide)] at hh;rw [nv (by decide)];exact hJ.d11 hh):p:=h
theorem yp {p:Prop}(h:p:=by rw [ne (by decide)] at hh;rw [nv (by decide)];exact hJ.d0 hh):p:=h
theorem yq {p:Prop}(h:p:=by rw [ne (by decide)] at hh;rw [nv (by decide)];exact hJ.d1 hh):p:=h
theorem yr {p:Prop}(h:p:=by rw [ne (by decide)] at hh;rw [nv (by decide)];exact hJ.d2 hh):p:=h
theorem yt {p:Prop}(h:p:=by rw [ne (by decide)] at hh;rw [nv (by decide)];exact hJ.d3 hh):p:=h
theorem yu {p:Prop}(h:p:=by rw [ne (by decide)] at hh;rw [nv (by decide)];exact hJ.d4 hh):p:=h
theorem yw {p:Prop}(h:p:=by rw [ne (by decide)] at hh;rw [nv (by decide)];exact hJ.d5 hh):p:=h
theorem yx {p:Prop}(h:p:=by rw [ne (by decide)] at hh;rw [nv (by decide)];exact hJ.d6 hh):p:=h
theorem yy {p:Prop}(h:p:=by rw [ne (by decide)] at hh;rw [nv (by decide)];exact hJ.d7 hh):p:=h
theorem yz {p:Prop}(h:p:=by rw [ne (by decide)] at hh;rw [nv (by decide)];exact hJ.d8 hh):p:=h
theorem y9 {p:Prop}(h:p:=by rw [hw14];exact (Below.refl _ _).alloc (Nat.le_refl _) _):p:=h
theorem qb {p:Prop}(h:p:=by have:=hb.size;simp at this;omega):p:=h
theorem qc {p:Prop}(h:p:=by simpa using h1):p:=h
theorem qd {p:Prop}(h:p:=by simp [getObj,Sem.run,hr]):p:=h
theorem qe {p:Prop}(h:p:=by rw [List.length_take];omega):p:=h
theorem qf {p:Prop}(h:p:=by injection e with _ e;exact absurd e (by decide)):p:=h
theorem qg {p:Prop}(h:p:=by cases h):p:=h
theorem qh {p:Prop}(h:p:=by simp [zAk]):p:=h
theorem qi {p:Prop}(h:p:=by have:=hzg;have:=HX.out.lt;omega):p:=h
theorem qj {p:Prop}(h:p:=by have:=hzg;have:=HY.out.lt;omega):p:=h
theorem qk {p:Prop}(h:p:=by simpa using h2.symm):p:=h
abbrev BA:=ByteArray
theorem aA.{u,v}:type_of% @List.map_append.{u,v}:=@List.map_append
theorem aB:type_of% @Nat.lt_of_lt_of_le:=@Nat.lt_of_lt_of_le
theorem aC:type_of% @Go.bodyPost_ret:=@Go.bodyPost_ret
theorem aD.{u}:type_of% @if_pos.{u}:=@if_pos
theorem aE:type_of% @Nat.le_refl:=@Nat.le_refl
theorem aF.{u}:type_of% @List.length_set.{u}:=@List.length_set
theorem aG.{u}:type_of% @List.take_length.{u}:=@List.take_length
theorem aH.{u,v}:type_of% @Option.map_some.{u,v}:=@Option.map_some
theorem aI.{u}:type_of% @Option.some.injEq.{u}:=@Option.some.injEq
theorem aJ:type_of% @Go.RowKit.Below.refl:=@Go.RowKit.Below.refl
theorem aK:type_of% @Go.heap_alloc_new:=@Go.heap_alloc_new
theorem aL.{u}:type_of% @List.take_succ_cons.{u}:=@List.take_succ_cons
theorem aM.{u}:type_of% @List.take_zero.{u}:=@List.take_zero
theorem aN.{u}:type_of% @List.drop_succ_cons.{u}:=@List.drop_succ_cons
theorem aO.{u}:type_of% @List.drop_zero.{u}:=@List.drop_zero
theorem aP.{u}:type_of% @List.getElem_take.{u}:=@List.getElem_take
theorem aQ:type_of% @Nat.lt_or_ge:=@Nat.lt_or_ge
theorem aR:type_of% @Nat.mul_comm:=@Nat.mul_comm
theorem aS.{u,v}:type_of% @List.mem_map_of_mem.{u,v}:=@List.mem_map_of_mem
theorem aT:type_of% @decide_eq_true:=@decide_eq_true
theorem aU:type_of% @decide_eq_false:=@decide_eq_false
theorem aV:type_of% @Nat.pow_le_pow_right:=@Nat.pow_le_pow_right
theorem aW.{u}:type_of% @if_neg.{u}:=@if_neg
theorem aX:type_of% @Go.cell_of_row:=@Go.cell_of_row
theorem aY.{u}:type_of% @List.drop_of_length_le.{u}:=@List.drop_of_length_le
theorem aZ:type_of% @Int.natCast_mul:=@Int.natCast_mul
theorem bA.{u}:type_of% @List.take_succ_eq_append_getElem.{u}:=@List.take_succ_eq_append_getElem
theorem bB.{u,v}:type_of% @List.foldl_append.{u,v}:=@List.foldl_append
theorem bC.{u}:type_of% @List.take_of_length_le.{u}:=@List.take_of_length_le
theorem bD:type_of% @Bool.eq_iff_iff:=@Bool.eq_iff_iff
theorem bE.{u}:type_of% @List.append_nil.{u}:=@List.append_nil
theorem bF.{u}:type_of% @List.drop_eq_getElem_cons.{u}:=@List.drop_eq_getElem_cons
theorem bG:type_of% @decide_eq_true_eq:=@decide_eq_true_eq
theorem bH:type_of% @Bool.or_eq_false_iff:=@Bool.or_eq_false_iff
theorem bI.{u}:type_of% @List.getElem_mem.{u}:=@List.getElem_mem
theorem bJ:type_of% @Nat.zero_add:=@Nat.zero_add
theorem bK.{u,v}:type_of% @List.flatMap_cons.{u,v}:=@List.flatMap_cons
theorem bL:type_of% @Go.World.ownsRow.lt:=@Go.World.ownsRow.lt
theorem bM.{u}:type_of% @List.mem_cons_of_mem.{u}:=@List.mem_cons_of_mem
theorem bN.{u}:type_of% @List.mem_cons_self.{u}:=@List.mem_cons_self
theorem bO.{u}:type_of% @List.cons_append.{u}:=@List.cons_append
theorem bP.{u}:type_of% @List.length_cons.{u}:=@List.length_cons
theorem bQ:type_of% @Nat.pow_succ:=@Nat.pow_succ
theorem bR:type_of% @Nat.mul_add:=@Nat.mul_add
theorem bS:type_of% @Nat.mul_assoc:=@Nat.mul_assoc
theorem bT:type_of% @Nat.add_mul:=@Nat.add_mul
theorem bU:type_of% @Nat.mul_le_mul_right:=@Nat.mul_le_mul_right
theorem bV:type_of% @Nat.lt_of_le_of_lt:=@Nat.lt_of_le_of_lt
theorem bW:type_of% @Nat.zero_le:=@Nat.zero_le
theorem bX.{u,v}:type_of% @congrArg.{u,v}:=@congrArg
theorem bY:type_of% @Nat.mod_eq_of_lt:=@Nat.mod_eq_of_lt
theorem bZ:type_of% @Nat.mod_lt:=@Nat.mod_lt
theorem cA:type_of% @Nat.mod_add_div:=@Nat.mod_add_div
theorem cB:type_of% @Nat.mul_le_mul_left:=@Nat.mul_le_mul_left
theorem cC.{u}:type_of% @List.length_take.{u}:=@List.length_take
theorem cK:type_of% @Nat.min_eq_left:=@Nat.min_eq_left
theorem cM.{u}:type_of% @List.take_append_drop.{u}:=@List.take_append_drop
theorem cN:type_of% @Nat.eq_zero_or_pos:=@Nat.eq_zero_or_pos
theorem cO.{u,v}:type_of% @List.foldl_cons.{u,v}:=@List.foldl_cons
theorem cP:type_of% @Nat.mul_zero:=@Nat.mul_zero
theorem cQ.{u}:type_of% @List.mem_of_mem_take.{u}:=@List.mem_of_mem_take
theorem cR:type_of% @Nat.mul_one:=@Nat.mul_one
theorem cS.{u}:type_of% @List.set_cons_succ.{u}:=@List.set_cons_succ
theorem cT.{u}:type_of% @List.getElem_cons_succ.{u}:=@List.getElem_cons_succ
theorem cU:type_of% @Go.frozen_of_row:=@Go.frozen_of_row
theorem cV.{u}:type_of% @List.setIfInBounds_toArray.{u}:=@List.setIfInBounds_toArray
theorem cW:type_of% @Go.RowKit.Below.heap_setCell:=@Go.RowKit.Below.heap_setCell
theorem cX.{u}:type_of% @Array.toList_replicate.{u}:=@Array.toList_replicate
theorem cY.{u}:type_of% @List.getElem_cons_zero.{u}:=@List.getElem_cons_zero
theorem cZ:type_of% @Nat.add_zero:=@Nat.add_zero
theorem dA.{u}:type_of% @List.getElem_set_ne.{u}:=@List.getElem_set_ne
theorem dB:type_of% @Nat.two_pow_pos:=@Nat.two_pow_pos
theorem dC:type_of% @Nat.le_trans:=@Nat.le_trans
theorem dE.{u,v}:type_of% @List.length_map.{u,v}:=@List.length_map
theorem dF:type_of% @Nat.not_lt_zero:=@Nat.not_lt_zero
theorem dG:type_of% @Nat.le_add_right:=@Nat.le_add_right
theorem dH:type_of% @Nat.mul_pos:=@Nat.mul_pos
theorem dI.{u}:type_of% @List.length_append.{u}:=@List.length_append
theorem dJ.{u}:type_of% @List.eq_nil_of_length_eq_zero.{u}:=@List.eq_nil_of_length_eq_zero
theorem dK:type_of% @Go.World.ownsRow.cellAt:=@Go.World.ownsRow.cellAt
theorem dL:type_of% @Go.World.ownsRow.frozenAt:=@Go.World.ownsRow.frozenAt
theorem dM:type_of% @Go.World.ownsRow.stored:=@Go.World.ownsRow.stored
theorem dN:type_of% @Bool.and_eq_true:=@Bool.and_eq_true
theorem dO.{u}:type_of% @List.getElem_of_mem.{u}:=@List.getElem_of_mem
theorem dP:type_of% @List.range_succ:=@List.range_succ
theorem dQ.{u}:type_of% @List.filter_append.{u}:=@List.filter_append
theorem dR.{u}:type_of% @List.length_filter_le.{u}:=@List.length_filter_le
theorem dS:type_of% @Nat.gcd_pos_of_pos_right:=@Nat.gcd_pos_of_pos_right
theorem dT:type_of% @Go.RowKit.Below.heap_alloc:=@Go.RowKit.Below.heap_alloc
theorem dU.{u}:type_of% @List.ext_getElem.{u}:=@List.ext_getElem
theorem dV.{u}:type_of% @List.any_eq_false.{u}:=@List.any_eq_false
theorem dW.{u}:type_of% @List.length_nil.{u}:=@List.length_nil
theorem dX.{u}:type_of% @List.any_append.{u}:=@List.any_append
theorem dY:type_of% @Go.heap_setCell_other:=@Go.heap_setCell_other
theorem dZ.{u,v}:type_of% @List.map_cons.{u,v}:=@List.map_cons
theorem eA.{u}:type_of% @List.cons.injEq.{u}:=@List.cons.injEq
theorem eB:type_of% @Go.run_underlying:=@Go.run_underlying
theorem eC:type_of% @Go.heap_setCell_same:=@Go.heap_setCell_same
theorem eD.{u}:type_of% @Option.isSome_none.{u}:=@Option.isSome_none
theorem eE.{u}:type_of% @Option.getD_some.{u}:=@Option.getD_some
theorem eF:type_of% @Bool.false_eq_true:=@Bool.false_eq_true
theorem eH.{u}:type_of% @List.any_eq_true.{u}:=@List.any_eq_true
theorem eI.{u,v}:type_of% @List.getElem_map.{u,v}:=@List.getElem_map
theorem eJ:type_of% @Go.wp_region_held_drew:=@Go.wp_region_held_drew
theorem eK:type_of% @Go.wpAnyH_take:=@Go.wpAnyH_take
theorem eL.{u}:type_of% @List.set_cons_zero.{u}:=@List.set_cons_zero
theorem eM.{u}:type_of% @List.getElem_toArray.{u}:=@List.getElem_toArray
theorem eN.{u}:type_of% @List.pairwise_cons.{u}:=@List.pairwise_cons
theorem eO:type_of% @Nat.mul_ne_zero:=@Nat.mul_ne_zero
theorem eQ.{u}:type_of% @List.mem_cons.{u}:=@List.mem_cons
theorem eR:type_of% @Classical.byContradiction:=@Classical.byContradiction
theorem eS:type_of% @Rat.mkRat_eq_iff:=@Rat.mkRat_eq_iff
theorem eT:type_of% @Nat.dvd_trans:=@Nat.dvd_trans
theorem eU:type_of% @of_decide_eq_true:=@of_decide_eq_true
theorem eW:type_of% @decide_eq_true_iff:=@decide_eq_true_iff
theorem eX:type_of% @Go.wp_load_mid:=@Go.wp_load_mid
theorem eY.{u}:type_of% @List.getElem_append_left.{u}:=@List.getElem_append_left
theorem eZ.{u}:type_of% @List.not_mem_nil.{u}:=@List.not_mem_nil
