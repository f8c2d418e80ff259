/- Small helpers of this claim: one lemma for a set of equations, and shorter forms of the kit's rules for drawn regions. -/
import Derived.OrdersHeld
import Derived.Deep.RegionHeld
import Derived.KernelRfl
import Derived.WalkKit
import Derived.IntWalk
import Derived.Below
theorem zq {p:Prop} (h:p):Go.RowKit.Hid p:=h
namespace Dw
open Go
theorem lay:(∀ {α:Type} {l:List α} {i:Nat} {h:i<l.toArray.size},l.toArray[i]=l[i]'(by simpa using h))∧(∀ {α:Type} {a:α} {l:List α} {i:Nat} {h:i+1<(a::l).length},(a::l)[i+1]=l[i]'(by simpa using h))∧(∀ {α:Type} {a:α} {l:List α} {h:0<(a::l).length},(a::l)[0]=a)∧(∀ {α:Type} {l:List α} {i:Nat} {a:α},l.toArray.setIfInBounds i a=(l.set i a).toArray)∧(∀ {α:Type} {x:α} {l:List α} {a:α},(x::l).set 0 a=a::l)∧∀ {α:Type} {x:α} {l:List α} {n:Nat} {a:α},(x::l).set (n+1) a=x::l.set n a :=
  ⟨by intros;exact List.getElem_toArray ..,by intros;exact List.getElem_cons_succ ..,by intros;exact List.getElem_cons_zero ..,by intros;exact List.setIfInBounds_toArray ..,by intros;exact List.set_cons_zero ..,by intros;exact List.set_cons_succ ..⟩
section
variable {P:Program} {md:Region.Mode} {ops:Array Oper} {Q:Exit→Act→World→Prop} {S:World→Prop} {fuel:Nat} {listed:Array Bool} {a:Act} {w:World} {oi:Oper}
theorem tk (i:Nat) (v:Value) (hi:ops[i]?=some oi) (hy:∀ w,S w→(execOp a.eval oi).run P w = .ok (.value v) w) (hS:S w) (h:wpAnyH P md ops Q S fuel (listed.setIfInBounds i true) (a.put oi.dst v) w)
    (hs:Region.noSelect ops=true:=by kernel_rfl) (hf:Region.free md ops listed i=true:=by kernel_rfl) (hr:(Region.ready md ops listed).contains i=true:=by kernel_rfl) (hQ:∀ c a w,Q (.panic c) (a.put oi.dst v) w→Q (.panic c) a w:=by exact fun _ _ _ h=>h)
    (hw:Region.wanted oi (yielded ops a.tmps)=true:=by kernel_rfl):wpAnyH P md ops Q S (fuel+1) listed a w :=
  wpAnyH_take hi hs hf hr hQ (Or.inl ⟨hw,hy⟩) hS h
theorem rd1 (i:Nat) (ho:ops[i]?=some oi)
    (h:∀ K':Act→World→Prop,Shut (∀ a w,S w→(S w→wpAnyH P md ops Q S fuel (listed.setIfInBounds i true) a w)→K' a w)→if Region.wanted oi (yielded ops a.tmps)=true then Oper.wp P oi a w K' Q else K' (a.put oi.dst undef) w)
    (hr:Region.ready md ops listed=[i]:=by kernel_rfl):wpAnyH P md ops Q S (fuel+1) listed a w :=
  wpAnyH_ready hr (by simp) (AllReadyH.cons ho h AllReadyH.nil)
end
end Dw
theorem Go.RowKit.Hid.o {p:Prop}(h:Go.RowKit.Hid p):p:=h.out
theorem za {p:Prop}(h:p:=by omega):p:=h
theorem zb {p:Prop}(h:p:=by kernel_rfl):p:=h
theorem zc {p:Prop}(h:p:=by decide):p:=h
theorem ze {p:Prop}(h:p:=by first | exact HB.out | exact zAc HB.out _ | exact zAc (zAc HB.out _) _ | exact zAc (zAc (zAc HB.out _) _) _):p:=h
theorem zg {p:Prop}(h:p:=by simp):p:=h
theorem zh {p:Prop}(h:p:=by show _=_;rw [h4];rfl):p:=h
theorem zi {p:Prop}(h:p:=by assumption):p:=h
theorem zj {p:Prop}(h:p:=by simp;omega):p:=h
theorem zk {p:Prop}(h:p:=by have:=HK.out;omega):p:=h
theorem zl {p:Prop}(h:p:=by rw [hc _ _ (by simp)];go_simp):p:=h
theorem zm {p:Prop}(h:p:=by rw [HDZ.out]):p:=h
theorem zu {p:Prop}(h:p:=by rw [ho];rfl):p:=h
theorem zv {p:Prop}(h:p:=by rw [ho'];rfl):p:=h
theorem zx {p:Prop}(h:p:=by go_num):p:=h
theorem zy {p:Prop}(h:p:=by rfl):p:=h
theorem ya {p:Prop}(h:p:=by first | rfl | trivial):p:=h
theorem yb {p:Prop}(h:p:=by rw [ofL_size];omega):p:=h
theorem yc {p:Prop}(h:p:=by have:=Option.some.inj e;omega):p:=h
theorem yg {p:Prop}(h:p:=by cases h):p:=h
theorem yh {p:Prop}(h:p:=by unfold No10;decide):p:=h
theorem yi {p:Prop}(h:p:=by simp [Value.oneCell']):p:=h
theorem yj {p:Prop}(h:p:=by simpa using h1):p:=h
theorem yk {p:Prop}(h:p:=by unfold maxLen;omega):p:=h
theorem yn {p:Prop}(h:p:=by simpa using h):p:=h
theorem yo {p:Prop}(h:p:=by rw [←hW];exact (Below.refl _ _).alloc (Nat.le_refl _) _):p:=h
theorem yp {p:Prop}(h:p:=by rw [hW1];exact (Below.refl _ _).alloc (Nat.le_refl _) _):p:=h
theorem yq {p:Prop}(h:p:=by show DsM _ _ _ _ _ _ _ _ _ _ _ _ _ _ _ _;rw [hw7];exact HM6.out.below (zAc (Below.refl _ _) 1)):p:=h
theorem yr {p:Prop}(h:p:=by rw [HDZ.out];rfl):p:=h
theorem yt {p:Prop}(h:p:=by simpa using hi):p:=h
theorem yu {p:Prop}(h:p:=by first | exact zAc (Below.refl _ _) _ | exact zAc (zAc (Below.refl _ _) _) _):p:=h
theorem yw {p:Prop}(h:p:=by rw [zBZ];omega):p:=h
theorem yx {p:Prop}(h:p:=by rw [h]):p:=h
theorem yy {p:Prop}(h:p:=by rw [ne (by decide)] at hh;rw [nv (by decide)];exact hJ.d11 hh):p:=h
theorem yz {p:Prop}(h:p:=by rw [ne (by decide)] at hh;rw [nv (by decide)];exact hJ.d0 hh):p:=h
theorem qb {p:Prop}(h:p:=by rw [ne (by decide)] at hh;rw [nv (by decide)];exact hJ.d1 hh):p:=h
theorem qc {p:Prop}(h:p:=by rw [ne (by decide)] at hh;rw [nv (by decide)];exact hJ.d2 hh):p:=h
theorem qd {p:Prop}(h:p:=by rw [ne (by decide)] at hh;rw [nv (by decide)];exact hJ.d3 hh):p:=h
theorem qe {p:Prop}(h:p:=by rw [ne (by decide)] at hh;rw [nv (by decide)];exact hJ.d4 hh):p:=h
theorem qf {p:Prop}(h:p:=by rw [ne (by decide)] at hh;rw [nv (by decide)];exact hJ.d5 hh):p:=h
theorem qg {p:Prop}(h:p:=by rw [ne (by decide)] at hh;rw [nv (by decide)];exact hJ.d6 hh):p:=h
theorem qh {p:Prop}(h:p:=by rw [ne (by decide)] at hh;rw [nv (by decide)];exact hJ.d7 hh):p:=h
theorem qi {p:Prop}(h:p:=by rw [ne (by decide)] at hh;rw [nv (by decide)];exact hJ.d8 hh):p:=h
theorem qj {p:Prop}(h:p:=by simpa using hk):p:=h
theorem qk {p:Prop}(h:p:=by show Bx _ _ _ _;rw [hW1];exact Bx.new _ _ _):p:=h
theorem qm {p:Prop}(h:p:=by have:=HKM.out;omega):p:=h
theorem qn {p:Prop}(h:p:=by have:=hs.left.1;rw [List.length_map] at this;exact this):p:=h
theorem qo {p:Prop}(h:p:=by rw [HG.out];exact Nat.le_refl _):p:=h
theorem qp {p:Prop}(h:p:=by simp [execOp,run_makeMap]):p:=h
theorem qq {p:Prop}(h:p:=by rw [hn];simp):p:=h
theorem qr {p:Prop}(h:p:=by show r≠w.heap.size;omega):p:=h
theorem qt {p:Prop}(h:p:=by decide +kernel):p:=h
theorem qu {p:Prop}(h:p:=by simpa using hb):p:=h
theorem qw {p:Prop}(h:p:=by injection e with _ e;exact absurd e (by decide)):p:=h
theorem qx {p:Prop}(h:p:=by rw [HS.out];decide):p:=h
theorem qy {p:Prop}(h:p:=by show _=_;rw [HT.out,←List.append_assoc,←hlk]):p:=h
theorem qz {p:Prop}(h:p:=by injection e;omega):p:=h
theorem ja {p:Prop}(h:p:=by have:=hb.size;simp at this;omega):p:=h
theorem jb {p:Prop}(h:p:=by have:=HLA.out b o e;omega):p:=h
theorem jc {p:Prop}(h:p:=by simp [zAh]):p:=h
theorem jd {p:Prop}(h:p:=by injection e):p:=h
theorem je {p:Prop}(h:p:=by rw [HDZ.out];exact ⟨rfl,rfl⟩):p:=h
abbrev BA:=ByteArray
theorem aA.{u}:type_of% @List.drop_of_length_le.{u}:=@List.drop_of_length_le
theorem aB:type_of% @Nat.le_refl:=@Nat.le_refl
theorem aC.{u}:type_of% @if_neg.{u}:=@if_neg
theorem aD.{u}:type_of% @List.append_nil.{u}:=@List.append_nil
theorem aE.{u}:type_of% @if_pos.{u}:=@if_pos
theorem aF.{u}:type_of% @List.drop_eq_getElem_cons.{u}:=@List.drop_eq_getElem_cons
theorem aG.{u}:type_of% @beq_eq_false_iff_ne.{u}:=@beq_eq_false_iff_ne
theorem aH:type_of% @decide_eq_true_eq:=@decide_eq_true_eq
theorem aI.{u}:type_of% @List.getElem_mem.{u}:=@List.getElem_mem
theorem aJ.{u}:type_of% @List.mem_cons_of_mem.{u}:=@List.mem_cons_of_mem
theorem aK.{u}:type_of% @List.mem_cons_self.{u}:=@List.mem_cons_self
theorem aL.{u}:type_of% @List.cons_append.{u}:=@List.cons_append
theorem aM.{u}:type_of% @List.length_cons.{u}:=@List.length_cons
theorem aN:type_of% @Nat.pow_succ:=@Nat.pow_succ
theorem aO:type_of% @Nat.mul_add:=@Nat.mul_add
theorem aP:type_of% @Nat.mul_comm:=@Nat.mul_comm
theorem aQ:type_of% @Nat.mul_assoc:=@Nat.mul_assoc
theorem aR:type_of% @Nat.add_mul:=@Nat.add_mul
theorem aS:type_of% @Nat.mul_le_mul_right:=@Nat.mul_le_mul_right
theorem aT:type_of% @Nat.lt_of_le_of_lt:=@Nat.lt_of_le_of_lt
theorem aU:type_of% @Nat.zero_le:=@Nat.zero_le
theorem aV.{u,v}:type_of% @congrArg.{u,v}:=@congrArg
theorem aW:type_of% @Nat.mod_eq_of_lt:=@Nat.mod_eq_of_lt
theorem aX:type_of% @Nat.mod_lt:=@Nat.mod_lt
theorem aY:type_of% @Nat.mod_add_div:=@Nat.mod_add_div
theorem aZ:type_of% @Nat.mul_le_mul_left:=@Nat.mul_le_mul_left
theorem bA.{u}:type_of% @List.take_succ_eq_append_getElem.{u}:=@List.take_succ_eq_append_getElem
theorem bB.{u}:type_of% @List.length_take.{u}:=@List.length_take
theorem bC:type_of% @Nat.min_eq_left:=@Nat.min_eq_left
theorem bD:type_of% @Nat.le_of_lt:=@Nat.le_of_lt
theorem bE:type_of% @Nat.eq_zero_or_pos:=@Nat.eq_zero_or_pos
theorem bF:type_of% @Nat.zero_add:=@Nat.zero_add
theorem bG.{u}:type_of% @List.length_drop.{u}:=@List.length_drop
theorem bH.{u}:type_of% @List.take_succ_cons.{u}:=@List.take_succ_cons
theorem bI.{u}:type_of% @List.take_length.{u}:=@List.take_length
theorem bJ:type_of% @Nat.pow_le_pow_right:=@Nat.pow_le_pow_right
theorem bK:type_of% @Nat.lt_or_ge:=@Nat.lt_or_ge
theorem bL.{u}:type_of% @List.getElem_of_mem.{u}:=@List.getElem_of_mem
theorem bM:type_of% @Go.cell_of_row:=@Go.cell_of_row
theorem bN:type_of% @Go.RowKit.Below.refl:=@Go.RowKit.Below.refl
theorem bO:type_of% @Go.World.ownsRow.lt:=@Go.World.ownsRow.lt
theorem bP.{u}:type_of% @List.set_cons_succ.{u}:=@List.set_cons_succ
theorem bQ.{u}:type_of% @List.getElem_cons_succ.{u}:=@List.getElem_cons_succ
theorem bR.{u}:type_of% @List.drop_drop.{u}:=@List.drop_drop
theorem bS:type_of% @Nat.add_assoc:=@Nat.add_assoc
theorem bT.{u}:type_of% @List.append_assoc.{u}:=@List.append_assoc
theorem bU:type_of% @Go.frozen_of_row:=@Go.frozen_of_row
theorem bV.{u}:type_of% @List.setIfInBounds_toArray.{u}:=@List.setIfInBounds_toArray
theorem bW.{u}:type_of% @List.getElem_take.{u}:=@List.getElem_take
theorem bX:type_of% @Go.RowKit.Below.heap_setCell:=@Go.RowKit.Below.heap_setCell
theorem bY:type_of% @Go.heap_alloc_new:=@Go.heap_alloc_new
theorem bZ:type_of% @Int.natCast_mul:=@Int.natCast_mul
theorem cB.{u}:type_of% @List.getElem_cons_zero.{u}:=@List.getElem_cons_zero
theorem cC:type_of% @Nat.add_zero:=@Nat.add_zero
theorem cD:type_of% @decide_eq_true:=@decide_eq_true
theorem cF:type_of% @decide_eq_false:=@decide_eq_false
theorem cG.{u}:type_of% @List.getElem_set_ne.{u}:=@List.getElem_set_ne
theorem cH.{u}:type_of% @List.take_of_length_le.{u}:=@List.take_of_length_le
theorem cI:type_of% @Nat.mul_le_mul:=@Nat.mul_le_mul
theorem cJ.{u}:type_of% @List.drop_zero.{u}:=@List.drop_zero
theorem cK:type_of% @Nat.two_pow_pos:=@Nat.two_pow_pos
theorem cM:type_of% @Nat.le_trans:=@Nat.le_trans
theorem cO.{u,v}:type_of% @List.length_map.{u,v}:=@List.length_map
theorem cP:type_of% @Nat.lt_of_lt_of_le:=@Nat.lt_of_lt_of_le
theorem cQ.{u}:type_of% @List.take_zero.{u}:=@List.take_zero
theorem cR.{u}:type_of% @List.drop_succ_cons.{u}:=@List.drop_succ_cons
theorem cS.{u}:type_of% @List.length_append.{u}:=@List.length_append
theorem cT.{u}:type_of% @List.eq_nil_of_length_eq_zero.{u}:=@List.eq_nil_of_length_eq_zero
theorem cU:type_of% @Bool.and_eq_true:=@Bool.and_eq_true
theorem cV.{u}:type_of% @List.length_filter_le.{u}:=@List.length_filter_le
theorem cW:type_of% @Go.bodyPost_ret:=@Go.bodyPost_ret
theorem cX:type_of% @Go.RowKit.Below.heap_alloc:=@Go.RowKit.Below.heap_alloc
theorem cY.{u}:type_of% @List.any_append.{u}:=@List.any_append
theorem cZ.{u}:type_of% @Array.length_toList.{u}:=@Array.length_toList
theorem dA.{u}:type_of% @List.length_nil.{u}:=@List.length_nil
theorem dC.{u,v}:type_of% @List.map_append.{u,v}:=@List.map_append
theorem dD.{u,v}:type_of% @List.map_cons.{u,v}:=@List.map_cons
theorem dE:type_of% @Bool.false_eq_true:=@Bool.false_eq_true
theorem dF.{u}:type_of% @Option.some.injEq.{u}:=@Option.some.injEq
theorem dG:type_of% @Go.heap_setCell_other:=@Go.heap_setCell_other
theorem dH.{u}:type_of% @List.cons.injEq.{u}:=@List.cons.injEq
theorem dI:type_of% @Go.run_underlying:=@Go.run_underlying
theorem dJ.{u,v}:type_of% @Option.map_some.{u,v}:=@Option.map_some
theorem dK:type_of% @Go.heap_setCell_same:=@Go.heap_setCell_same
theorem dL.{u}:type_of% @Option.getD_some.{u}:=@Option.getD_some
theorem dM.{u}:type_of% @Option.some.inj.{u}:=@Option.some.inj
theorem dN:type_of% @ByteArray.size_append:=@ByteArray.size_append
theorem dO:type_of% @Go.wp_region_held_drew:=@Go.wp_region_held_drew
theorem dP:type_of% @Go.wpAnyH_take:=@Go.wpAnyH_take
theorem dQ.{u}:type_of% @List.set_cons_zero.{u}:=@List.set_cons_zero
theorem dR.{u}:type_of% @List.not_mem_nil.{u}:=@List.not_mem_nil
theorem dS.{u}:type_of% @List.getElem_toArray.{u}:=@List.getElem_toArray
