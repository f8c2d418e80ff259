/- Small helpers of this claim: one lemma for a set of equations, and shorter forms of the kit's rules for drawn regions. -/
import Derived.OrdersHeld
import Derived.Deep.RegionHeld
import Derived.KernelRfl
import Derived.WalkKit
import Derived.IntWalk
import Derived.Below
abbrev OA:=Option Go.Addr
theorem zq {p:Prop} (h:p):Go.RowKit.Hid p:=h
namespace Dw
open Go
theorem lay:(∀ {α:Type} {l:List α} {i:Nat} {h:i<l.toArray.size},l.toArray[i]=l[i]'(by simpa using h))∧(∀ {α:Type} {a:α} {l:List α} {i:Nat} {h:i+1<(a::l).length},(a::l)[i+1]=l[i]'(by simpa using h))∧(∀ {α:Type} {a:α} {l:List α} {h:0<(a::l).length},(a::l)[0]=a)∧(∀ {α:Type} {l:List α} {i:Nat} {a:α},l.toArray.setIfInBounds i a=(l.set i a).toArray)∧(∀ {α:Type} {x:α} {l:List α} {a:α},(x::l).set 0 a=a::l)∧∀ {α:Type} {x:α} {l:List α} {n:Nat} {a:α},(x::l).set (n+1) a=x::l.set n a :=
  ⟨by intros;exact List.getElem_toArray ..,by intros;exact List.getElem_cons_succ ..,by intros;exact List.getElem_cons_zero ..,by intros;exact List.setIfInBounds_toArray ..,by intros;exact List.set_cons_zero ..,by intros;exact List.set_cons_succ ..⟩
section
variable {P:Program} {md:Region.Mode} {G:Array Oper} {Q:Exit→Act→World→Prop} {S:World→Prop} {fuel:Nat} {listed:Array Bool} {a:Act} {w:World} {oi:Oper}
theorem tk (i:Nat) (v:Value) (hi:G[i]?=some oi) (hy:∀ w,S w→(execOp a.eval oi).run P w = .ok (.value v) w) (hS:S w) (h:wpAnyH P md G Q S fuel (listed.setIfInBounds i true) (a.put oi.dst v) w)
    (hs:Region.noSelect G=true:=by kernel_rfl) (hf:Region.free md G listed i=true:=by kernel_rfl) (hr:(Region.ready md G listed).contains i=true:=by kernel_rfl) (hQ:∀ c a w,Q (.panic c) (a.put oi.dst v) w→Q (.panic c) a w:=by exact fun _ _ _ h=>h)
    (hw:Region.wanted oi (yielded G a.tmps)=true:=by kernel_rfl):wpAnyH P md G Q S (fuel+1) listed a w :=
  wpAnyH_take hi hs hf hr hQ (Or.inl ⟨hw,hy⟩) hS h
theorem rd1 (i:Nat) (ho:G[i]?=some oi)
    (h:∀ K':Act→World→Prop,Shut (∀ a w,S w→(S w→wpAnyH P md G Q S fuel (listed.setIfInBounds i true) a w)→K' a w)→if Region.wanted oi (yielded G a.tmps)=true then Oper.wp P oi a w K' Q else K' (a.put oi.dst undef) w)
    (hr:Region.ready md G listed=[i]:=by kernel_rfl):wpAnyH P md G Q S (fuel+1) listed a w :=
  wpAnyH_ready hr (by simp) (AllReadyH.cons ho h AllReadyH.nil)
end
end Dw
theorem Go.RowKit.Hid.o {p:Prop}(h:Go.RowKit.Hid p):p:=h.out
theorem za {p:Prop}(h:p:=by omega):p:=h
theorem zc {p:Prop}(h:p:=by kernel_rfl):p:=h
theorem zd {p:Prop}(h:p:=by decide):p:=h
theorem ze {p:Prop}(h:p:=by simp):p:=h
theorem zg {p:Prop}(h:p:=by simp;omega):p:=h
theorem zh {p:Prop}(h:p:=by have:=HK.out;omega):p:=h
theorem zi {p:Prop}(h:p:=by go_num):p:=h
theorem zj {p:Prop}(h:p:=by assumption):p:=h
theorem zk {p:Prop}(h:p:=by rfl):p:=h
theorem zm {p:Prop}(h:p:=by rw [hwd];exact (Below.refl _ _).alloc (Nat.le_refl _) _):p:=h
theorem zn {p:Prop}(h:p:=by unfold maxLen;omega):p:=h
theorem zo {p:Prop}(h:p:=by show Bx _ _ _ _;rw [hwd];exact Bx.new _ _ _):p:=h
theorem zr {p:Prop}(h:p:=by simp [Value.oneCell']):p:=h
theorem zt {p:Prop}(h:p:=by rw [hc _ _ (by simp)];go_simp):p:=h
theorem zu {p:Prop}(h:p:=by simpa using h):p:=h
theorem zv {p:Prop}(h:p:=by rw [ho'];rfl):p:=h
theorem zx {p:Prop}(h:p:=by show _=_;rw [List.take_of_length_le (by omega),List.take_of_length_le (by omega)];rw [Nat.mul_zero,Nat.add_zero]):p:=h
theorem zy {p:Prop}(h:p:=by rw [ho];rfl):p:=h
theorem ya {p:Prop}(h:p:=by have:=HJ.out;omega):p:=h
theorem yb {p:Prop}(h:p:=by first | (rw [HF.out];rfl) | rw [HF.out]):p:=h
theorem yc {p:Prop}(h:p:=by rw [List.length_take];omega):p:=h
theorem yg {p:Prop}(h:p:=by have:=HM.out;omega):p:=h
theorem yh {p:Prop}(h:p:=by simpa using hj):p:=h
theorem yi {p:Prop}(h:p:=by rw [hW];exact ((h2.alloc _).alloc _).alloc _):p:=h
theorem yj {p:Prop}(h:p:=by rw [hW];exact ((h3.alloc _).alloc _).alloc _):p:=h
theorem yk {p:Prop}(h:p:=by rw [hW];exact ((h4.alloc _).alloc _).alloc _):p:=h
theorem ym {p:Prop}(h:p:=by rw [hW];exact ((h.alloc _).alloc _).alloc _):p:=h
theorem yo {p:Prop}(h:p:=by rw [HG.out];exact Nat.le_refl _):p:=h
theorem yp {p:Prop}(h:p:=by have:=hzg;have:=HX.out.lt;omega):p:=h
theorem yq {p:Prop}(h:p:=by have:=hzg;have:=HY.out.lt;omega):p:=h
theorem yr {p:Prop}(h:p:=by show zAv _ _ _ _ _ _ _;rw [HS2.out];exact E):p:=h
theorem yu {p:Prop}(h:p:=by unfold zAS;rw [zEl Y,zEl (show k - 1<d.sh.length by omega),if_neg (by rw [HNM.out];simp),if_pos ⟨hk0,hle⟩]):p:=h
theorem yw {p:Prop}(h:p:=by have:=HJM.out;omega):p:=h
theorem yx {p:Prop}(h:p:=by unfold zBg;rw [zDw Y,zDw (show k - 1<us.length by omega),if_neg (by rw [HNM.out];simp),if_pos ⟨hk0,hle⟩]):p:=h
theorem yy {p:Prop}(h:p:=by rw [←hW];exact (Below.refl _ _).alloc (Nat.le_refl _) _):p:=h
theorem yz {p:Prop}(h:p:=by show _=_;unfold sameB;rw [decide_eq_true h2,decide_eq_true h3,decide_eq_true h4,decide_eq_true h5];simp):p:=h
theorem qb {p:Prop}(h:p:=by decide +kernel):p:=h
theorem qc {p:Prop}(h:p:=by first | exact zAb (Below.refl _ _) _ | exact zAb (zAb (Below.refl _ _) _) _):p:=h
theorem qd {p:Prop}(h:p:=by simpa using hq):p:=h
theorem qe {p:Prop}(h:p:=by rw [zCI];omega):p:=h
theorem qf {p:Prop}(h:p:=by rw [HS.out];rfl):p:=h
theorem qg {p:Prop}(h:p:=by simp [results,Tryz.results100,go_sem,r0,r1,r2]):p:=h
theorem qh {p:Prop}(h:p:=by have:=congrArg List.length hL;simpa using this):p:=h
theorem qi {p:Prop}(h:p:=by show _=_;rw [←HR.out];unfold vB;rw [e1,e2];rfl):p:=h
theorem qj {p:Prop}(h:p:=by rw [ne (by decide)] at hh;rw [nv (by decide)];exact hJ.d11 hh):p:=h
theorem qk {p:Prop}(h:p:=by rw [ne (by decide)] at hh;rw [nv (by decide)];exact hJ.d0 hh):p:=h
theorem qm {p:Prop}(h:p:=by rw [ne (by decide)] at hh;rw [nv (by decide)];exact hJ.d1 hh):p:=h
theorem qn {p:Prop}(h:p:=by rw [ne (by decide)] at hh;rw [nv (by decide)];exact hJ.d2 hh):p:=h
theorem qo {p:Prop}(h:p:=by rw [ne (by decide)] at hh;rw [nv (by decide)];exact hJ.d3 hh):p:=h
theorem qp {p:Prop}(h:p:=by rw [ne (by decide)] at hh;rw [nv (by decide)];exact hJ.d4 hh):p:=h
theorem qq {p:Prop}(h:p:=by rw [ne (by decide)] at hh;rw [nv (by decide)];exact hJ.d5 hh):p:=h
theorem qr {p:Prop}(h:p:=by rw [ne (by decide)] at hh;rw [nv (by decide)];exact hJ.d6 hh):p:=h
theorem qs {p:Prop}(h:p:=by rw [ne (by decide)] at hh;rw [nv (by decide)];exact hJ.d7 hh):p:=h
theorem qt {p:Prop}(h:p:=by rw [ne (by decide)] at hh;rw [nv (by decide)];exact hJ.d8 hh):p:=h
theorem qu {p:Prop}(h:p:=by simp [K]):p:=h
theorem qw {p:Prop}(h:p:=by rw [hw14];exact (Below.refl _ _).alloc (Nat.le_refl _) _):p:=h
theorem qx {p:Prop}(h:p:=by have:=I.size;simp at this;omega):p:=h
theorem qy {p:Prop}(h:p:=by simp;exact Nat.le_succ_of_le HB.out.size):p:=h
theorem qz {p:Prop}(h:p:=by simpa using hi):p:=h
theorem ja {p:Prop}(h:p:=by rw [sumP_zero];decide):p:=h
theorem jb {p:Prop}(h:p:=by rw [List.length_map];have:=HJ.out;omega):p:=h
theorem jc {p:Prop}(h:p:=by rw [List.length_append,List.length_singleton,HO.out]):p:=h
theorem jd {p:Prop}(h:p:=by simp [getObj,Sem.run,hr]):p:=h
theorem je {p:Prop}(h:p:=by rw [HNM.out];simp):p:=h
theorem jf {p:Prop}(h:p:=by rw [BT_eq];omega):p:=h
theorem jg {p:Prop}(h:p:=by rw [←hw];exact ⟨_,rfl,Bx.new _ _ _⟩):p:=h
theorem jh {p:Prop}(h:p:=by injection e with _ e;exact absurd e (by decide)):p:=h
theorem ji {p:Prop}(h:p:=by have:=HL.out;omega):p:=h
theorem jk {p:Prop}(h:p:=by simpa using h3):p:=h
theorem jl {p:Prop}(h:p:=by unfold maxLen;simp;omega):p:=h
theorem jm {p:Prop}(h:p:=by simpa using h2.symm):p:=h
theorem jn {p:Prop}(h:p:=by cases h):p:=h
abbrev BA:=ByteArray
theorem aA.{u,v}:type_of% @List.map_append.{u,v}:=@List.map_append
theorem aB:type_of% @Nat.lt_of_lt_of_le:=@Nat.lt_of_lt_of_le
theorem aC:type_of% @Go.bodyPost_ret:=@Go.bodyPost_ret
theorem aD:type_of% @decide_eq_true:=@decide_eq_true
theorem aE:type_of% @decide_eq_false:=@decide_eq_false
theorem aF.{u}:type_of% @if_pos.{u}:=@if_pos
theorem aG.{u}:type_of% @List.take_succ_eq_append_getElem.{u}:=@List.take_succ_eq_append_getElem
theorem aH.{u}:type_of% @List.getElem_mem.{u}:=@List.getElem_mem
theorem aI:type_of% @Nat.lt_or_ge:=@Nat.lt_or_ge
theorem aJ:type_of% @Go.heap_alloc_new:=@Go.heap_alloc_new
theorem aK:type_of% @Nat.le_refl:=@Nat.le_refl
theorem aL.{u}:type_of% @if_false.{u}:=@if_false
theorem aM.{u}:type_of% @List.length_set.{u}:=@List.length_set
theorem aN.{u}:type_of% @List.take_length.{u}:=@List.take_length
theorem aO.{u}:type_of% @if_neg.{u}:=@if_neg
theorem aP.{u,v}:type_of% @Option.map_some.{u,v}:=@Option.map_some
theorem aQ.{u}:type_of% @Option.some.injEq.{u}:=@Option.some.injEq
theorem aR:type_of% @Go.RowKit.Below.refl:=@Go.RowKit.Below.refl
theorem aS:type_of% @Nat.dvd_trans:=@Nat.dvd_trans
theorem aT:type_of% @Nat.mul_ne_zero:=@Nat.mul_ne_zero
theorem aU.{u}:type_of% @List.take_succ_cons.{u}:=@List.take_succ_cons
theorem aV.{u}:type_of% @List.take_zero.{u}:=@List.take_zero
theorem aW.{u}:type_of% @List.drop_succ_cons.{u}:=@List.drop_succ_cons
theorem aX.{u}:type_of% @List.drop_zero.{u}:=@List.drop_zero
theorem aY.{u}:type_of% @List.length_nil.{u}:=@List.length_nil
theorem aZ.{u,v}:type_of% @List.map_cons.{u,v}:=@List.map_cons
theorem bA.{u}:type_of% @List.getElem_of_eq.{u}:=@List.getElem_of_eq
theorem bB.{u}:type_of% @List.getElem_take.{u}:=@List.getElem_take
theorem bC.{u}:type_of% @List.any_eq_false.{u}:=@List.any_eq_false
theorem bD.{u}:type_of% @List.getElem_of_mem.{u}:=@List.getElem_of_mem
theorem bE.{u,v}:type_of% @congrArg.{u,v}:=@congrArg
theorem bF.{u}:type_of% @List.length_take.{u}:=@List.length_take
theorem bH:type_of% @Nat.min_eq_left:=@Nat.min_eq_left
theorem bI:type_of% @Nat.eq_zero_or_pos:=@Nat.eq_zero_or_pos
theorem bJ.{u,v}:type_of% @List.mem_map_of_mem.{u,v}:=@List.mem_map_of_mem
theorem bK:type_of% @Go.cell_of_row:=@Go.cell_of_row
theorem bL.{u}:type_of% @List.drop_of_length_le.{u}:=@List.drop_of_length_le
theorem bM.{u}:type_of% @List.length_cons.{u}:=@List.length_cons
theorem bN:type_of% @Int.natCast_mul:=@Int.natCast_mul
theorem bO.{u}:type_of% @List.drop_eq_getElem_cons.{u}:=@List.drop_eq_getElem_cons
theorem bQ.{u,v}:type_of% @List.foldl_append.{u,v}:=@List.foldl_append
theorem bR:type_of% @Nat.mod_lt:=@Nat.mod_lt
theorem bS.{u}:type_of% @List.any_append.{u}:=@List.any_append
theorem bT.{u}:type_of% @List.take_of_length_le.{u}:=@List.take_of_length_le
theorem bU:type_of% @Bool.eq_iff_iff:=@Bool.eq_iff_iff
theorem bV.{u}:type_of% @List.append_nil.{u}:=@List.append_nil
theorem bW.{u}:type_of% @beq_eq_false_iff_ne.{u}:=@beq_eq_false_iff_ne
theorem bX:type_of% @decide_eq_true_eq:=@decide_eq_true_eq
theorem bY:type_of% @Classical.byContradiction:=@Classical.byContradiction
theorem bZ.{u,v}:type_of% @List.length_map.{u,v}:=@List.length_map
theorem cA.{u,v}:type_of% @List.getElem_map.{u,v}:=@List.getElem_map
theorem cB.{u}:type_of% @Option.getD_some.{u}:=@Option.getD_some
theorem cC:type_of% @Nat.mul_le_mul_right:=@Nat.mul_le_mul_right
theorem cO:type_of% @Nat.zero_add:=@Nat.zero_add
theorem cP.{u,v}:type_of% @List.flatMap_cons.{u,v}:=@List.flatMap_cons
theorem cQ:type_of% @Go.World.ownsRow.lt:=@Go.World.ownsRow.lt
theorem cR.{u}:type_of% @List.mem_cons_of_mem.{u}:=@List.mem_cons_of_mem
theorem cS.{u}:type_of% @List.mem_cons_self.{u}:=@List.mem_cons_self
theorem cT:type_of% @Nat.pow_succ:=@Nat.pow_succ
theorem cU:type_of% @Nat.mul_add:=@Nat.mul_add
theorem cV:type_of% @Nat.mul_comm:=@Nat.mul_comm
theorem cW:type_of% @Nat.mul_assoc:=@Nat.mul_assoc
theorem cX:type_of% @Nat.add_mul:=@Nat.add_mul
theorem cY:type_of% @Nat.lt_of_le_of_lt:=@Nat.lt_of_le_of_lt
theorem cZ:type_of% @Nat.zero_le:=@Nat.zero_le
theorem dA:type_of% @Nat.mod_eq_of_lt:=@Nat.mod_eq_of_lt
theorem dB:type_of% @Nat.mod_add_div:=@Nat.mod_add_div
theorem dC:type_of% @Nat.mul_le_mul_left:=@Nat.mul_le_mul_left
theorem dD:type_of% @Nat.le_of_lt:=@Nat.le_of_lt
theorem dE.{u}:type_of% @List.take_append_drop.{u}:=@List.take_append_drop
theorem dF.{u,v}:type_of% @List.foldl_cons.{u,v}:=@List.foldl_cons
theorem dG:type_of% @Nat.mul_zero:=@Nat.mul_zero
theorem dH.{u}:type_of% @List.length_drop.{u}:=@List.length_drop
theorem dI:type_of% @Nat.pow_le_pow_right:=@Nat.pow_le_pow_right
theorem dJ.{u}:type_of% @List.mem_of_mem_take.{u}:=@List.mem_of_mem_take
theorem dK:type_of% @Nat.mul_one:=@Nat.mul_one
theorem dL.{u}:type_of% @List.set_cons_succ.{u}:=@List.set_cons_succ
theorem dM.{u}:type_of% @List.getElem_cons_succ.{u}:=@List.getElem_cons_succ
theorem dN.{u}:type_of% @List.append_assoc.{u}:=@List.append_assoc
theorem dO:type_of% @Go.frozen_of_row:=@Go.frozen_of_row
theorem dP.{u}:type_of% @List.setIfInBounds_toArray.{u}:=@List.setIfInBounds_toArray
theorem dQ:type_of% @Go.RowKit.Below.heap_setCell:=@Go.RowKit.Below.heap_setCell
theorem dS.{u}:type_of% @List.getElem_cons_zero.{u}:=@List.getElem_cons_zero
theorem dT:type_of% @Nat.add_zero:=@Nat.add_zero
theorem dU:type_of% @Nat.mul_le_mul:=@Nat.mul_le_mul
theorem dV:type_of% @Nat.pow_add:=@Nat.pow_add
theorem dW:type_of% @Nat.two_pow_pos:=@Nat.two_pow_pos
theorem dX:type_of% @Nat.le_trans:=@Nat.le_trans
theorem dY:type_of% @Nat.mul_lt_mul_of_pos_right:=@Nat.mul_lt_mul_of_pos_right
theorem dZ:type_of% @Nat.mul_pos:=@Nat.mul_pos
theorem eA.{u}:type_of% @List.length_append.{u}:=@List.length_append
theorem eB.{u}:type_of% @List.eq_nil_of_length_eq_zero.{u}:=@List.eq_nil_of_length_eq_zero
theorem eC:type_of% @Go.World.ownsRow.cellAt:=@Go.World.ownsRow.cellAt
theorem eD.{u}:type_of% @List.all_append.{u}:=@List.all_append
theorem eE:type_of% @Bool.and_eq_true:=@Bool.and_eq_true
theorem eF:type_of% @List.range_succ:=@List.range_succ
theorem eG.{u}:type_of% @List.filter_append.{u}:=@List.filter_append
theorem eH.{u}:type_of% @List.length_filter_le.{u}:=@List.length_filter_le
theorem eI:type_of% @Nat.gcd_pos_of_pos_right:=@Nat.gcd_pos_of_pos_right
theorem eJ:type_of% @Go.RowKit.Below.heap_alloc:=@Go.RowKit.Below.heap_alloc
theorem eK:type_of% @Bool.false_and:=@Bool.false_and
theorem eL:type_of% @Bool.true_and:=@Bool.true_and
theorem eM:type_of% @Go.heap_setCell_other:=@Go.heap_setCell_other
theorem eN.{u}:type_of% @List.cons.injEq.{u}:=@List.cons.injEq
theorem eO:type_of% @Go.run_underlying:=@Go.run_underlying
theorem eP:type_of% @Go.heap_setCell_same:=@Go.heap_setCell_same
theorem eQ.{u}:type_of% @Option.getD_none.{u}:=@Option.getD_none
theorem eR:type_of% @Bool.false_eq_true:=@Bool.false_eq_true
theorem eS.{u}:type_of% @List.any_eq_true.{u}:=@List.any_eq_true
theorem eT.{u}:type_of% @List.filter_cons_of_neg.{u}:=@List.filter_cons_of_neg
theorem eU:type_of% @Go.wp_region_held_drew:=@Go.wp_region_held_drew
theorem eW:type_of% @Go.wpAnyH_take:=@Go.wpAnyH_take
theorem eX.{u}:type_of% @List.set_cons_zero.{u}:=@List.set_cons_zero
theorem eY.{u}:type_of% @List.mem_append.{u}:=@List.mem_append
theorem eZ.{u}:type_of% @List.getElem_toArray.{u}:=@List.getElem_toArray
theorem fA:type_of% @Go.AllReadyH.cons:=@Go.AllReadyH.cons
theorem fB.{u}:type_of% @List.filter_cons_of_pos.{u}:=@List.filter_cons_of_pos
theorem fC:type_of% @Rat.mul_le_mul_of_nonneg_left:=@Rat.mul_le_mul_of_nonneg_left
theorem fD.{u}:type_of% @List.mem_cons.{u}:=@List.mem_cons
theorem fE:type_of% @of_decide_eq_true:=@of_decide_eq_true
theorem fF:type_of% @decide_eq_true_iff:=@decide_eq_true_iff
theorem fG:type_of% @Go.wp_load_mid:=@Go.wp_load_mid
theorem fH.{u}:type_of% @Option.some.inj.{u}:=@Option.some.inj
