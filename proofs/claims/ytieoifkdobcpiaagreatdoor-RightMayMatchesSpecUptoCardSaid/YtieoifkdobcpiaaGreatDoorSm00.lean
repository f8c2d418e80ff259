/- Small helpers of this claim: one lemma for a set of equations, and shorter forms of the kit's rules for drawn regions. -/
import Derived.OrdersHeld
import Derived.Deep.RegionHeld
import Derived.KernelRfl
import Derived.WalkKit
import Derived.IntWalk
import Derived.Below
theorem zq {p:Prop} (h:p):Go.RowKit.Hid p:=h
namespace Dw
open Go
theorem lay:(∀ {α:Type} {l:List α} {i:Nat} {h:i<l.toArray.size},l.toArray[i]=l[i]'(by simpa using h))∧(∀ {α:Type} {a:α} {l:List α} {i:Nat} {h:i+1<(a::l).length},(a::l)[i+1]=l[i]'(by simpa using h))∧(∀ {α:Type} {a:α} {l:List α} {h:0<(a::l).length},(a::l)[0]=a)∧(∀ {α:Type} {l:List α} {i:Nat} {a:α},l.toArray.setIfInBounds i a=(l.set i a).toArray)∧(∀ {α:Type} {x:α} {l:List α} {a:α},(x::l).set 0 a=a::l)∧∀ {α:Type} {x:α} {l:List α} {n:Nat} {a:α},(x::l).set (n+1) a=x::l.set n a :=
  ⟨by intros;exact List.getElem_toArray ..,by intros;exact List.getElem_cons_succ ..,by intros;exact List.getElem_cons_zero ..,by intros;exact List.setIfInBounds_toArray ..,by intros;exact List.set_cons_zero ..,by intros;exact List.set_cons_succ ..⟩
section
variable {P:Program} {md:Region.Mode} {ops:Array Oper} {Q:Exit→Act→World→Prop} {S:World→Prop} {fuel:Nat} {listed:Array Bool} {a:Act} {w:World} {oi:Oper}
theorem tk (i:Nat) (v:Value) (hi:ops[i]?=some oi) (hy:∀ w,S w→(execOp a.eval oi).run P w = .ok (.value v) w) (hS:S w) (h:wpAnyH P md ops Q S fuel (listed.setIfInBounds i true) (a.put oi.dst v) w)
    (hs:Region.noSelect ops=true:=by kernel_rfl) (hf:Region.free md ops listed i=true:=by kernel_rfl) (hr:(Region.ready md ops listed).contains i=true:=by kernel_rfl) (hQ:∀ c a w,Q (.panic c) (a.put oi.dst v) w→Q (.panic c) a w:=by exact fun _ _ _ h=>h)
    (hw:Region.wanted oi (yielded ops a.tmps)=true:=by kernel_rfl):wpAnyH P md ops Q S (fuel+1) listed a w :=
  wpAnyH_take hi hs hf hr hQ (Or.inl ⟨hw,hy⟩) hS h
theorem rd1 (i:Nat) (ho:ops[i]?=some oi)
    (h:∀ K':Act→World→Prop,Shut (∀ a w,S w→(S w→wpAnyH P md ops Q S fuel (listed.setIfInBounds i true) a w)→K' a w)→if Region.wanted oi (yielded ops a.tmps)=true then Oper.wp P oi a w K' Q else K' (a.put oi.dst undef) w)
    (hr:Region.ready md ops listed=[i]:=by kernel_rfl):wpAnyH P md ops Q S (fuel+1) listed a w :=
  wpAnyH_ready hr (by simp) (AllReadyH.cons ho h AllReadyH.nil)
end
end Dw
theorem Go.RowKit.Hid.o {p:Prop}(h:Go.RowKit.Hid p):p:=h.out
theorem za {p:Prop}(h:p:=by omega):p:=h
theorem zc {p:Prop}(h:p:=by kernel_rfl):p:=h
theorem zd {p:Prop}(h:p:=by decide):p:=h
theorem ze {p:Prop}(h:p:=by simp):p:=h
theorem zg {p:Prop}(h:p:=by simp;omega):p:=h
theorem zh {p:Prop}(h:p:=by have:=HK.out;omega):p:=h
theorem zi {p:Prop}(h:p:=by go_num):p:=h
theorem zj {p:Prop}(h:p:=by assumption):p:=h
theorem zk {p:Prop}(h:p:=by rfl):p:=h
theorem zm {p:Prop}(h:p:=by unfold maxLen;omega):p:=h
theorem zn {p:Prop}(h:p:=by simpa using h):p:=h
theorem zo {p:Prop}(h:p:=by rw [hc _ _ (by simp)];go_simp):p:=h
theorem zr {p:Prop}(h:p:=by have:=HJM.out;omega):p:=h
theorem zt {p:Prop}(h:p:=by rw [hwd];exact (Below.refl _ _).alloc (Nat.le_refl _) _):p:=h
theorem zu {p:Prop}(h:p:=by rw [ho];rfl):p:=h
theorem zv {p:Prop}(h:p:=by rw [ho'];rfl):p:=h
theorem zx {p:Prop}(h:p:=by show _=_;unfold deLt;rw [slt_sle,hle];simp;omega):p:=h
theorem zy {p:Prop}(h:p:=by simp [Value.oneCell']):p:=h
theorem ya {p:Prop}(h:p:=by rw [HO.out,HS.out];rfl):p:=h
theorem yb {p:Prop}(h:p:=by have:=HJ.out;omega):p:=h
theorem yc {p:Prop}(h:p:=by show _=_;rw [List.take_of_length_le (by omega),List.take_of_length_le (by omega)];rw [Nat.mul_zero,Nat.add_zero]):p:=h
theorem yg {p:Prop}(h:p:=by show Bx _ _ _ _;rw [hwd];exact Bx.new _ _ _):p:=h
theorem yh {p:Prop}(h:p:=by rw [List.length_append,List.length_singleton,HO.out]):p:=h
theorem yi {p:Prop}(h:p:=by have:=HM.out;omega):p:=h
theorem yj {p:Prop}(h:p:=by simp;exact Nat.le_succ_of_le HB.out.size):p:=h
theorem yk {p:Prop}(h:p:=by rw [HG.out];exact Nat.le_refl _):p:=h
theorem ym {p:Prop}(h:p:=by show _=_;rw [←HR.out,if_neg (by rw [h1];simp),if_pos h2]):p:=h
theorem yo {p:Prop}(h:p:=by first | (rw [HS.out];rfl) | rw [HS.out]):p:=h
theorem yp {p:Prop}(h:p:=by rw [hW];exact ((h2.alloc _).alloc _).alloc _):p:=h
theorem yq {p:Prop}(h:p:=by rw [hW];exact ((h3.alloc _).alloc _).alloc _):p:=h
theorem yr {p:Prop}(h:p:=by rw [hW];exact ((h4.alloc _).alloc _).alloc _):p:=h
theorem yu {p:Prop}(h:p:=by rw [hW];exact ((h.alloc _).alloc _).alloc _):p:=h
theorem yw {p:Prop}(h:p:=by have:=hzg;have:=HX.out.lt;omega):p:=h
theorem yx {p:Prop}(h:p:=by have:=hzg;have:=HY.out.lt;omega):p:=h
theorem yy {p:Prop}(h:p:=by first | (rw [HS3.out];rfl) | rw [HS3.out]):p:=h
theorem yz {p:Prop}(h:p:=by simpa using hi):p:=h
theorem qb {p:Prop}(h:p:=by unfold zAR;rw [zDp hlt,zDp (show k - 1<d.sh.length by omega),if_neg (by rw [HNM.out];simp),if_pos ⟨hk0,hle⟩]):p:=h
theorem qc {p:Prop}(h:p:=by unfold zBg;rw [zCP hlt,zCP (show k - 1<us.length by omega),if_neg (by rw [HNM.out];simp),if_pos ⟨hk0,hle⟩]):p:=h
theorem qd {p:Prop}(h:p:=by rw [HNM.out];simp):p:=h
theorem qe {p:Prop}(h:p:=by simpa using hj):p:=h
theorem qf {p:Prop}(h:p:=by rw [←hW];exact (Below.refl _ _).alloc (Nat.le_refl _) _):p:=h
theorem qg {p:Prop}(h:p:=by rw [zCA];omega):p:=h
theorem qh {p:Prop}(h:p:=by show _=_;unfold zCN;rw [HLB.out,HMU.out,hdy];rfl):p:=h
theorem qi {p:Prop}(h:p:=by decide +kernel):p:=h
theorem qj {p:Prop}(h:p:=by first | exact zAd (Below.refl _ _) _ | exact zAd (zAd (Below.refl _ _) _) _):p:=h
theorem qk {p:Prop}(h:p:=by simpa using hq):p:=h
theorem qm {p:Prop}(h:p:=by rw [←HO.out];exact HN7.out):p:=h
theorem qn {p:Prop}(h:p:=by have:=congrArg List.length hL;simpa using this):p:=h
theorem qo {p:Prop}(h:p:=by show _=_;rw [←HR.out];unfold vB;rw [e1,e2];rfl):p:=h
theorem qp {p:Prop}(h:p:=by rw [HPJ.out];exact decide_eq_true he):p:=h
theorem qq {p:Prop}(h:p:=by simp [results,Tryz.results75,go_sem,r0,r1,r2]):p:=h
theorem qr {p:Prop}(h:p:=by rw [ne (by decide)] at hh;rw [nv (by decide)];exact hJ.d11 hh):p:=h
theorem qs {p:Prop}(h:p:=by rw [BT_eq];omega):p:=h
theorem qt {p:Prop}(h:p:=by rw [ne (by decide)] at hh;rw [nv (by decide)];exact hJ.d0 hh):p:=h
theorem qu {p:Prop}(h:p:=by rw [ne (by decide)] at hh;rw [nv (by decide)];exact hJ.d1 hh):p:=h
theorem qw {p:Prop}(h:p:=by rw [ne (by decide)] at hh;rw [nv (by decide)];exact hJ.d2 hh):p:=h
theorem qx {p:Prop}(h:p:=by rw [ne (by decide)] at hh;rw [nv (by decide)];exact hJ.d3 hh):p:=h
theorem qy {p:Prop}(h:p:=by rw [ne (by decide)] at hh;rw [nv (by decide)];exact hJ.d4 hh):p:=h
theorem qz {p:Prop}(h:p:=by rw [ne (by decide)] at hh;rw [nv (by decide)];exact hJ.d5 hh):p:=h
theorem ja {p:Prop}(h:p:=by rw [ne (by decide)] at hh;rw [nv (by decide)];exact hJ.d6 hh):p:=h
theorem jb {p:Prop}(h:p:=by rw [ne (by decide)] at hh;rw [nv (by decide)];exact hJ.d7 hh):p:=h
theorem jc {p:Prop}(h:p:=by rw [ne (by decide)] at hh;rw [nv (by decide)];exact hJ.d8 hh):p:=h
theorem jd {p:Prop}(h:p:=by show _=_;rw [ordB_take hk hk0,hpd]):p:=h
theorem je {p:Prop}(h:p:=by simp [zAf]):p:=h
theorem jf {p:Prop}(h:p:=by show _=_;rw [←HR1.out,if_pos hob]):p:=h
theorem jg {p:Prop}(h:p:=by rw [hw14];exact (Below.refl _ _).alloc (Nat.le_refl _) _):p:=h
theorem jh {p:Prop}(h:p:=by have:=hb.size;simp at this;omega):p:=h
theorem ji {p:Prop}(h:p:=by rw [World.drewN_drewN,World.drewN_drewN];exact ⟨_,rfl⟩):p:=h
theorem jj {p:Prop}(h:p:=by show _=_;rw [←HR.out,if_pos h1]):p:=h
theorem jk {p:Prop}(h:p:=by show _=_;unfold deLt;simp;omega):p:=h
theorem jl {p:Prop}(h:p:=by rw [h];simp):p:=h
theorem jm {p:Prop}(h:p:=by rw [sumP_zero];decide):p:=h
theorem jn {p:Prop}(h:p:=by simp [execOp,run_makeMap]):p:=h
theorem jo {p:Prop}(h:p:=by rw [List.length_map];have:=HJ.out;omega):p:=h
theorem jp {p:Prop}(h:p:=by simp [getObj,Sem.run,hr]):p:=h
theorem jq {p:Prop}(h:p:=by rw [HS.out];rfl):p:=h
theorem jr {p:Prop}(h:p:=by have:=wtrim_len L;omega):p:=h
theorem js {p:Prop}(h:p:=by rw [List.length_take];omega):p:=h
theorem jt {p:Prop}(h:p:=by injection e with _ e;exact absurd e (by decide)):p:=h
theorem ju {p:Prop}(h:p:=by rw [h1];simp):p:=h
theorem jw {p:Prop}(h:p:=by rw [HS.out];decide):p:=h
theorem jx {p:Prop}(h:p:=by show _=_;rw [←HR4.out,if_pos hnb]):p:=h
theorem jy {p:Prop}(h:p:=by rw [hle] at hh;cases hh.2):p:=h
theorem jz {p:Prop}(h:p:=by simpa using hr):p:=h
theorem j0 {p:Prop}(h:p:=by simpa using h1):p:=h
theorem j1 {p:Prop}(h:p:=by have:=HKM.out;omega):p:=h
theorem j2 {p:Prop}(h:p:=by cases h):p:=h
abbrev BA:=ByteArray
theorem aA.{u}:type_of% @List.drop_of_length_le.{u}:=@List.drop_of_length_le
theorem aB:type_of% @Nat.le_refl:=@Nat.le_refl
theorem aC.{u}:type_of% @if_neg.{u}:=@if_neg
theorem aD.{u}:type_of% @List.append_nil.{u}:=@List.append_nil
theorem aE.{u}:type_of% @if_pos.{u}:=@if_pos
theorem aF.{u}:type_of% @List.drop_eq_getElem_cons.{u}:=@List.drop_eq_getElem_cons
theorem aG.{u}:type_of% @beq_eq_false_iff_ne.{u}:=@beq_eq_false_iff_ne
theorem aH:type_of% @decide_eq_true_eq:=@decide_eq_true_eq
theorem aI:type_of% @Bool.or_eq_false_iff:=@Bool.or_eq_false_iff
theorem aJ.{u}:type_of% @List.getElem_mem.{u}:=@List.getElem_mem
theorem aK.{u}:type_of% @List.getElem_of_mem.{u}:=@List.getElem_of_mem
theorem aL:type_of% @Classical.byContradiction:=@Classical.byContradiction
theorem aM.{u,v}:type_of% @List.length_map.{u,v}:=@List.length_map
theorem aN.{u,v}:type_of% @List.getElem_map.{u,v}:=@List.getElem_map
theorem aO.{u}:type_of% @Option.getD_some.{u}:=@Option.getD_some
theorem aP:type_of% @Nat.mul_le_mul_right:=@Nat.mul_le_mul_right
theorem aQ:type_of% @Nat.zero_add:=@Nat.zero_add
theorem aR:type_of% @Go.cell_of_row:=@Go.cell_of_row
theorem aS:type_of% @Go.RowKit.Below.refl:=@Go.RowKit.Below.refl
theorem aT:type_of% @Go.World.ownsRow.lt:=@Go.World.ownsRow.lt
theorem aU:type_of% @Nat.lt_or_ge:=@Nat.lt_or_ge
theorem aV.{u}:type_of% @List.any_eq_false.{u}:=@List.any_eq_false
theorem aW.{u}:type_of% @List.mem_cons_of_mem.{u}:=@List.mem_cons_of_mem
theorem aX.{u}:type_of% @List.mem_cons_self.{u}:=@List.mem_cons_self
theorem aY.{u}:type_of% @List.length_cons.{u}:=@List.length_cons
theorem aZ:type_of% @Nat.pow_succ:=@Nat.pow_succ
theorem bA:type_of% @Nat.mul_add:=@Nat.mul_add
theorem bB:type_of% @Nat.mul_comm:=@Nat.mul_comm
theorem bC:type_of% @Nat.mul_assoc:=@Nat.mul_assoc
theorem bD:type_of% @Nat.add_mul:=@Nat.add_mul
theorem bE:type_of% @Nat.lt_of_le_of_lt:=@Nat.lt_of_le_of_lt
theorem bF:type_of% @Nat.zero_le:=@Nat.zero_le
theorem bH.{u,v}:type_of% @congrArg.{u,v}:=@congrArg
theorem bI:type_of% @Nat.mod_eq_of_lt:=@Nat.mod_eq_of_lt
theorem bJ:type_of% @Nat.mod_lt:=@Nat.mod_lt
theorem bK:type_of% @Nat.mod_add_div:=@Nat.mod_add_div
theorem bL:type_of% @Nat.mul_le_mul_left:=@Nat.mul_le_mul_left
theorem bM.{u}:type_of% @List.take_succ_eq_append_getElem.{u}:=@List.take_succ_eq_append_getElem
theorem bN.{u}:type_of% @List.length_take.{u}:=@List.length_take
theorem bO:type_of% @Nat.min_eq_left:=@Nat.min_eq_left
theorem bP:type_of% @Nat.le_of_lt:=@Nat.le_of_lt
theorem bQ.{u}:type_of% @List.take_append_drop.{u}:=@List.take_append_drop
theorem bR:type_of% @Nat.eq_zero_or_pos:=@Nat.eq_zero_or_pos
theorem bS.{u,v}:type_of% @List.foldl_cons.{u,v}:=@List.foldl_cons
theorem bT:type_of% @Nat.mul_zero:=@Nat.mul_zero
theorem bU.{u,v}:type_of% @List.foldl_append.{u,v}:=@List.foldl_append
theorem bV.{u}:type_of% @List.length_drop.{u}:=@List.length_drop
theorem bW.{u}:type_of% @List.take_succ_cons.{u}:=@List.take_succ_cons
theorem bX.{u}:type_of% @List.take_length.{u}:=@List.take_length
theorem bY:type_of% @Nat.pow_le_pow_right:=@Nat.pow_le_pow_right
theorem bZ.{u}:type_of% @List.mem_of_mem_take.{u}:=@List.mem_of_mem_take
theorem cA:type_of% @Nat.mul_one:=@Nat.mul_one
theorem cB.{u}:type_of% @List.set_cons_succ.{u}:=@List.set_cons_succ
theorem cC.{u}:type_of% @List.getElem_cons_succ.{u}:=@List.getElem_cons_succ
theorem cO:type_of% @Go.frozen_of_row:=@Go.frozen_of_row
theorem cP.{u}:type_of% @List.setIfInBounds_toArray.{u}:=@List.setIfInBounds_toArray
theorem cQ.{u}:type_of% @List.getElem_take.{u}:=@List.getElem_take
theorem cR:type_of% @Go.RowKit.Below.heap_setCell:=@Go.RowKit.Below.heap_setCell
theorem cS:type_of% @Go.heap_alloc_new:=@Go.heap_alloc_new
theorem cT:type_of% @Int.natCast_mul:=@Int.natCast_mul
theorem cV.{u}:type_of% @List.getElem_of_eq.{u}:=@List.getElem_of_eq
theorem cW:type_of% @decide_eq_true:=@decide_eq_true
theorem cX:type_of% @decide_eq_false:=@decide_eq_false
theorem cY.{u}:type_of% @List.take_of_length_le.{u}:=@List.take_of_length_le
theorem cZ:type_of% @Nat.add_zero:=@Nat.add_zero
theorem dA.{u}:type_of% @List.length_append.{u}:=@List.length_append
theorem dB:type_of% @Nat.pow_add:=@Nat.pow_add
theorem dC.{u}:type_of% @List.getElem_set_ne.{u}:=@List.getElem_set_ne
theorem dD.{u}:type_of% @List.getElem_cons_zero.{u}:=@List.getElem_cons_zero
theorem dE.{u}:type_of% @List.length_set.{u}:=@List.length_set
theorem dF.{u}:type_of% @List.drop_zero.{u}:=@List.drop_zero
theorem dG:type_of% @Int.natCast_nonneg:=@Int.natCast_nonneg
theorem dH:type_of% @Nat.two_pow_pos:=@Nat.two_pow_pos
theorem dI:type_of% @Nat.le_trans:=@Nat.le_trans
theorem dJ:type_of% @Nat.mul_lt_mul_of_pos_right:=@Nat.mul_lt_mul_of_pos_right
theorem dK:type_of% @Nat.le_add_right:=@Nat.le_add_right
theorem dL:type_of% @Nat.lt_of_lt_of_le:=@Nat.lt_of_lt_of_le
theorem dM:type_of% @Nat.div_le_self:=@Nat.div_le_self
theorem dN:type_of% @Nat.mul_pos:=@Nat.mul_pos
theorem dO.{u}:type_of% @List.take_zero.{u}:=@List.take_zero
theorem dP.{u}:type_of% @List.drop_succ_cons.{u}:=@List.drop_succ_cons
theorem dQ.{u}:type_of% @List.eq_nil_of_length_eq_zero.{u}:=@List.eq_nil_of_length_eq_zero
theorem dR:type_of% @Go.Value.slice.injEq:=@Go.Value.slice.injEq
theorem dS.{u}:type_of% @List.all_append.{u}:=@List.all_append
theorem dT:type_of% @Bool.and_eq_true:=@Bool.and_eq_true
theorem dU:type_of% @Nat.pow_le_pow_left:=@Nat.pow_le_pow_left
theorem dV:type_of% @List.range_succ:=@List.range_succ
theorem dW.{u}:type_of% @List.filter_append.{u}:=@List.filter_append
theorem dX.{u}:type_of% @List.length_filter_le.{u}:=@List.length_filter_le
theorem dY:type_of% @Go.bodyPost_ret:=@Go.bodyPost_ret
theorem dZ:type_of% @Nat.gcd_pos_of_pos_right:=@Nat.gcd_pos_of_pos_right
theorem eA:type_of% @Go.RowKit.Below.heap_alloc:=@Go.RowKit.Below.heap_alloc
theorem eB:type_of% @Bool.false_and:=@Bool.false_and
theorem eC.{u}:type_of% @List.ext_getElem.{u}:=@List.ext_getElem
theorem eD.{u}:type_of% @if_false.{u}:=@if_false
theorem eE:type_of% @Go.run_underlying:=@Go.run_underlying
theorem eF.{u}:type_of% @List.length_nil.{u}:=@List.length_nil
theorem eG.{u,v}:type_of% @List.map_cons.{u,v}:=@List.map_cons
theorem eH:type_of% @Nat.pos_of_ne_zero:=@Nat.pos_of_ne_zero
theorem eI:type_of% @Go.heap_setCell_same:=@Go.heap_setCell_same
theorem eJ:type_of% @Bool.false_eq_true:=@Bool.false_eq_true
theorem eK.{u}:type_of% @List.any_append.{u}:=@List.any_append
theorem eL:type_of% @Go.heap_setCell_other:=@Go.heap_setCell_other
theorem eM.{u}:type_of% @List.cons.injEq.{u}:=@List.cons.injEq
theorem eN.{u}:type_of% @Option.some.injEq.{u}:=@Option.some.injEq
theorem eO.{u,v}:type_of% @Option.map_some.{u,v}:=@Option.map_some
theorem eP.{u}:type_of% @Option.getD_none.{u}:=@Option.getD_none
theorem eQ.{u,v}:type_of% @List.map_append.{u,v}:=@List.map_append
theorem eR:type_of% @Bool.false_or:=@Bool.false_or
theorem eS.{u}:type_of% @List.filter_cons_of_neg.{u}:=@List.filter_cons_of_neg
theorem eT:type_of% @Go.wp_region_held_drew:=@Go.wp_region_held_drew
theorem eU:type_of% @Go.wpAnyH_take:=@Go.wpAnyH_take
theorem eV.{u}:type_of% @List.set_cons_zero.{u}:=@List.set_cons_zero
theorem eW.{u}:type_of% @List.getElem_toArray.{u}:=@List.getElem_toArray
theorem eX.{u}:type_of% @List.filter_cons_of_pos.{u}:=@List.filter_cons_of_pos
theorem eY.{u,v}:type_of% @List.mem_map_of_mem.{u,v}:=@List.mem_map_of_mem
theorem eZ:type_of% @Rat.mul_le_mul_of_nonneg_left:=@Rat.mul_le_mul_of_nonneg_left
theorem fA:type_of% @Nat.mul_ne_zero:=@Nat.mul_ne_zero
theorem fB:type_of% @Nat.dvd_trans:=@Nat.dvd_trans
theorem fC:type_of% @Go.wp_load_mid:=@Go.wp_load_mid
theorem fD:type_of% @decide_eq_true_iff:=@decide_eq_true_iff
theorem fE.{u}:type_of% @Option.some.inj.{u}:=@Option.some.inj
