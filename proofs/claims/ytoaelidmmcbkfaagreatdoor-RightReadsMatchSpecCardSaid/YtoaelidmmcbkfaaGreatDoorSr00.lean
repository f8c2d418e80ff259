/- Small helpers of this claim: one lemma for a set of equations, and shorter forms of the kit's rules for drawn regions. -/
import Derived.OrdersHeld
import Derived.Deep.RegionHeld
import Derived.KernelRfl
import Derived.WalkKit
import Derived.IntWalk
import Derived.Below
theorem zq {p:Prop} (h:p):Go.RowKit.Hid p:=h
namespace Dw
open Go
theorem lay:(∀ {α:Type} {l:List α} {i:Nat} {h:i<l.toArray.size},l.toArray[i]=l[i]'(by simpa using h))∧(∀ {α:Type} {a:α} {l:List α} {i:Nat} {h:i+1<(a::l).length},(a::l)[i+1]=l[i]'(by simpa using h))∧(∀ {α:Type} {a:α} {l:List α} {h:0<(a::l).length},(a::l)[0]=a)∧(∀ {α:Type} {l:List α} {i:Nat} {a:α},l.toArray.setIfInBounds i a=(l.set i a).toArray)∧(∀ {α:Type} {x:α} {l:List α} {a:α},(x::l).set 0 a=a::l)∧∀ {α:Type} {x:α} {l:List α} {n:Nat} {a:α},(x::l).set (n+1) a=x::l.set n a :=
  ⟨by intros;exact List.getElem_toArray ..,by intros;exact List.getElem_cons_succ ..,by intros;exact List.getElem_cons_zero ..,by intros;exact List.setIfInBounds_toArray ..,by intros;exact List.set_cons_zero ..,by intros;exact List.set_cons_succ ..⟩
section
variable {P:Program} {md:Region.Mode} {ops:Array Oper} {Q:Exit→Act→World→Prop} {S:World→Prop} {fuel:Nat} {listed:Array Bool} {a:Act} {w:World} {oi:Oper}
theorem tk (i:Nat) (v:Value) (hi:ops[i]?=some oi) (hy:∀ w,S w→(execOp a.eval oi).run P w = .ok (.value v) w) (hS:S w) (h:wpAnyH P md ops Q S fuel (listed.setIfInBounds i true) (a.put oi.dst v) w)
    (hs:Region.noSelect ops=true:=by kernel_rfl) (hf:Region.free md ops listed i=true:=by kernel_rfl) (hr:(Region.ready md ops listed).contains i=true:=by kernel_rfl) (hQ:∀ c a w,Q (.panic c) (a.put oi.dst v) w→Q (.panic c) a w:=by exact fun _ _ _ h=>h)
    (hw:Region.wanted oi (yielded ops a.tmps)=true:=by kernel_rfl):wpAnyH P md ops Q S (fuel+1) listed a w :=
  wpAnyH_take hi hs hf hr hQ (Or.inl ⟨hw,hy⟩) hS h
theorem rd1 (i:Nat) (ho:ops[i]?=some oi)
    (h:∀ K':Act→World→Prop,Shut (∀ a w,S w→(S w→wpAnyH P md ops Q S fuel (listed.setIfInBounds i true) a w)→K' a w)→if Region.wanted oi (yielded ops a.tmps)=true then Oper.wp P oi a w K' Q else K' (a.put oi.dst undef) w)
    (hr:Region.ready md ops listed=[i]:=by kernel_rfl):wpAnyH P md ops Q S (fuel+1) listed a w :=
  wpAnyH_ready hr (by simp) (AllReadyH.cons ho h AllReadyH.nil)
end
end Dw
theorem Go.RowKit.Hid.o {p:Prop}(h:Go.RowKit.Hid p):p:=h.out
theorem za {p:Prop}(h:p:=by omega):p:=h
theorem zb {p:Prop}(h:p:=by kernel_rfl):p:=h
theorem zc {p:Prop}(h:p:=by decide):p:=h
theorem zd {p:Prop}(h:p:=by simp):p:=h
theorem ze {p:Prop}(h:p:=by first | exact HB.out | exact zAc HB.out _ | exact zAc (zAc HB.out _) _ | exact zAc (zAc (zAc HB.out _) _) _):p:=h
theorem zg {p:Prop}(h:p:=by simp;omega):p:=h
theorem zh {p:Prop}(h:p:=by assumption):p:=h
theorem zi {p:Prop}(h:p:=by show _=_;rw [h4];rfl):p:=h
theorem zj {p:Prop}(h:p:=by rw [HDZ.out]):p:=h
theorem zk {p:Prop}(h:p:=by first | rfl | trivial):p:=h
theorem zl {p:Prop}(h:p:=by have:=HK.out;omega):p:=h
theorem zn {p:Prop}(h:p:=by go_num):p:=h
theorem zo {p:Prop}(h:p:=by rfl):p:=h
theorem zr {p:Prop}(h:p:=by rw [ofL_size];omega):p:=h
theorem zt {p:Prop}(h:p:=by unfold maxLen;omega):p:=h
theorem zu {p:Prop}(h:p:=by simp [Value.oneCell']):p:=h
theorem zv {p:Prop}(h:p:=by show _=_;rw [hk];rfl):p:=h
theorem zy {p:Prop}(h:p:=by cases h):p:=h
theorem yg {p:Prop}(h:p:=by show _=_;rw [←HA1.out,HST.out];simp only [List.append_assoc,List.singleton_append]):p:=h
theorem yh {p:Prop}(h:p:=by rw [List.length_append,←Nat.add_assoc,←HKK.out,HSN.out];exact HTN.out):p:=h
theorem yi {p:Prop}(h:p:=by rw [hc _ _ (by simp)];go_simp):p:=h
theorem yj {p:Prop}(h:p:=by rw [ho];rfl):p:=h
theorem yk {p:Prop}(h:p:=by have:=Option.some.inj e;omega):p:=h
theorem ym {p:Prop}(h:p:=by rw [ho'];rfl):p:=h
theorem yo {p:Prop}(h:p:=by show _=_;unfold deLt;rw [slt_sle,hle];simp;omega):p:=h
theorem yp {p:Prop}(h:p:=by have:=HM.out;omega):p:=h
theorem yq {p:Prop}(h:p:=by rw [HO.out,HS.out];rfl):p:=h
theorem yr {p:Prop}(h:p:=by show _=_;rw [List.take_of_length_le (by omega),List.take_of_length_le (by omega)];rw [Nat.mul_zero,Nat.add_zero]):p:=h
theorem yu {p:Prop}(h:p:=by have:=HMS.out;have:=HKK.out;simp;omega):p:=h
theorem yw {p:Prop}(h:p:=by rw [hk];rfl):p:=h
theorem yx {p:Prop}(h:p:=by rw [HDZ.out];rfl):p:=h
theorem yy {p:Prop}(h:p:=by show r≠w.heap.size;omega):p:=h
theorem yz {p:Prop}(h:p:=by rw [List.length_append,List.length_singleton,HO.out]):p:=h
theorem qb {p:Prop}(h:p:=by show _∧_∧_∧_∧_;rw [hda];exact ⟨rfl,⟨by rw [HDZ.out],by rw [HDZ.out],by rw [HDZ.out]⟩,⟨by rw [HDZ.out],by rw [HDZ.out],by rw [HDZ.out]⟩,⟨by rw [HDZ.out],by rw [HDZ.out]⟩,by rw [HDZ.out];rfl⟩):p:=h
theorem qc {p:Prop}(h:p:=by rw [List.length_append,←Nat.add_assoc,←HKK.out];exact K1.out):p:=h
theorem qe {p:Prop}(h:p:=by have:=HJM.out;omega):p:=h
theorem qf {p:Prop}(h:p:=by show decide (da.kd=4)=false;rw [HKA.out.1];exact Cot.out):p:=h
theorem qg {p:Prop}(h:p:=by simp;exact Nat.le_succ_of_le HB.out.size):p:=h
theorem qh {p:Prop}(h:p:=by rw [show kd - 1+1=kd by omega];exact IntWalk.i64_in _ (by omega)):p:=h
theorem qi {p:Prop}(h:p:=by show TjM _ _ _ _ _ _ _ _ _ _ _ _ _ _ _ _;rw [hw7];exact HM6.out.below (zAc (Below.refl _ _) 1)):p:=h
theorem qj {p:Prop}(h:p:=by simpa using h):p:=h
theorem qk {p:Prop}(h:p:=by injection e with e;injection e):p:=h
theorem qm {p:Prop}(h:p:=by show _=_;rw [←HR.out,if_neg (by rw [h1];simp),if_pos h2]):p:=h
theorem qn {p:Prop}(h:p:=by have h2:gx<wr.heap.size:=HOV.out _ e.symm;have:=HV2.out;omega):p:=h
theorem qo {p:Prop}(h:p:=by rw [HDZ.out];exact ⟨rfl,rfl⟩):p:=h
theorem qp {p:Prop}(h:p:=by unfold zBe;rw [zDO hlt,zDO (show k - 1<d.sh.length by omega),if_neg (by rw [HNM.out];simp),if_pos ⟨hk0,hle⟩]):p:=h
theorem qq {p:Prop}(h:p:=by unfold World.cell?;rw [Below.heap_setCell _ _ _ _ (h.ne b o hA)];exact hc i hi):p:=h
theorem qr {p:Prop}(h:p:=by unfold zBs;rw [zCH hlt,zCH (show k - 1<us.length by omega),if_neg (by rw [HNM.out];simp),if_pos ⟨hk0,hle⟩]):p:=h
theorem qt {p:Prop}(h:p:=by have:=HGK.out;omega):p:=h
theorem qu {p:Prop}(h:p:=by rw [HNM.out];simp):p:=h
theorem qw {p:Prop}(h:p:=by rw [←HA1.out,HST.out,List.append_nil]):p:=h
theorem qx {p:Prop}(h:p:=by decide +kernel):p:=h
theorem qy {p:Prop}(h:p:=by rw [HG.out];exact Nat.le_refl _):p:=h
theorem qz {p:Prop}(h:p:=by rw [←hW];exact (Below.refl _ _).alloc (Nat.le_refl _) _):p:=h
theorem ja {p:Prop}(h:p:=by rw [beq_eq_false_iff_ne];omega):p:=h
theorem jb {p:Prop}(h:p:=by show RdJ _ _ _ _ _ _;rw [hw6];exact HK1.out):p:=h
theorem jc {p:Prop}(h:p:=by simpa using hi):p:=h
theorem jd {p:Prop}(h:p:=by show _∧_∧_∧_∧_;rw [hda];exact ⟨rfl,by rw [HDZ.out],by rw [HDZ.out],by rw [HDZ.out];rfl,by rw [HDZ.out]⟩):p:=h
theorem je {p:Prop}(h:p:=by show DsM _ _ _ _ _ _ _ _ _ _ _ _ _ _ _ _;rw [hw7];exact HM6.out.below (zAc (Below.refl _ _) 1)):p:=h
theorem jf {p:Prop}(h:p:=by rw [h]):p:=h
theorem jg {p:Prop}(h:p:=by have:=HMS.out;have:=HKE.out;simp;omega):p:=h
theorem jh {p:Prop}(h:p:=by first | exact zAc (Below.refl _ _) _ | exact zAc (zAc (Below.refl _ _) _) _):p:=h
theorem ji {p:Prop}(h:p:=by rw [←HO.out];exact HN7.out):p:=h
theorem jj {p:Prop}(h:p:=by rw [zCK];omega):p:=h
theorem jk {p:Prop}(h:p:=by show Bx _ _ _ _;rw [hva,hgx];exact Bx.new _ _ _):p:=h
theorem jl {p:Prop}(h:p:=by rw [List.length_append,←HKE.out];exact HM10.out):p:=h
theorem jm {p:Prop}(h:p:=by rw [hvb];exact Below.setCell HBA.out (by show wc.heap.size≤gx;rw [HGX.out];exact Nat.le_refl _) _):p:=h
theorem jn {p:Prop}(h:p:=by rw [List.length_append,←Nat.add_assoc,←HKK.out];exact HM10.out):p:=h
theorem jo {p:Prop}(h:p:=by rw [HPJ.out];exact decide_eq_true he):p:=h
theorem jp {p:Prop}(h:p:=by simpa using e):p:=h
theorem jq {p:Prop}(h:p:=by rw [ne (by decide)] at hh;rw [nv (by decide)];exact hJ.d11 hh):p:=h
theorem jr {p:Prop}(h:p:=by rw [List.length_append,←HKE.out];exact HN.out):p:=h
theorem js {p:Prop}(h:p:=by rw [BT_eq];omega):p:=h
theorem jt {p:Prop}(h:p:=by rw [ne (by decide)] at hh;rw [nv (by decide)];exact hJ.d0 hh):p:=h
theorem ju {p:Prop}(h:p:=by rw [ne (by decide)] at hh;rw [nv (by decide)];exact hJ.d1 hh):p:=h
theorem jw {p:Prop}(h:p:=by rw [ne (by decide)] at hh;rw [nv (by decide)];exact hJ.d2 hh):p:=h
theorem jx {p:Prop}(h:p:=by rw [ne (by decide)] at hh;rw [nv (by decide)];exact hJ.d3 hh):p:=h
theorem jy {p:Prop}(h:p:=by rw [ne (by decide)] at hh;rw [nv (by decide)];exact hJ.d4 hh):p:=h
theorem jz {p:Prop}(h:p:=by rw [ne (by decide)] at hh;rw [nv (by decide)];exact hJ.d5 hh):p:=h
theorem j0 {p:Prop}(h:p:=by rw [ne (by decide)] at hh;rw [nv (by decide)];exact hJ.d6 hh):p:=h
theorem j1 {p:Prop}(h:p:=by rw [ne (by decide)] at hh;rw [nv (by decide)];exact hJ.d7 hh):p:=h
theorem j2 {p:Prop}(h:p:=by rw [ne (by decide)] at hh;rw [nv (by decide)];exact hJ.d8 hh):p:=h
theorem j3 {p:Prop}(h:p:=by rw [List.length_append,←Nat.add_assoc,←HKK.out];exact HN.out):p:=h
theorem j4 {p:Prop}(h:p:=by show _=_;rw [ordB_take hk hk0,hpd]):p:=h
theorem j5 {p:Prop}(h:p:=by have:=hm.rd.le;omega):p:=h
theorem j6 {p:Prop}(h:p:=by rw [hn];rfl):p:=h
theorem j7 {p:Prop}(h:p:=by simp [results,Tryz.results50,go_sem,x0,x1]):p:=h
theorem j8 {p:Prop}(h:p:=by show _=_;rw [←HR1.out,if_pos hob]):p:=h
theorem j9 {p:Prop}(h:p:=by show _∧_∧_∧_;rw [hdb];exact ⟨HKA.out.1,HKA.out.2.2.1,HKA.out.2.2.2.1,HKA.out.2.2.2.2⟩):p:=h
theorem vc {p:Prop}(h:p:=by have:=hs.left.1;rw [List.length_map] at this;exact this):p:=h
theorem vd {p:Prop}(h:p:=by rw [hw4];exact (Below.refl _ _).alloc (Nat.le_refl _) _):p:=h
theorem ve {p:Prop}(h:p:=by rw [World.drewN_drewN,World.drewN_drewN];exact ⟨_,rfl⟩):p:=h
theorem vf {p:Prop}(h:p:=by show _=_;rw [←HR.out,if_pos h1]):p:=h
theorem vg {p:Prop}(h:p:=by show _=_;unfold deLt;simp;omega):p:=h
theorem vh {p:Prop}(h:p:=by simp [zAi]):p:=h
theorem vi {p:Prop}(h:p:=by simp [execOp,run_makeMap]):p:=h
theorem vj {p:Prop}(h:p:=by rw [hn];simp):p:=h
theorem vk {p:Prop}(h:p:=by rw [hw6];exact zAn _ _ _):p:=h
theorem vl {p:Prop}(h:p:=by show _=_;rw [HF2.out,if_neg (by simp)]):p:=h
theorem vm {p:Prop}(h:p:=by rw [List.length_append,List.length_singleton];omega):p:=h
theorem vn {p:Prop}(h:p:=by have:=hm.rd.le;have:=hm.rd.many;omega):p:=h
theorem vo {p:Prop}(h:p:=by rw [hW];rfl):p:=h
theorem vp {p:Prop}(h:p:=by show Bx _ _ _ _;rw [hw4,←hs3];exact Bx.new _ _ _):p:=h
theorem vq {p:Prop}(h:p:=by injection e with _ e;exact absurd e (by decide)):p:=h
theorem vr {p:Prop}(h:p:=by rw [h1];simp):p:=h
theorem vt {p:Prop}(h:p:=by rw [HS.out];decide):p:=h
theorem vw {p:Prop}(h:p:=by rw [sumP_zero];decide):p:=h
theorem vx {p:Prop}(h:p:=by show _=_;rw [←HR4.out,if_pos hnb]):p:=h
theorem vy {p:Prop}(h:p:=by injection e;omega):p:=h
theorem vz {p:Prop}(h:p:=by cases e):p:=h
theorem xb {p:Prop}(h:p:=by have:=hb.size;simp at this;omega):p:=h
theorem xc {p:Prop}(h:p:=by rw [hle] at hh;cases hh.2):p:=h
theorem xd {p:Prop}(h:p:=by injection e):p:=h
theorem xe {p:Prop}(h:p:=by have:=HLA.out b o e;omega):p:=h
theorem xg {p:Prop}(h:p:=by simpa using hj):p:=h
theorem xh {p:Prop}(h:p:=by rw [←hwk];exact HAd.out):p:=h
theorem xi {p:Prop}(h:p:=by rw [h];simp):p:=h
theorem xj {p:Prop}(h:p:=by rw [e];simp):p:=h
abbrev BA:=ByteArray
theorem aA.{u}:type_of% @List.drop_of_length_le.{u}:=@List.drop_of_length_le
theorem aB:type_of% @Nat.le_refl:=@Nat.le_refl
theorem aC.{u}:type_of% @if_neg.{u}:=@if_neg
theorem aD.{u}:type_of% @List.append_nil.{u}:=@List.append_nil
theorem aE.{u}:type_of% @if_pos.{u}:=@if_pos
theorem aF.{u}:type_of% @List.drop_eq_getElem_cons.{u}:=@List.drop_eq_getElem_cons
theorem aG.{u}:type_of% @beq_eq_false_iff_ne.{u}:=@beq_eq_false_iff_ne
theorem aH:type_of% @decide_eq_true_eq:=@decide_eq_true_eq
theorem aI.{u}:type_of% @List.getElem_mem.{u}:=@List.getElem_mem
theorem aJ.{u}:type_of% @List.getElem_of_mem.{u}:=@List.getElem_of_mem
theorem aK.{u,v}:type_of% @List.length_map.{u,v}:=@List.length_map
theorem aL.{u,v}:type_of% @List.getElem_map.{u,v}:=@List.getElem_map
theorem aM.{u}:type_of% @Option.getD_some.{u}:=@Option.getD_some
theorem aN:type_of% @Nat.mul_le_mul_right:=@Nat.mul_le_mul_right
theorem aO.{u}:type_of% @List.mem_cons_self.{u}:=@List.mem_cons_self
theorem aP.{u}:type_of% @List.cons_append.{u}:=@List.cons_append
theorem aQ.{u}:type_of% @List.length_cons.{u}:=@List.length_cons
theorem aR:type_of% @Nat.pow_succ:=@Nat.pow_succ
theorem aS:type_of% @Nat.mul_add:=@Nat.mul_add
theorem aT:type_of% @Nat.mul_comm:=@Nat.mul_comm
theorem aU:type_of% @Nat.mul_assoc:=@Nat.mul_assoc
theorem aV:type_of% @Nat.add_mul:=@Nat.add_mul
theorem aW:type_of% @Nat.lt_of_le_of_lt:=@Nat.lt_of_le_of_lt
theorem aX:type_of% @Nat.zero_le:=@Nat.zero_le
theorem aY.{u,v}:type_of% @congrArg.{u,v}:=@congrArg
theorem aZ:type_of% @Nat.mod_eq_of_lt:=@Nat.mod_eq_of_lt
theorem bA:type_of% @Nat.mod_lt:=@Nat.mod_lt
theorem bB:type_of% @Nat.mod_add_div:=@Nat.mod_add_div
theorem bC:type_of% @Nat.mul_le_mul_left:=@Nat.mul_le_mul_left
theorem bD.{u}:type_of% @List.take_succ_eq_append_getElem.{u}:=@List.take_succ_eq_append_getElem
theorem bE.{u}:type_of% @List.length_take.{u}:=@List.length_take
theorem bF:type_of% @Nat.min_eq_left:=@Nat.min_eq_left
theorem bG:type_of% @Nat.le_of_lt:=@Nat.le_of_lt
theorem bH:type_of% @Nat.eq_zero_or_pos:=@Nat.eq_zero_or_pos
theorem bI:type_of% @Nat.mul_zero:=@Nat.mul_zero
theorem bJ:type_of% @Nat.zero_add:=@Nat.zero_add
theorem bK.{u}:type_of% @List.length_drop.{u}:=@List.length_drop
theorem bL.{u}:type_of% @List.take_succ_cons.{u}:=@List.take_succ_cons
theorem bM.{u}:type_of% @List.take_length.{u}:=@List.take_length
theorem bN:type_of% @Nat.pow_le_pow_right:=@Nat.pow_le_pow_right
theorem bO:type_of% @Nat.lt_or_ge:=@Nat.lt_or_ge
theorem bP:type_of% @Nat.mul_one:=@Nat.mul_one
theorem bQ:type_of% @Go.cell_of_row:=@Go.cell_of_row
theorem bR.{u,v}:type_of% @List.flatMap_cons.{u,v}:=@List.flatMap_cons
theorem bS:type_of% @Go.RowKit.Below.refl:=@Go.RowKit.Below.refl
theorem bT:type_of% @Go.World.ownsRow.lt:=@Go.World.ownsRow.lt
theorem bU.{u}:type_of% @List.any_eq_false.{u}:=@List.any_eq_false
theorem bV.{u}:type_of% @List.set_cons_succ.{u}:=@List.set_cons_succ
theorem bW:type_of% @Nat.lt_succ_self:=@Nat.lt_succ_self
theorem bX.{u}:type_of% @List.mem_of_mem_drop.{u}:=@List.mem_of_mem_drop
theorem bY.{u}:type_of% @List.drop_drop.{u}:=@List.drop_drop
theorem bZ:type_of% @Nat.add_assoc:=@Nat.add_assoc
theorem cC.{u}:type_of% @List.append_assoc.{u}:=@List.append_assoc
theorem cD:type_of% @Go.frozen_of_row:=@Go.frozen_of_row
theorem cF.{u}:type_of% @List.setIfInBounds_toArray.{u}:=@List.setIfInBounds_toArray
theorem cG.{u}:type_of% @List.getElem_take.{u}:=@List.getElem_take
theorem cH:type_of% @Go.RowKit.Below.heap_setCell:=@Go.RowKit.Below.heap_setCell
theorem cI:type_of% @Go.heap_alloc_new:=@Go.heap_alloc_new
theorem cJ:type_of% @Int.natCast_mul:=@Int.natCast_mul
theorem cM.{u}:type_of% @List.getElem_of_eq.{u}:=@List.getElem_of_eq
theorem cN.{u}:type_of% @List.getElem_cons_zero.{u}:=@List.getElem_cons_zero
theorem cO:type_of% @Nat.add_zero:=@Nat.add_zero
theorem cP:type_of% @decide_eq_true:=@decide_eq_true
theorem cQ:type_of% @decide_eq_false:=@decide_eq_false
theorem cR.{u}:type_of% @List.getElem_set_ne.{u}:=@List.getElem_set_ne
theorem cS.{u}:type_of% @List.take_of_length_le.{u}:=@List.take_of_length_le
theorem cT.{u}:type_of% @List.drop_zero.{u}:=@List.drop_zero
theorem cU:type_of% @Nat.two_pow_pos:=@Nat.two_pow_pos
theorem cV:type_of% @Nat.le_trans:=@Nat.le_trans
theorem cW:type_of% @Nat.mul_lt_mul_of_pos_right:=@Nat.mul_lt_mul_of_pos_right
theorem cX:type_of% @Nat.lt_of_lt_of_le:=@Nat.lt_of_lt_of_le
theorem cY.{u}:type_of% @List.length_append.{u}:=@List.length_append
theorem cZ.{u}:type_of% @List.eq_nil_of_length_eq_zero.{u}:=@List.eq_nil_of_length_eq_zero
theorem dA:type_of% @Bool.and_eq_true:=@Bool.and_eq_true
theorem dC.{u}:type_of% @List.length_filter_le.{u}:=@List.length_filter_le
theorem dD:type_of% @Go.bodyPost_ret:=@Go.bodyPost_ret
theorem dE:type_of% @Nat.gcd_pos_of_pos_right:=@Nat.gcd_pos_of_pos_right
theorem dF:type_of% @Go.RowKit.Below.heap_alloc:=@Go.RowKit.Below.heap_alloc
theorem dG.{u}:type_of% @if_false.{u}:=@if_false
theorem dH.{u}:type_of% @List.any_append.{u}:=@List.any_append
theorem dI.{u}:type_of% @List.singleton_append.{u}:=@List.singleton_append
theorem dJ.{u,v}:type_of% @List.map_cons.{u,v}:=@List.map_cons
theorem dK.{u}:type_of% @List.length_singleton.{u}:=@List.length_singleton
theorem dL:type_of% @Bool.false_eq_true:=@Bool.false_eq_true
theorem dM.{u}:type_of% @List.length_nil.{u}:=@List.length_nil
theorem dN.{u}:type_of% @List.drop_eq_nil_of_le.{u}:=@List.drop_eq_nil_of_le
theorem dO.{u}:type_of% @Option.some.injEq.{u}:=@Option.some.injEq
theorem dP:type_of% @Go.RowKit.Below.setCell:=@Go.RowKit.Below.setCell
theorem dQ:type_of% @Go.run_underlying:=@Go.run_underlying
theorem dR.{u}:type_of% @Option.some.inj.{u}:=@Option.some.inj
theorem dS:type_of% @Go.heap_setCell_other:=@Go.heap_setCell_other
theorem dT.{u,v}:type_of% @Option.map_some.{u,v}:=@Option.map_some
theorem dU:type_of% @Go.heap_setCell_same:=@Go.heap_setCell_same
theorem dV.{u,v}:type_of% @List.map_append.{u,v}:=@List.map_append
theorem dW:type_of% @Go.wp_region_held_drew:=@Go.wp_region_held_drew
theorem dX:type_of% @Go.wpAnyH_take:=@Go.wpAnyH_take
theorem dY.{u}:type_of% @List.set_cons_zero.{u}:=@List.set_cons_zero
theorem dZ:type_of% @Go.wpAnyH_done:=@Go.wpAnyH_done
theorem eA:type_of% @Go.wp_load_mid:=@Go.wp_load_mid
theorem eB.{u}:type_of% @List.getElem_toArray.{u}:=@List.getElem_toArray
