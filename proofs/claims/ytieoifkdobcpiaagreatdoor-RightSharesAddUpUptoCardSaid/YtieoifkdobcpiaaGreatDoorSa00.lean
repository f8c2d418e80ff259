/- Small helpers of this claim: one lemma for a set of equations, and shorter forms of the kit's rules for drawn regions. -/
import Derived.OrdersHeld
import Derived.Deep.RegionHeld
import Derived.KernelRfl
import Derived.WalkKit
import Derived.IntWalk
import Derived.Below
theorem zq {p:Prop} (h:p):Go.RowKit.Hid p:=h
namespace Dw
open Go
theorem lay:(∀ {α:Type} {l:List α} {i:Nat} {h:i<l.toArray.size},l.toArray[i]=l[i]'(by simpa using h))∧(∀ {α:Type} {a:α} {l:List α} {i:Nat} {h:i+1<(a::l).length},(a::l)[i+1]=l[i]'(by simpa using h))∧(∀ {α:Type} {a:α} {l:List α} {h:0<(a::l).length},(a::l)[0]=a)∧(∀ {α:Type} {l:List α} {i:Nat} {a:α},l.toArray.setIfInBounds i a=(l.set i a).toArray)∧(∀ {α:Type} {x:α} {l:List α} {a:α},(x::l).set 0 a=a::l)∧∀ {α:Type} {x:α} {l:List α} {n:Nat} {a:α},(x::l).set (n+1) a=x::l.set n a :=
  ⟨by intros;exact List.getElem_toArray ..,by intros;exact List.getElem_cons_succ ..,by intros;exact List.getElem_cons_zero ..,by intros;exact List.setIfInBounds_toArray ..,by intros;exact List.set_cons_zero ..,by intros;exact List.set_cons_succ ..⟩
section
variable {P:Program} {md:Region.Mode} {ops:Array Oper} {Q:Exit→Act→World→Prop} {S:World→Prop} {fuel:Nat} {listed:Array Bool} {a:Act} {w:World} {oi:Oper}
theorem tk (i:Nat) (v:Value) (hi:ops[i]?=some oi) (hy:∀ w,S w→(execOp a.eval oi).run P w = .ok (.value v) w) (hS:S w) (h:wpAnyH P md ops Q S fuel (listed.setIfInBounds i true) (a.put oi.dst v) w)
    (hs:Region.noSelect ops=true:=by kernel_rfl) (hf:Region.free md ops listed i=true:=by kernel_rfl) (hr:(Region.ready md ops listed).contains i=true:=by kernel_rfl) (hQ:∀ c a w,Q (.panic c) (a.put oi.dst v) w→Q (.panic c) a w:=by exact fun _ _ _ h=>h)
    (hw:Region.wanted oi (yielded ops a.tmps)=true:=by kernel_rfl):wpAnyH P md ops Q S (fuel+1) listed a w :=
  wpAnyH_take hi hs hf hr hQ (Or.inl ⟨hw,hy⟩) hS h
theorem rd1 (i:Nat) (ho:ops[i]?=some oi)
    (h:∀ K':Act→World→Prop,Shut (∀ a w,S w→(S w→wpAnyH P md ops Q S fuel (listed.setIfInBounds i true) a w)→K' a w)→if Region.wanted oi (yielded ops a.tmps)=true then Oper.wp P oi a w K' Q else K' (a.put oi.dst undef) w)
    (hr:Region.ready md ops listed=[i]:=by kernel_rfl):wpAnyH P md ops Q S (fuel+1) listed a w :=
  wpAnyH_ready hr (by simp) (AllReadyH.cons ho h AllReadyH.nil)
end
end Dw
theorem Go.RowKit.Hid.o {p:Prop}(h:Go.RowKit.Hid p):p:=h.out
theorem za {p:Prop}(h:p:=by omega):p:=h
theorem zb {p:Prop}(h:p:=by kernel_rfl):p:=h
theorem zc {p:Prop}(h:p:=by decide):p:=h
theorem zd {p:Prop}(h:p:=by simp):p:=h
theorem ze {p:Prop}(h:p:=by simp;omega):p:=h
theorem zg {p:Prop}(h:p:=by assumption):p:=h
theorem zh {p:Prop}(h:p:=by have:=HK.out;omega):p:=h
theorem zi {p:Prop}(h:p:=by go_num):p:=h
theorem zj {p:Prop}(h:p:=by rw [hc _ _ (by simp)];go_simp):p:=h
theorem zk {p:Prop}(h:p:=by unfold maxLen;omega):p:=h
theorem zm {p:Prop}(h:p:=by rw [ho];rfl):p:=h
theorem zn {p:Prop}(h:p:=by rfl):p:=h
theorem zo {p:Prop}(h:p:=by rw [ho'];rfl):p:=h
theorem zr {p:Prop}(h:p:=by show _=_;rw [List.take_of_length_le (by omega),List.take_of_length_le (by omega)];rw [Nat.mul_zero,Nat.add_zero]):p:=h
theorem zt {p:Prop}(h:p:=by simp [Value.oneCell']):p:=h
theorem zu {p:Prop}(h:p:=by rw [List.length_append,List.length_singleton,HO.out]):p:=h
theorem zv {p:Prop}(h:p:=by simpa using h):p:=h
theorem zx {p:Prop}(h:p:=by have:=HM.out;omega):p:=h
theorem zy {p:Prop}(h:p:=by simp;exact Nat.le_succ_of_le HB.out.size):p:=h
theorem ya {p:Prop}(h:p:=by rw [HG.out];exact Nat.le_refl _):p:=h
theorem yb {p:Prop}(h:p:=by rw [hW];exact ((h2.alloc _).alloc _).alloc _):p:=h
theorem yc {p:Prop}(h:p:=by rw [hW];exact ((h3.alloc _).alloc _).alloc _):p:=h
theorem yf {p:Prop}(h:p:=by rw [hW];exact ((h4.alloc _).alloc _).alloc _):p:=h
theorem yg {p:Prop}(h:p:=by rw [hW];exact ((h.alloc _).alloc _).alloc _):p:=h
theorem yh {p:Prop}(h:p:=by simpa using hi):p:=h
theorem yi {p:Prop}(h:p:=by rw [←hW];exact (Below.refl _ _).alloc (Nat.le_refl _) _):p:=h
theorem yj {p:Prop}(h:p:=by rw [hwd];exact (Below.refl _ _).alloc (Nat.le_refl _) _):p:=h
theorem yk {p:Prop}(h:p:=by show Bx _ _ _ _;rw [hwd];exact Bx.new _ _ _):p:=h
theorem ym {p:Prop}(h:p:=by rw [zCg];omega):p:=h
theorem yn {p:Prop}(h:p:=by first | exact zAd (Below.refl _ _) _ | exact zAd (zAd (Below.refl _ _) _) _):p:=h
theorem yo {p:Prop}(h:p:=by rw [←HO.out];exact HN7.out):p:=h
theorem yp {p:Prop}(h:p:=by have:=congrArg List.length hL;simpa using this):p:=h
theorem yq {p:Prop}(h:p:=by simp [results,Tryz.results75,go_sem,r0,r1,r2]):p:=h
theorem yr {p:Prop}(h:p:=by rw [ne (by decide)] at hh;rw [nv (by decide)];exact hJ.d11 hh):p:=h
theorem yt {p:Prop}(h:p:=by rw [BT_eq];omega):p:=h
theorem yu {p:Prop}(h:p:=by rw [ne (by decide)] at hh;rw [nv (by decide)];exact hJ.d0 hh):p:=h
theorem yw {p:Prop}(h:p:=by rw [ne (by decide)] at hh;rw [nv (by decide)];exact hJ.d1 hh):p:=h
theorem yx {p:Prop}(h:p:=by rw [ne (by decide)] at hh;rw [nv (by decide)];exact hJ.d2 hh):p:=h
theorem yy {p:Prop}(h:p:=by rw [ne (by decide)] at hh;rw [nv (by decide)];exact hJ.d3 hh):p:=h
theorem yz {p:Prop}(h:p:=by rw [ne (by decide)] at hh;rw [nv (by decide)];exact hJ.d4 hh):p:=h
theorem y9 {p:Prop}(h:p:=by rw [ne (by decide)] at hh;rw [nv (by decide)];exact hJ.d5 hh):p:=h
theorem qb {p:Prop}(h:p:=by rw [ne (by decide)] at hh;rw [nv (by decide)];exact hJ.d6 hh):p:=h
theorem qc {p:Prop}(h:p:=by rw [ne (by decide)] at hh;rw [nv (by decide)];exact hJ.d7 hh):p:=h
theorem qd {p:Prop}(h:p:=by rw [ne (by decide)] at hh;rw [nv (by decide)];exact hJ.d8 hh):p:=h
theorem qe {p:Prop}(h:p:=by simp [zAf]):p:=h
theorem qf {p:Prop}(h:p:=by rw [hw14];exact (Below.refl _ _).alloc (Nat.le_refl _) _):p:=h
theorem qg {p:Prop}(h:p:=by have:=hb.size;simp at this;omega):p:=h
theorem qh {p:Prop}(h:p:=by rw [World.drewN_drewN,World.drewN_drewN];exact ⟨_,rfl⟩):p:=h
theorem qi {p:Prop}(h:p:=by decide +kernel):p:=h
theorem qj {p:Prop}(h:p:=by simp [execOp,run_makeMap]):p:=h
theorem qk {p:Prop}(h:p:=by simp [getObj,Sem.run,hr]):p:=h
theorem ql {p:Prop}(h:p:=by have:=wtrim_len L;omega):p:=h
theorem qm {p:Prop}(h:p:=by simpa using hj):p:=h
theorem qn {p:Prop}(h:p:=by injection e with _ e;exact absurd e (by decide)):p:=h
theorem qo {p:Prop}(h:p:=by rw [HS.out];decide):p:=h
theorem qp {p:Prop}(h:p:=by have:=hzg;have:=HX.out.lt;omega):p:=h
theorem qq {p:Prop}(h:p:=by have:=hzg;have:=HY.out.lt;omega):p:=h
