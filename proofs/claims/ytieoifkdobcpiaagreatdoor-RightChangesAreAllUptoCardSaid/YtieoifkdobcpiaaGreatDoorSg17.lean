/- Parts of the proof, joined: The reference's numbers: times, small. append(v, xs...) at elements of. -/
import Derived.Test.YtieoifkdobcpiaaGreatDoorSg16
import Derived.Shelf.Strconv.Atoi
set_option maxRecDepth 100000
set_option maxHeartbeats 8000000
namespace Go.Proofs.YtieoifkdobcpiaaGreatDoor
open Go.RowKit Dw
end Go.Proofs.YtieoifkdobcpiaaGreatDoor
namespace Dw
open Go Go.RowKit
def RdK {α:Type} (enc:α→List Value) (w:World) (A:Option Addr) (l:List α):Prop :=
 0<l.length→∃ b o:Nat,A=some ⟨b,o,none⟩∧∀ j v,(l.flatMap enc)[j]?=some v→w.cell? ⟨b,o+j,none⟩=some v
theorem flat_len {α:Type} {enc:α→List Value} {k:Nat} (hk:∀ x,(enc x).length=k):∀ (l:List α),(l.flatMap enc).length=l.length*k
 | []=>zd
 | a::t=>by rw [aM,dC,hk,flat_len hk t,aR,aW];omega
theorem flat_at {α:Type} {enc:α→List Value} {k:Nat} (hk:∀ x,(enc x).length=k):∀ (l:List α) (i:Nat) (h:i<l.length) (c:Nat),c<k→(l.flatMap enc)[i*k+c]?=(enc l[i])[c]?
 | [],i,h,_,_=>by simp at h
 | a::t,0,_,c,hc=>by
  rw [aM,List.getElem?_append_left (by rw [hk];omega)];simp
 | a::t,i+1,h,c,hc=>by
  rw [aM,List.getElem?_append_right (by rw [hk,aW];omega),hk,show (i+1)*k+c - k=i*k+c by rw [aW];omega,flat_at hk t i zv c hc]
  simp
theorem addN (b o j:Nat):(⟨b,o,none⟩:Addr).add j=⟨b,o+j,none⟩:=by unfold Addr.add;split<;>simp_all
theorem zAE.rdk {α:Type} {enc:α→List Value} {k:Nat} {w:World} {base:Nat} {e:TypeId} {v:Value} {l:List α} (h:zAE enc k w base e v l):∃ A c,v = .slice A l.length c∧RdK enc w A l:=by
 rcases h.2 with ⟨rfl,hn⟩ | ⟨g,cap,cur,rfl,hb,hgg,hnc,_,hsz,htake⟩
 ·exact ⟨none,0,by rw [hn],fun hl=>za⟩
 ·refine ⟨_,_,rfl,fun _=>⟨g,0,rfl,fun j v hv=>?_⟩⟩
  rw [←htake,List.getElem?_take] at hv
  split at hv
  ·rw [aK,aL w g j _ _ _ hgg]
   simpa using hv
  ·cases hv
section
variable {w:World} {A:Option Addr}
end
end Dw
namespace Go.Proofs.YtieoifkdobcpiaaGreatDoor
open Go.RowKit Dw
end Go.Proofs.YtieoifkdobcpiaaGreatDoor
namespace Go.Proofs
open Go.Shelf
end Go.Proofs
namespace Go.Proofs.YtieoifkdobcpiaaGreatDoor
open Go.Shelf Go.RowKit Go.Lib Dw
theorem dgB_iff (c:UInt8):dgB c=true↔48≤c.toNat∧c.toNat≤57:=by unfold dgB;simp
end Go.Proofs.YtieoifkdobcpiaaGreatDoor
namespace Go.Proofs.YtieoifkdobcpiaaGreatDoor
open Go.RowKit Dw
theorem Bx.set0 {w:World} {R:Nat} {a b c:Value} {T:TypeId} (h:Bx w R #[a,b,c] T) (u:Value):Bx (w.setCell ⟨R,0,none⟩ u) R #[u,b,c] T:=dY w R 0 _ _ u h
theorem Bx.set1 {w:World} {R:Nat} {a b c:Value} {T:TypeId} (h:Bx w R #[a,b,c] T) (u:Value):Bx (w.setCell ⟨R,1,none⟩ u) R #[a,u,c] T:=dY w R 1 _ _ u h
theorem below_box {w0 w:World} {R:Nat} (h:Below w0.heap.size w0 w) (hR:w0.heap.size≤R) (a b c:Value):Below w0.heap.size w0 (((w.setCell ⟨R,0,none⟩ a).setCell ⟨R,1,none⟩ b).setCell ⟨R,2,none⟩ c) :=
 ((h.setCell (p:=⟨R,0,none⟩) hR a).setCell (p:=⟨R,1,none⟩) hR b).setCell (p:=⟨R,2,none⟩) hR c
end Go.Proofs.YtieoifkdobcpiaaGreatDoor
