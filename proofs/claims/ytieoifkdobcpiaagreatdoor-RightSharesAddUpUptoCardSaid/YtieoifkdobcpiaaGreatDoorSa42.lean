/- Parts of the proof, joined: Digits of a number four by four: no program in sight. DERIVED: THE SHE. -/
import Derived.Shelf.Strings.Repeat
import Derived.Test.YtieoifkdobcpiaaGreatDoorSa39
set_option maxRecDepth 100000
set_option maxHeartbeats 8000000
namespace Go.Proofs.YtieoifkdobcpiaaGreatDoor
open Dw
end Go.Proofs.YtieoifkdobcpiaaGreatDoor
namespace Go.Proofs
open Go.Shelf
end Go.Proofs
namespace Go.Proofs.YtieoifkdobcpiaaGreatDoor
open Go.RowKit Dw
def GivesNq (q:Rat) (w:World) (e:Ending) (w':World):Prop:=zCY false q.num.natAbs q.den w e w'
theorem OfT_c (nu de:ByteArray) (w:World) (h:zCN nu de=0) (hp:posB nu=true):Calls Tryz.prog 17 #[.agg #[.string nu,.string de]] w (GivesNq (zBL nu de) w):=by
 obtain ⟨h1,h2,h3,h4,h5⟩:=zBY h;have:=Of_cT nu de w (zBa h1).1 h4 (zBa h2).1 h5;rw [posB_neg hp] at this;have e:=ratF_prQ h;have e1:zAy (zAS nu)=(zBL nu de).num.natAbs:=congrArg Prod.fst e;have e2:zAy de=(zBL nu de).den:=congrArg Prod.snd e;rw [e1,e2] at this;exact this
section
variable (A A2 A3 A4:Option Addr) (c c2 c3 c4:Nat) (a b:Rat) (w:World)
theorem PlusQ_c (h:Lt w A c a.num.natAbs) (h2:Lt w A2 c2 a.den) (h3:Lt w A3 c3 b.num.natAbs) (h4:Lt w A4 c4 b.den) (ha:0≤a) (hb:0≤b) (sa:SzQ 50000000 a) (sb:SzQ 50000000 b) :
  Calls Tryz.prog 16 #[nuV false A c a.num.natAbs A2 c2 a.den,nuV false A3 c3 b.num.natAbs A4 c4 b.den] w (GivesNq (a+b) w):=by
 have:=plus_c false false A A2 A3 A4 c c2 c3 c4 a.num.natAbs a.den b.num.natAbs b.den w h h2 h3 h4 sa.1.2 sa.2.2 sb.1.2 sb.2.2 (den_q a) (den_q b)
 have e:plusN false a.num.natAbs a.den false b.num.natAbs b.den=(false,prQ (a+b)):=by
  rw [←addP_q ha hb];unfold plusN;rw [if_pos rfl]
  rfl
 rw [e] at this;exact this
end
end Go.Proofs.YtieoifkdobcpiaaGreatDoor
