/- Parts of the proof, joined: The row's frame: a title opened to its lists, the law's post from Belo. -/
import Derived.Test.YtoaelidmmcbkfaaGreatDoorSr31
import Derived.Test.YtoaelidmmcbkfaaGreatDoorRows
import Derived.Test.YtoaelidmmcbkfaaGreatDoorCards
import Derived.Test.YtoaelidmmcbkfaaGreatDoorTie
import Derived.ProofKit
import Derived.OpenShut
import Derived.ReadAgain
import Derived.Deep.Slices
import Derived.Deep.Fields
import Derived.ChangeSame
import Derived.Lib.SmallJoins
import Derived.Deep.DeepHandedRow
import Derived.Lib.LaidTab
import Derived.Lib.LaidU8
import Derived.Lib.DecodeN
set_option maxRecDepth 100000
set_option maxHeartbeats 8000000
namespace Go.Proofs.YtoaelidmmcbkfaaGreatDoor
open Go.ChangeShapes Go.WideShapes Go.ChangeAt Go.RowKit Go.Deep Go.Joins Dw
theorem kids:Kids Tryz.prog (· < Tryz.prog.types.size):=kids_rows zb zb
theorem full:∀ t e,t<Tryz.prog.types.size→Tryz.prog.underlying t=some (.slice e)→0<Tryz.prog.cellsOf e:=slices_full_of Tryz.prog zb
section
variable {H:Type} {enc:TypeId×Value→H} {P:Program} {W W':World} {sp:Nat→Bool}
theorem reads_later (hb:Below W.heap.size W W'):∀ {ts:List TypeId} {vs:List Value} {ds:List (DataW H)} {ps:List MemPlace},(∀ p∈ps,p.block<W.heap.size)→DataW.TrodAll enc P W 0 sp true ts vs ds ps→DataW.TrodAll enc P W' 0 sp true ts vs ds ps
 | [],[],[],_,_,h=>h
 | _::_,_::_,_::_,_,hl,⟨p,q,⟨n,h1⟩,h2,e⟩ =>
  ⟨p,q,⟨n,DataW.trod_carry n _ _ _ h1 fun x hx=>hb.same (hl x (by rw [e];exact List.mem_append_left _ hx))⟩,reads_later hb (fun x hx=>hl x (by rw [e];exact List.mem_append_right _ hx)) h2,e⟩
theorem law_post {f:Func} {s:ChangeSpec} {args:Array Value} {ds gs:List (DataW H)} {before:List MemPlace} {tb:TypeId}
  (hW:DataW.Whole enc Tryz.prog f.params.toList s.vars false W args.toList ds gs before) (hv:s.vars=[]) (hr:f.resultTypes=#[tb]) (htb:Tryz.prog.underlying tb=some .bool)
  (hts:∀ t∈f.params.toList,t<Tryz.prog.types.size) (hfn:(s.fn H ds).results=[.lit (.bool true)]∧(s.fn H ds).args=ds∧(s.fn H ds).vars=[]) (hb:Below W.heap.size W W') :
  s.post enc Tryz.prog f false true false false W args (.bool true) W':=by
 have hW':=hW;obtain ⟨p,q,hA,hV,rfl,hfz,_⟩:=hW;rw [hv] at hV;obtain ⟨rfl,rfl⟩:=trodVars_none hV;have hlt:∀ x∈p,x.block<W.heap.size:=hA.lt;refine ⟨ds,[],p++[],[],p,[],hW',?_,?_,?_,hb.frame _ |> World.keptBut_mono (fun x hx=>⟨hx,.inr (.inl (by simpa using hx))⟩),fun h=>zy⟩
 ·rw [aD,hfn.1,hr]
  exact trodAll_mk1 (shut_bool htb true)
 ·rw [aD,hfn.2.1]
  exact reads_later hb hlt (DataW.TrodAll.respare kids full hts hA fun x hx=>by simpa using hlt x hx)
 ·rw [aD,hfn.2.2,hv]
  rfl
theorem str_of {t:TypeId} {n:Nat} {u:Value} {z:DataW H×List MemPlace} (ht:P.underlying t=some .string) (h:DataW.trod enc P W 0 (fun _=>true) true n t [u]=some z):∃ x:BA,u = .string x∧x.size≤9223372036854775807:=by
 obtain ⟨x,hx,_,hs⟩:=DataW.trod_string ht h;simp only [List.cons.injEq,and_true] at hx;unfold maxLen at hs;exact ⟨x,hx,za⟩
theorem open_s {v:Value} {d:DataW H} {p:List MemPlace} {r:Reach} {b0:Nat} (hok:Value.okWide Tryz.prog W r b0 9 v) (h:DataW.Trod enc Tryz.prog W 0 (fun _=>true) true 9 v d p):∃ s:BA,v = .string s∧s.size≤9223372036854775807:=by
 obtain ⟨n,rfl⟩:=okWide_string Tryz.underlying9 hok;obtain ⟨fuel,hf⟩:=h
 exact ⟨n,rfl,by
  obtain ⟨m,e,hs⟩:=str_of Tryz.underlying9 (u:=.string n) (by simpa [Value.cells] using hf)
  injection e with e;subst e;exact hs⟩
end
end Go.Proofs.YtoaelidmmcbkfaaGreatDoor
namespace Go.Proofs.YtoaelidmmcbkfaaGreatDoor
open Go.ChangeShapes Go.WideShapes Go.ChangeAt Go.RowKit Go.Deep Dw
theorem own:ownKnob Tryz.prog.godebug=none:=zb
noncomputable def laidWorld2 (os:Os):World :=
 let N:=(World.settled Tryz.prog os).heap.size
 let w0:=World.holding Tryz.prog os ⟨#[.cells #[.string ⟨#[105,110,118,97,108,105,100,32,115,121,110,116,97,120]⟩] 240,.cells #[.string ⟨#[118,97,108,117,101,32,111,117,116,32,111,102,32,114,97,110,103,101]⟩] 240],#[],[]⟩
 let put (h:Array Obj) (g:Nat) (cs:Array Value):Array Obj:=h.modify g fun
  | .cells _ t frozen=>.cells cs t frozen
  | o=>o
 { w0 with heap:=put (put (put (put (put (put (put w0.heap 3 #[.iface 238 (.pointer (some ⟨N,0,none⟩))]) 4 #[.iface 238 (.pointer (some ⟨N+1,0,none⟩))]) 1 (Lib.firstTab.map fun z=>Value.int .u8 z).toArray) 2 ((List.range 16).flatMap fun i=>[Value.int .u8 (Lib.accLo i),Value.int .u8 (Lib.accHi i)]).toArray) 6 (([0,1,28,2,29,14,24,3,30,22,20,15,25,17,4,8,31,27,13,23,21,19,16,7,26,12,18,6,11,5,10,9]:List Int).map fun z=>Value.int .u8 z).toArray) 7 (([0,1,56,2,57,49,28,3,61,58,42,50,38,29,17,4,62,47,59,36,45,43,51,22,53,39,33,30,24,18,12,5,63,55,48,27,60,41,37,16,46,35,44,21,52,32,23,11,54,26,40,15,34,20,31,10,25,14,19,9,13,8,7,6]:List Int).map fun z=>Value.int .u8 z).toArray) 5 (([1,10,100,1000,10000,100000,1000000,10000000,100000000,1000000000,10000000000,100000000000,1000000000000,10000000000000,100000000000000,1000000000000000,10000000000000000,100000000000000000,1000000000000000000,10000000000000000000]:List Int).map fun z=>Value.int .u64 z).toArray }
end Go.Proofs.YtoaelidmmcbkfaaGreatDoor
