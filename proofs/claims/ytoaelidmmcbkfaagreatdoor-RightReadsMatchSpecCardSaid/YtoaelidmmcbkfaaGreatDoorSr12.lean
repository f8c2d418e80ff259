/- An element of several cells appended at a drawn step; rows kept by writes into blocks of another type. -/
import Derived.Test.YtoaelidmmcbkfaaGreatDoorSr11
set_option maxRecDepth 100000
set_option maxHeartbeats 8000000
namespace Go.Proofs.YtoaelidmmcbkfaaGreatDoor
open Go.RowKit Dw
theorem zAF.base {α:Type} {enc:α→List Value} {k:Nat} {w:World} {b b':Nat} {e:TypeId} {v:Value} {l:List α} (h:zAF enc k w b e v l) (hb:b'≤b):zAF enc k w b' e v l:=by
 refine ⟨h.1,?_⟩
 rcases h.2 with hn | ⟨g,cap,cur,hv,hg,rest⟩
 ·exact .inl hn
 ·exact .inr ⟨g,cap,cur,hv,za,rest⟩
theorem zEa {P:Program} {w:World} {α:Type} {enc:α→List Value} {k:Nat} {e:TypeId} {z:Value} {bytes:Nat} {ops:Array Oper} {o:Oper} {a:Act} {K:Act→World→Prop} {Q:Exit→Act→World→Prop} {E:Prop} (hgd:o.guard=none) (s x:Operand) (t:TypeId)
  (ho:o.op = .call { callee:=.builtin .append,args:=#[s,x],argTypes:=#[t,t] }) (hT:ElemT P t e z k bytes) (base:Nat) (v:Value) (l:List α) (hs:a.eval s=v) (hown:zAF enc k w base e v l)
  (bk c:Nat) (y:α) (hx:a.eval x = .slice (some ⟨bk,0,none⟩) 1 c) {cs:Array Value} {T:TypeId} {fr:Nat×Nat} (hblk:w.heap[bk]?=some (.cells cs T fr)) (hcs:cs.toList=enc y) (hk:(enc y).length=k) (hone:∀ u∈enc y,u.oneCell'=true)
  (hlen:l.length+1≤maxLen) (hbytes:(l.length+1)*bytes≤140737488355328) (hbase:base≤w.heap.size)
  (h:∀ g cap w',zAF enc k w' base e (.slice (some ⟨g,0,none⟩) (l.length+1) cap) (l++[y])→w.grownBy w' v.ownBlock→K (a.put o.dst (.slice (some ⟨g,0,none⟩) (l.length+1) cap)) w') :
  if Region.wanted o (yielded ops a.tmps)=true then Oper.wp P o a w K Q else E:=by
 obtain ⟨i,hi,hz0,hz1,hz2⟩:=info_parts hT.info;refine step_append_lies w hgd s x t ho base e i z k bytes hT.ty hi hz0 hz1 hz2 hT.zs hT.pos v l.length (l.flatMap enc) hs hown ⟨bk,0,none⟩ 1 c (enc y) hx (by rw [hk,Nat.one_mul]) ?_ hone za hlen hbytes hbase w.heap.size rfl ?_
 ·rw [←hcs];exact World.news_of_block hblk
 ·intro g cap w' h1 h2 _ _
  refine h g cap w' ?_ h2
  unfold zAF;rw [cY,List.flatMap_append]
  simpa using h1
theorem zBl {α β:Type} {enc:α→List Value} {enc2:β→List Value} {k k2 b b2:Nat} {e e2:TypeId} {w:World} {v v2:Value} {l:List α} {l2:List β} (h:zAF enc k w b e v l) (h2:zAF enc2 k2 w b2 e2 v2 l2) (hne:e≠e2):v.ownBlock=none∨v.ownBlock≠v2.ownBlock:=by
 cases hv:v.ownBlock with
 | none=>exact .inl rfl
 | some q =>
  refine .inr fun he=>?_
  obtain ⟨_,cs,hc⟩:=zDd h hv;obtain ⟨_,cs2,hc2⟩:=zDd h2 he.symm;exact zBp hc hc2 hne rfl
end Go.Proofs.YtoaelidmmcbkfaaGreatDoor
