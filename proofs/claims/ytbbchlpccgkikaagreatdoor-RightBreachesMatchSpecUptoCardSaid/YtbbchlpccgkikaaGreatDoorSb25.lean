/- Package right: a ledger's edges. -/
import Derived.Test.YtbbchlpccgkikaaGreatDoorSb24
set_option maxRecDepth 100000
set_option maxHeartbeats 8000000
namespace Go.Proofs.YtbbchlpccgkikaaGreatDoor
open Go.RowKit Dw
def edL(th:BA)(U:List De)(k:Nat):List Int:=0::200001::(U.take k).flatMap fun d=>if zCx th d=true then edgeL U d else []
theorem edL_succ{th:BA}{U:List De}{k:Nat}(h:k<U.length):edL th U (k+1)=edL th U k++(if zCx th U[k]=true then edgeL U U[k] else []):=by
 unfold edL;exact te8
theorem edL_len{th:BA}{U:List De}:∀k,(edL th U k).length<=2+2*k
 |0=>by simp[edL]
 |k+1=>by
  have ih:=edL_len (th:=th) (U:=U) k
  by_cases h:k<U.length
  ·rw[edL_succ h,eA]
   have:(if zCx th U[k]=true then edgeL U U[k] else []).length<=2:=by
    split
    ·unfold edgeL;split<;>simp
    ·simp
   omega
  ·have:edL th U (k+1)=edL th U k:=by
    unfold edL;rw[bT za,bT za]
   rw[this];omega
theorem own_two(w:World)(a b:Int):zAv zEh 1 (w.alloc (.cells #[.int .i64 a,.int .i64 b] 3)) w.heap.size 3 (.slice (some ⟨w.heap.size,0,none⟩) 2 2) [a,b]:=
 ⟨rfl,.inr ⟨w.heap.size,2,_,rfl,aK _,aJ _ _,aK _,zn,rfl,rfl⟩⟩
theorem step_pushI{P:Program}{w:World}{e:TypeId}{z:Value}{bytes:Nat}{G:Array Oper}{o:Oper}{a:Act}{K:Act->World->Prop}{Q:Exit->Act->World->Prop}{E:Prop}(hgd:o.guard=none)(s x:Operand)(t:TypeId)(ho:o.op=.call { callee:=.builtin .append,args:=#[s,x],argTypes:=#[t,t] })(hT:ElemT P t e z 1 bytes)(base:Nat)(v:Value)(l:List Int)(hs:a.eval s=v)(hown:zAv zEh 1 w base e v l)
  (bk m c:Nat) (ys:List Int) (hx:a.eval x=.slice (some ⟨bk,0,none⟩) m c) {cs:Array Value} {T:TypeId} {fr:Nat×Nat} (hblk:w.heap[bk]?=some (.cells cs T fr)) (hcs:cs.toList=ys.flatMap zEh) (hm:m=ys.length) (h0:0<m)
  (hlen:l.length+m<=maxLen) (hbytes:(l.length+m)*bytes<=140737488355328) (hbase:base<=w.heap.size)
  (h:∀g cap w',zAv zEh 1 w' base e (.slice (some ⟨g,0,none⟩) (l.length+m) cap) (l++ys)->w.grownBy w' v.ownBlock->K (a.put o.dst (.slice (some ⟨g,0,none⟩) (l.length+m) cap)) w') :
  if Region.wanted o (yielded G a.tmps)=true then Oper.wp P o a w K Q else E:=by
 obtain⟨i,hi,hz0,hz1,hz2⟩:=info_parts hT.info;have hl:∀l:List Int,(l.flatMap zEh).length=l.length:=fun l=>by rw[flat_len (k:=1) (fun _=>rfl),dK]
 refine step_append_lies w hgd s x t ho base e i z 1 bytes hT.ty hi hz0 hz1 hz2 hT.zs hT.pos v l.length (l.flatMap zEh) hs hown ⟨bk,0,none⟩ m c (ys.flatMap zEh) hx (by rw[hl,hm,dK]) ?_ ?_ h0 hlen hbytes hbase w.heap.size rfl ?_
 ·rw[<-hcs];exact World.news_of_block hblk
 ·intro u hu
  obtain⟨n,_,J⟩:=List.mem_flatMap.1 hu;rw[List.mem_singleton.1 J];rfl
 ·intro g cap w' h1 h2 _ _
  refine h g cap w' ?_ h2;unfold zAv;rw[eA,List.flatMap_append,<-hm];exact h1
theorem own_some{α:Type}{enc:α->List Value}{k:Nat}{w:World}{b:Nat}{e:TypeId}{v:Value}{l:List α}(h:zAv enc k w b e v l)(h0:0<l.length):∃g cap,v=.slice (some ⟨g,0,none⟩) l.length cap:=by
 rcases h.2 with ⟨_,J⟩|⟨g,cap,cur,hv,_⟩
 ·omega
 ·exact⟨g,cap,hv⟩
end Go.Proofs.YtbbchlpccgkikaaGreatDoor
