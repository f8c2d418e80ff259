/- Parts of the proof, joined: An element of several cells appended at a drawn step; rows kept by wri. -/
import Derived.Test.YtbbchlpccgkikaaGreatDoorSh14
import Derived.Deep.CutRange
set_option maxRecDepth 100000
set_option maxHeartbeats 8000000
namespace Go.Proofs.YtbbchlpccgkikaaGreatDoor
open Go.RowKit Dw
theorem zCo{P:Program}{w:World}{α:Type}{enc:α->List Value}{k:Nat}{e:TypeId}{z:Value}{bytes:Nat}{ops:Array Oper}{o:Oper}{a:Act}{K:Act->World->Prop}{Q:Exit->Act->World->Prop}{E:Prop}(hgd:o.guard=none)(s x:Operand)(t:TypeId)(ho:o.op=.call { callee:=.builtin .append,args:=#[s,x],argTypes:=#[t,t] })(hT:ElemT P t e z k bytes)(base:Nat)(v:Value)(l:List α)(hs:a.eval s=v)(hown:zAs enc k w base e v l)
  (bk c:Nat) (y:α) (hx:a.eval x=.slice (some ⟨bk,0,none⟩) 1 c) {cs:Array Value} {T:TypeId} {fr:Nat×Nat} (hblk:w.heap[bk]?=some (.cells cs T fr)) (hcs:cs.toList=enc y) (hk:(enc y).length=k) (hone:∀u∈enc y,u.oneCell'=true)
  (hlen:l.length+1<=maxLen) (hbytes:(l.length+1)*bytes<=140737488355328) (hbase:base<=w.heap.size)
  (h:∀g cap w',zAs enc k w' base e (.slice (some ⟨g,0,none⟩) (l.length+1) cap) (l++[y])->w.grownBy w' v.ownBlock->K (a.put o.dst (.slice (some ⟨g,0,none⟩) (l.length+1) cap)) w') :
  if Region.wanted o (yielded ops a.tmps)=true then Oper.wp P o a w K Q else E:=by
 obtain⟨i,hi,hz0,hz1,hz2⟩:=info_parts hT.info;refine step_append_lies w hgd s x t ho base e i z k bytes hT.ty hi hz0 hz1 hz2 hT.zs hT.pos v l.length (l.flatMap enc) hs hown ⟨bk,0,none⟩ 1 c (enc y) hx (by rw[hk,Nat.one_mul]) ?_ hone za hlen hbytes hbase w.heap.size rfl ?_
 ·rw[<-hcs];exact World.news_of_block hblk
 ·intro g cap w' h1 h2 _ _
  refine h g cap w' ?_ h2;unfold zAs;rw[dI,List.flatMap_append]
  simpa using h1
theorem zBR{α β:Type}{enc:α->List Value}{enc2:β->List Value}{k k2 b b2:Nat}{e e2:TypeId}{w:World}{v v2:Value}{l:List α}{l2:List β}(h:zAs enc k w b e v l)(h2:zAs enc2 k2 w b2 e2 v2 l2)(hne:e≠e2):v.ownBlock=none\/v.ownBlock≠v2.ownBlock:=by
 cases hv:v.ownBlock with
 |none=>exact .inl rfl
 |some q =>
  refine .inr fun he=>?_
  obtain⟨_,cs,hc⟩:=zAM h hv;obtain⟨_,cs2,hc2⟩:=zAM h2 he.symm;exact zAA hc hc2 hne rfl
theorem own_ne_mapJ{α:Type}{enc:α->List Value}{k b:Nat}{e:TypeId}{w:World}{v:Value}{l:List α}(h:zAs enc k w b e v l){r:Nat}{f:BA->Option Value}(hm:zAu Value.string w r f):v.ownBlock=none\/v.ownBlock≠some r:=by
 cases hv:v.ownBlock with
 |none=>exact .inl rfl
 |some q =>
  refine .inr fun he=>?_
  obtain⟨_,cs,hc⟩:=zAM h hv
  injection he with he
  exact zAi hm hc he
theorem own_far{α:Type}{enc:α->List Value}{k b:Nat}{e:TypeId}{w:World}{v:Value}{l:List α}(h:zAs enc k w b e v l){g:Nat}{cs:Array Value}{t:TypeId}(hg:Bx w g cs t)(ht:e≠t)(i:Nat)(u:Value):zAs enc k (w.setCell ⟨g,i,none⟩ u) b e v l:=
 ownsRow_setCell_other h (fun e2=>by
  obtain⟨_,cs2,hcs⟩:=zAM h e2;exact zAA hcs hg ht rfl) u
end Go.Proofs.YtbbchlpccgkikaaGreatDoor
namespace Dw
open Go Go.Proofs.YtbbchlpccgkikaaGreatDoor
section
variable {P:Program} {ops:Array Oper} {Q:Exit→Act→World→Prop} {md:Region.Mode} {S:Array Bool→World→Prop}
def anyL(P:Program)(md:Region.Mode)(ops:Array Oper)(Q:Exit->Act->World->Prop)(S:Array Bool->World->Prop):Nat->Array Bool->Act->World->Prop
 |0,l,a,w=>Region.ready md ops l=[]/\Q .normal a w
 |n+1,l,a,w=>(Region.ready md ops l=[]->Q .normal a w) /\
  ∀i∈Region.ready md ops l,wpOp P ops Q i (fun a' w'=>S (l.setIfInBounds i true) w'/\anyL P md ops Q S n (l.setIfInBounds i true) a' w') a w
theorem anyL_any:∀(n:Nat)(l:Array Bool)(a:Act)(w:World),anyL P md ops Q S n l a w->wpAny P md ops Q n l a w
 |0,_,_,_,h=>h
 |n+1,_,_,_,h=>⟨h.1,fun i hi=>wpOp_mono (fun a' w' h'=>anyL_any n _ a' w' h'.2) (h.2 i hi)⟩
def ShutL(md:Region.Mode)(ops:Array Oper)(l:Array Bool):Prop:=∀(j:Nat)(o:Oper),ops[j]?=some o->l.getD j false=true->∀e∈o.after,Region.binds md e=true->l.getD e.on false=true
theorem ShutL.set{l:Array Bool}(h:ShutL md ops l){j:Nat}(hj:j∈Region.ready md ops l):ShutL md ops (l.setIfInBounds j true):=fun k o ho hk e he hb=>by
 refine getD_set_true ?_
 by_cases hkj:j=k
 ·subst hkj
  obtain⟨_,o',ho',hall⟩:=mem_ready.1 hj;rw[ho]at ho'
  injection ho' with ho'
  subst ho';exact hall e he hb
 ·rw[getD_set_ne false hkj]at hk
  exact h k o ho hk e he hb
theorem ShutL.start(n:Nat):ShutL md ops (Array.replicate n false):=fun j o _ hj=>by
 exfalso;rw[Array.getD_eq_getD_getElem?,Array.getElem?_replicate]at hj
 split at hj<;>simp at hj
abbrev Ahead(md:Region.Mode)(ops:Array Oper)(S:Array Bool->World->Prop)(i:Nat):World->Prop:=fun w=>∃l,ShutL md ops l/\l.getD i true=false/\S l w
theorem anyL_first{i:Nat}{oi:Oper}{v:Value}(hi:ops[i]?=some oi)(hsel:∀(j:Nat)(o:Oper) cs b,ops[j]?=some o->o.op≠.select cs b)(hQ:∀c a w,Q (.panic c) (a.put oi.dst v) w->Q (.panic c) a w)(hSi:∀l w,S (l.setIfInBounds i true) w↔S l w): ∀(fuel:Nat)(l:Array Bool)(a:Act)(w:World),ShutL md ops l -> (∀j oj,ops[j]?=some oj->j≠i->l.getD j true=false->(∀e∈oj.after,Region.binds md e=true->e.on≠i)->oi.apart ops oj=true) -> i∈Region.ready md ops l->YieldsIf P ops (Ahead md ops S i) oi v a->S l w -> anyL P md ops Q S fuel (l.setIfInBounds i true) (a.put oi.dst v) w->anyL P md ops Q S (fuel+1) l a w:=by
 intro fuel
 induction fuel with
 |zero =>
  intro l a w hsh _ hr hy hS H;refine⟨fun h=>(by rw[h]at hr;cases hr),fun j hj=>?_⟩
  by_cases hji:j=i
  ·subst hji
   exact hy.wpOp hi ⟨l,hsh,(mem_ready.1 hr).1,hS⟩ ⟨(hSi _ _).2 hS,H⟩
  ·have:=ready_mono hj hji
   rw[H.1]at this
   cases this
 |succ fuel ih =>
  intro l a w hsh hfree hr hy hS H;refine⟨fun h=>(by rw[h]at hr;cases hr),fun j hj=>?_⟩
  by_cases hji:j=i
  ·subst hji
   exact hy.wpOp hi ⟨l,hsh,(mem_ready.1 hr).1,hS⟩ ⟨(hSi _ _).2 hS,H⟩
  ·have h1:=H.2 j (ready_mono hj hji)
   obtain⟨hjun,oj,hoj,hall⟩:=mem_ready.1 hj
   have hnot:∀e∈oj.after,Region.binds md e=true->e.on≠i:=fun e he hb heq=>by
    have h1:=hall e he hb;have h0:=(mem_ready.1 hr).1;rw[heq]at h1
    rcases aQ i l.size with h'|h'
    ·simp[h']at h0 h1;rw[h0]at h1;cases h1
    ·simp[Array.getElem?_eq_none h']at h1
   have h2:=wpOp_putIf hoj (hfree j oj hoj hji hjun hnot) (fun cs b=>hsel i oi cs b hi) (fun cs b=>hsel j oj cs b hoj) hQ hy h1
   have hfree':∀k ok,ops[k]?=some ok->k≠i->(l.setIfInBounds j true).getD k true=false ->
     (∀e∈ok.after,Region.binds md e=true->e.on≠i)->oi.apart ops ok=true:=fun k ok hk hki hun hno=>by
    refine hfree k ok hk hki ?_ hno
    by_cases hjk:j=k
    ·subst hjk;exact hjun
    ·rw[getD_set_ne true hjk]at hun;exact hun
   refine wpOp_mono (fun a' w' h3=>?_) h2
   have hs3:S (l.setIfInBounds j true) w':=by
    have:=h3.2.1;rw[Array.setIfInBounds_comm _ _ (fun e=>hji e.symm)]at this;exact(hSi _ _).1 this
   refine⟨hs3,ih (l.setIfInBounds j true) a' w' (hsh.set hj) hfree' (ready_mono hr (Ne.symm hji)) h3.1 hs3 ?_⟩;rw[Array.setIfInBounds_comm _ _ hji];exact h3.2.2
theorem zBn{i:Nat}{oi:Oper}{v:Value}{fuel:Nat}{l:Array Bool}{a:Act}{w:World}(hi:ops[i]?=some oi)(hs:Region.noSelect ops=true)(hf:Region.free md ops l i=true)(hr:(Region.ready md ops l).contains i=true)(hQ:∀c a w,Q (.panic c) (a.put oi.dst v) w->Q (.panic c) a w)(hSi:∀l w,S (l.setIfInBounds i true) w↔S l w)(hsh:ShutL md ops l)(hy:YieldsIf P ops (Ahead md ops S i) oi v a)(hS:S l w)(h:ShutL md ops (l.setIfInBounds i true)->S (l.setIfInBounds i true) w->anyL P md ops Q S fuel (l.setIfInBounds i true) (a.put oi.dst v) w):anyL P md ops Q S (fuel+1) l a w:=
 anyL_first hi (Region.noSelect_spec hs) hQ hSi fuel l a w hsh (Region.free_spec hi hf) (by simpa using hr) hy hS (h (hsh.set (by simpa using hr)) ((hSi _ _).2 hS))
def AllL(P:Program)(md:Region.Mode)(ops:Array Oper)(Q:Exit->Act->World->Prop)(S:Array Bool->World->Prop)(fuel:Nat)(l:Array Bool)(a:Act)(w:World)(rs:List Nat):Prop:=
 ∀i∈rs,wpOp P ops Q i (fun a' w'=>S (l.setIfInBounds i true) w'/\anyL P md ops Q S fuel (l.setIfInBounds i true) a' w') a w
theorem AllL.nil{fuel:Nat}{l:Array Bool}{a:Act}{w:World}:AllL P md ops Q S fuel l a w []:=fun _ h=>qg
theorem AllL.cons{fuel:Nat}{l:Array Bool}{a:Act}{w:World}{i:Nat}{o:Oper}{rs:List Nat}(ho:ops[i]?=some o)(h:∀K':Act->World->Prop,Shut (∀a w,S (l.setIfInBounds i true) w->(S (l.setIfInBounds i true) w->anyL P md ops Q S fuel (l.setIfInBounds i true) a w)->K' a w)->if Region.wanted o (yielded ops a.tmps)=true then Oper.wp P o a w K' Q else K' (a.put o.dst undef) w)(hs:AllL P md ops Q S fuel l a w rs):AllL P md ops Q S fuel l a w (i::rs):=fun j hj=>by
 rcases List.mem_cons.1 hj with rfl|hj
 ·exact wpOp_step ho (fun K' hK=>h K' (fun a w hS hW=>hK a w ⟨hS,hW hS⟩))
 ·exact hs j hj
theorem zAR{rs:List Nat}{fuel:Nat}{l:Array Bool}{a:Act}{w:World}(hr:Region.ready md ops l=rs)(hne:rs≠[])(h:AllL P md ops Q S fuel l a w rs):anyL P md ops Q S (fuel+1) l a w:=
 ⟨fun h0=>absurd (hr▸h0) hne,hr▸h⟩
theorem anyL_done{l:Array Bool}{a:Act}{w:World}(hr:Region.ready md ops l=[])(h:Q .normal a w):∀fuel,anyL P md ops Q S fuel l a w
 |0=>⟨hr,h⟩
 |_+1=>⟨fun _=>h,by rw[hr];simp⟩
theorem wp_region_late{id:Nat}{a:Act}{w:World}(hm:P.follows .mixedOrders=true)(hS:S (Array.replicate ops.size false) w.drew)(h:ShutL .any ops (Array.replicate ops.size false)->S (Array.replicate ops.size false) w.drew->anyL P .any ops Q S ops.size (Array.replicate ops.size false) a w.drew):(Code.region id ops true).wp P Q a w:=
 wp_region_any hm (anyL_any _ _ _ _ (h (ShutL.start _) hS))
theorem ShutL.back{l:Array Bool}(h:ShutL .any ops l){i j:Nat}(hd:depB ops i j=true)(hj:l.getD j false=false):l.getD i false=false:=by
 cases hli:l.getD i false with
 |false=>rfl
 |true =>
  have h2:l.getD j false=true:=zAU (done:=fun k=>l.getD k false) hd (fun o ho e he hb=>h i o ho hli e he hb);rw[hj]at h2
  cases h2
theorem getD_ft{l:Array Bool}{j:Nat}(h:l.getD j true=false):l.getD j false=false:=by
 rw[Array.getD_eq_getD_getElem?]at h ⊢
 cases he:l[j]? with
 |none=>rfl
 |some b=>rw[he]at h;simpa using h
end
end Dw
namespace Go.Proofs.YtbbchlpccgkikaaGreatDoor
open Go.RowKit Dw
abbrev wvC(RA:Option Addr)(rc r1 r2 g1 g2:Nat)(AL:Option Addr)(cL:Nat)(rs:List Rg):Array Value:=
 #[.slice RA rs.length rc,.map (some r1),.slice AL (zBF rs (fun i=>!zAB rs i) rs.length).length cL,.map (some r2),.slice (some ⟨g1,0,none⟩) rs.length rs.length,.slice (some ⟨g2,0,none⟩) rs.length rs.length]
theorem wv_eq(RA:Option Addr)(rc r1 r2 g1 g2:Nat)(AL:Option Addr)(cL:Nat)(rs:List Rg):wv RA rc r1 r2 g1 g2 AL cL rs=.agg (wvC RA rc r1 r2 g1 g2 AL cL rs):=rfl
abbrev lgC(RA:Option Addr)(rc:Nat)(rs:List Rg)(UA:Option Addr)(uc:Nat)(us:List BA)(DA:Option Addr)(dc many r1 r2 g1 g2:Nat)(AL:Option Addr)(cL:Nat)(vr vi:Value):Array Value:=
 #[.slice RA rs.length rc,.slice UA us.length uc,.slice DA many dc,.slice RA rs.length rc,.map (some r1),.slice AL (zBF rs (fun i=>!zAB rs i) rs.length).length cL,.map (some r2),.slice (some ⟨g1,0,none⟩) rs.length rs.length,.slice (some ⟨g2,0,none⟩) rs.length rs.length,vr,vi]
abbrev spC(p:Int×Int):Array Value:=#[.int .i64 p.1,.int .i64 p.2]
abbrev eRun:Int×Int->List Value:=fun p=>[.int .i64 p.1,.int .i64 p.2]
abbrev eIn:Value×List Bool->List Value:=fun x=>[x.1]
theorem elRun:ElemT Tryz.prog 149 173 (.agg #[.int .i64 0,.int .i64 0]) 2 16:=⟨Tryz.underlying149,zb,rfl,zc⟩
theorem elIn:ElemT Tryz.prog 104 108 (.slice none 0 0) 1 24:=⟨Tryz.underlying104,zb,rfl,zc⟩
theorem oneRun(p:Int×Int):∀u∈eRun p,u.oneCell'=true:=zt
def InS(w:World)(x:Value)(M:List Bool):Prop:=(x=.slice none 0 0/\M=[])\/∃go c N,M=true::N/\x=.slice (some ⟨go,0,none⟩) N.length c/\w.heap[go]?=some (.cells (bArr N N.length) 4 (0,0))
theorem InS.one{w:World}{x:Value}{M:List Bool}(h:InS w x M):x.oneCell'=true:=by
 rcases h with ⟨rfl,_⟩|⟨_,_,_,_,rfl,_⟩<;>rfl
theorem InS.keep{w w':World}{x:Value}{M:List Bool}(h:InS w x M)(hk:∀(g:Nat)(cs:Array Value),w.heap[g]?=some (Obj.cells cs 4 (0,0))->w'.heap[g]?=w.heap[g]?):InS w' x M:=
 h.imp id fun⟨go,c,N,m,e,hg⟩=>⟨go,c,N,m,e,(hk go _ hg).trans hg⟩
theorem InS.below{w w':World}{x:Value}{M:List Bool}(h:InS w x M)(hb:Below w.heap.size w w'):InS w' x M:=h.keep fun g _ hg=>hb.block g (zAh hg)
def insM(rs:List Rg)(d:De):List Bool:=if zAl d.kd=true then true::inL rs d.ar else []
structure LS (W1:World) (C:Value->Value->Array Value) (L r:Nat) (f:BA->Option Value) (cr ci vr vi:Value) (runs:List (Int×Int)) (ins:List (Value×List Bool)) (w:World):Prop where
 bel:Below W1.heap.size W1 w
 lo:W1.heap.size<=L
 lg:Bx w L (C cr ci) 151
 rlo:W1.heap.size<=r
 mp:zAu Value.string w r f
 rn:zAs eRun 2 w W1.heap.size 173 vr runs
 ns:zAs eIn 1 w W1.heap.size 108 vi ins
 el:∀x∈ins,InS w x.1 x.2
section
variable {W1 w w':World} {C:Value→Value→Array Value} {L r:Nat} {f:BA→Option Value} {cr ci vr vi v':Value} {runs:List (Int×Int)} {ins:List (Value×List Bool)}
theorem LS.below(h:LS W1 C L r f cr ci vr vi runs ins w)(hb:Below w.heap.size w w'):LS W1 C L r f cr ci vr vi runs ins w':=
 ⟨zAa h.bel hb,h.lo,h.lg.below hb,h.rlo,h.mp.below hb,h.rn.below hb,h.ns.below hb,fun x hx=>(h.el x hx).below hb⟩
theorem LS.drewN(h:LS W1 C L r f cr ci vr vi runs ins w)(n:Nat):LS W1 C L r f cr ci vr vi runs ins (w.drewN n):=h.below (zAd (aJ _ _) n)
theorem LS.drew(h:LS W1 C L r f cr ci vr vi runs ins w):LS W1 C L r f cr ci vr vi runs ins w.drew:=h.drewN 1
theorem zCb{g:Nat}{cs:Array Value}{T e:TypeId}{α:Type}{enc:α->List Value}{k b:Nat}{v:Value}{l:List α}(h:Bx w g cs T)(ho:zAs enc k w b e v l)(hne:T≠e)(hg:w.grownBy w' v.ownBlock):Bx w' g cs T:=by
 show w'.heap[g]?=_
 rw[hg.block g h.lt fun e2=>by
  obtain⟨_,cs2,hc⟩:=zAM ho e2.symm;exact zAA h hc hne rfl]
 exact h
theorem map_grown{f:BA->Option Value}{α:Type}{enc:α->List Value}{k b:Nat}{e:TypeId}{v:Value}{l:List α}(h:zAu Value.string w r f)(ho:zAs enc k w b e v l)(hg:w.grownBy w' v.ownBlock):zAu Value.string w' r f:=
 h.keep (hg.block r h.lt fun e2=>by
  obtain⟨_,cs2,hc⟩:=zAM ho e2.symm;exact zAi h hc rfl)
theorem zDd{α:Type}{enc:α->List Value}{k b:Nat}{e:TypeId}{v x:Value}{l:List α}{M:List Bool}(h:InS w x M)(ho:zAs enc k w b e v l)(hne:4≠e)(hg:w.grownBy w' v.ownBlock):InS w' x M:=
 h.keep fun g cs hc=>hg.block g (zAh hc) fun e2=>by
  obtain⟨_,cs2,hc2⟩:=zAM ho e2.symm;exact zAA hc hc2 hne rfl
theorem own_base{α:Type}{enc:α->List Value}{k b:Nat}{e:TypeId}{v:Value}{l:List α}(ho:zAs enc k w b e v l):∀q,v.ownBlock=some q->b<=q:=fun _q hq=>(zAM ho hq).1
theorem LS.pushR(h:LS W1 C L r f cr ci vr vi runs ins w){p:Int×Int}(hn:zAs eRun 2 w' W1.heap.size 173 v' (runs++[p]))(hg:w.grownBy w' vr.ownBlock):LS W1 C L r f cr ci v' vi (runs++[p]) ins w':=
 ⟨h.bel.grown hg h.bel.size (own_base h.rn),h.lo,zCb h.lg h.rn zc hg,h.rlo,map_grown h.mp h.rn hg,hn,h.ns.grown hg (zBR h.ns h.rn zc),fun x hx=>zDd (h.el x hx) h.rn zc hg⟩
theorem LS.pushI(h:LS W1 C L r f cr ci vr vi runs ins w){x:Value×List Bool}(hx:InS w x.1 x.2)(hn:zAs eIn 1 w' W1.heap.size 108 v' (ins++[x]))(hg:w.grownBy w' vi.ownBlock):LS W1 C L r f cr ci vr v' runs (ins++[x]) w':=
 ⟨h.bel.grown hg h.bel.size (own_base h.ns),h.lo,zCb h.lg h.ns zc hg,h.rlo,map_grown h.mp h.ns hg,h.rn.grown hg (zBR h.rn h.ns zc),hn,fun y hy=>by
  rcases List.mem_append.1 hy with hy|hy
  ·exact zDd (h.el y hy) h.ns zc hg
  ·rw[List.mem_singleton.1 hy];exact zDd hx h.ns zc hg⟩
theorem LS.set(h:LS W1 C L r f cr ci vr vi runs ins w){i:Nat}{u cr' ci':Value}(hC:(C cr ci).setIfInBounds i u=C cr' ci'):LS W1 C L r f cr' ci' vr vi runs ins (w.setCell ⟨L,i,none⟩ u):=
 ⟨h.bel.setCell h.lo _,h.lo,by rw[<-hC];exact h.lg.set i u,h.rlo,h.mp.setCell (zAi h.mp h.lg).symm _,own_far h.rn h.lg zc i u,own_far h.ns h.lg zc i u,fun x hx=>(h.el x hx).keep fun g cs hc=>cW _ _ _ _ (zAA hc h.lg zc)⟩
theorem LS.far(h:LS W1 C L r f cr ci vr vi runs ins w){g i:Nat}{cs:Array Value}{T:TypeId}{u:Value}(hg:Bx w g cs T)(hlo:W1.heap.size<=g)(h1:T≠151)(h3:T≠108)(h4:T≠4)(hr:vr.ownBlock≠some g):LS W1 C L r f cr ci vr vi runs ins (w.setCell ⟨g,i,none⟩ u):=
 ⟨h.bel.setCell hlo _,h.lo,h.lg.far (show L≠g from zAA h.lg hg (fun e=>h1 e.symm)) _,h.rlo,h.mp.setCell (zAi h.mp hg).symm _,ownsRow_setCell_other h.rn hr _,own_far h.ns hg (fun e=>h3 e.symm) i u,fun x hx=>(h.el x hx).keep fun _g2 _cs2 hc=>cW _ _ _ _ (zAA hc hg (fun e=>h4 e.symm))⟩
theorem LS.upd{f':BA->Option Value}(h:LS W1 C L r f cr ci vr vi runs ins w)(hm:zAu Value.string w' r f')(hg:w.grownBy w' (some r)):LS W1 C L r f' cr ci vr vi runs ins w':=
 ⟨h.bel.grown hg h.bel.size (fun k hk=>by injection hk with hk;rw[<-hk];exact h.rlo),h.lo,by
  show w'.heap[L]?=_
  rw[hg.block L h.lg.lt (by simp;exact zAi h.mp h.lg)];exact h.lg,h.rlo,hm,h.rn.grown hg (own_ne_mapJ h.rn h.mp),h.ns.grown hg (own_ne_mapJ h.ns h.mp),fun x hx=>(h.el x hx).keep fun g cs hc=>hg.block g (zAh hc) (by simp;exact zAi h.mp hc)⟩
end
theorem chkD_kind{rs:List Rg}{us:List BA}{pre:List De}{d:De}(h:chkD rs us pre d=0):(1<=d.kd/\d.kd<=5)/\(zAl d.kd=true->zCX rs d.ar=0):=by
 unfold chkD at h
 split at h
 ·cases h
 split at h
 ·cases h
 split at h
 ·cases h
 split at h
 ·cases h
 split at h
 ·cases h
 next hk =>
 split at h
 ·cases h
 refine⟨za,fun hg=>?_⟩;rw[aD hg]at h;unfold giftF at h
 split at h
 ·cases h
 split at h
 ·cases h
 split at h
 ·next h1=>exact absurd h h1
 split at h
 ·next h1=>exact absurd h h1
 next ha=>simpa using ha
theorem chkT_kind{rs:List Rg}{us:List BA}{ds:List De}(h:zBQ rs us ds=0):∀d∈ds,(1<=d.kd/\d.kd<=5)/\(zAl d.kd=true->zCX rs d.ar=0):=fun d hd=>by
 obtain⟨i,hi,rfl⟩:=dO hd;exact chkD_kind ((zAT h).2 i hi)
theorem fldC_p1(W:World):(Instr.field 128 (.agg (fldC 1)) 5).run Tryz.prog W=.ok (.bool (zAl 1)) W:=zb
theorem fldC_p2(W:World):(Instr.field 128 (.agg (fldC 2)) 5).run Tryz.prog W=.ok (.bool (zAl 2)) W:=zb
theorem fldC_p3(W:World):(Instr.field 128 (.agg (fldC 3)) 5).run Tryz.prog W=.ok (.bool (zAl 3)) W:=zb
theorem fldC_p4(W:World):(Instr.field 128 (.agg (fldC 4)) 5).run Tryz.prog W=.ok (.bool (zAl 4)) W:=zb
theorem fldC_p5(W:World):(Instr.field 128 (.agg (fldC 5)) 5).run Tryz.prog W=.ok (.bool (zAl 5)) W:=zb
theorem fldC_place(k:Int)(h:1<=k/\k<=5)(W:World):(Instr.field 128 (.agg (fldC k)) 5).run Tryz.prog W=.ok (.bool (zAl k)) W:=by
 have h5:k=1\/k=2\/k=3\/k=4\/k=5:=za
 rcases h5 with rfl|rfl|rfl|rfl|rfl
 ·exact fldC_p1 W
 ·exact fldC_p2 W
 ·exact fldC_p3 W
 ·exact fldC_p4 W
 ·exact fldC_p5 W
theorem tMapE:Tryz.prog.underlying 100=some (.map 9 3):=Tryz.underlying100
abbrev endM(l:List De):BA->Option Value:=fun x=>(endAt l x).map (Value.int .i64)
theorem endM_nil:endM []=fun _=>none:=rfl
theorem endM_skip{l:List De}{d:De}(h:d.kd≠4):endM (l++[d])=endM l:=by
 funext x
 show(endAt (l++[d]) x).map _=(endAt l x).map _
 rw[endAt_snoc,aW (fun hh=>h (endsB_true.1 hh).1)]
theorem endM_push{l:List De}{d:De}(h:d.kd=4):endM (l++[d])=fun x=>if x=d.ot then some (.int .i64 d.bg) else endM l x:=by
 funext x
 show(endAt (l++[d]) x).map _=_
 rw[endAt_snoc]
 by_cases hx:x=d.ot
 ·rw[aD hx,aD (endsB_true.2 ⟨h,hx.symm⟩)];rfl
 ·rw[aW hx,aW (fun hh=>hx (endsB_true.1 hh).2.symm)]
def NumV(w:World)(v:Value)(q:Rat):Prop:=∃A c A2 c2,v=raV false A c q.num.natAbs A2 c2 q.den/\Nt w A c q.num.natAbs/\Nt w A2 c2 q.den
theorem NumV.below{w w':World}{v:Value}{q:Rat}(h:NumV w v q)(hb:Below w.heap.size w w'):NumV w' v q:=by
 obtain⟨A,c,A2,c2,e,h1,h2⟩:=h;exact⟨A,c,A2,c2,e,h1.below hb,h2.below hb⟩
theorem no_map_cell{w:World}{g:Nat}{es:Array MapEntry}{clk:Nat}(h:w.heap[g]?=some (.map es clk))(o:Nat):w.cell? ⟨g,o,none⟩=none:=by
 simp[World.cell?,h]
theorem no_iter_cell{w:World}{g:Nat}{r:Option Nat}{s c:Nat}{a:Array Nat}(h:w.heap[g]?=some (.mapIter r s a c))(o:Nat):w.cell? ⟨g,o,none⟩=none:=by
 simp[World.cell?,h]
theorem NumV.grown{w w':World}{v:Value}{q:Rat}{g:Nat}(h:NumV w v q)(hg:w.grownBy w' (some g))(hn:∀o,w.cell? ⟨g,o,none⟩=none):NumV w' v q:=by
 obtain⟨A,c,A2,c2,e,h1,h2⟩:=h
 have key:∀b o x,w.cell? ⟨b,o,none⟩=some x->some b≠some g:=fun b o x hx e=>by
  injection e with e
  subst e;rw[hn o]at hx
  cases hx
 refine⟨A,c,A2,c2,e,⟨fun hl=>?_,h1.cap⟩,⟨fun hl=>?_,h2.cap⟩⟩
 ·obtain⟨b,o,rfl,hc⟩:=h1.rd hl
  exact⟨b,o,rfl,fun i hi=>hg.cell (hc i hi) (key b _ _ (hc i hi))⟩
 ·obtain⟨b,o,rfl,hc⟩:=h2.rd hl
  exact⟨b,o,rfl,fun i hi=>hg.cell (hc i hi) (key b _ _ (hc i hi))⟩
def zAy(w:World)(g:Nat)(f:zAV):Prop:=
 ∃L:List (BA×Value),PMap Value.string w g L/\(∀p,f p≠0↔∃v,(p,v)∈L)/\∀p v,(p,v)∈L->NumV w v (f p)
theorem pm_nocell{w:World}{g:Nat}{L:List (BA×Value)}(h:PMap Value.string w g L)(o:Nat):w.cell? ⟨g,o,none⟩=none:=by
 obtain⟨es,clk,h1,_⟩:=h;exact no_map_cell h1 o
section
variable {w w':World} {g:Nat} {f:zAV} {p:BA} {v:Value} {q:Rat}
theorem zAy.nocell(h:zAy w g f)(o:Nat):w.cell? ⟨g,o,none⟩=none:=by
 obtain⟨L,h1,_⟩:=h;exact pm_nocell h1 o
theorem zAy.below(h:zAy w g f)(hb:Below w.heap.size w w'):zAy w' g f:=by
 obtain⟨L,h1,h2,h3⟩:=h;exact⟨L,h1.below hb,h2,fun p v hp=>(h3 p v hp).below hb⟩
theorem zAy.new(w:World):zAy (w.alloc (.map #[] 0)) w.heap.size (fun _=>0):=
 ⟨[],PMap.new _ _,fun p=>⟨fun h=>absurd rfl h,fun⟨_,h⟩=>qg⟩,fun _ _ h=>qg⟩
theorem zAy.is(h:zAy w g f):∃F,zAu Value.string w g F/\∀p,(f p=0/\F p=none)\/(f p≠0/\∃v,F p=some v/\NumV w v (f p)):=by
 obtain⟨L,h1,h2,h3⟩:=h;refine⟨_,h1.is,fun p=>?_⟩
 cases hl:zAP L p with
 |none =>
  refine .inl ⟨eR fun hn=>?_,rfl⟩
  obtain⟨v,hv⟩:=(h2 p).1 hn;rw[lookE_none]at hl;exact hl _ hv rfl
 |some v =>
  have hm:=(lookE_mem h1.nodup).1 hl;exact .inr ⟨(h2 p).2 ⟨v,hm⟩,v,rfl,h3 p v hm⟩
end
theorem tMapP:Tryz.prog.underlying 80=some (.map 9 86):=Tryz.underlying80
section
variable {w:World} {g:Nat} {f:zAV}
theorem run_put(h:zAy w g f)(p:BA)(v:Value)(q:Rat)(hv:NumV w v q)(hq:q≠0): ∃w',(Instr.mapUpdate 80 (.map (some g)) (.string p) v).run Tryz.prog w=.ok () w'/\zAy w' g (upH f p q)/\w.grownBy w' (some g)/\w'.heap.size=w.heap.size:=by
 obtain⟨L,h1,h2,h3⟩:=h;obtain⟨w',hr,hp,hg,hs⟩:=run_update_pm tMapP kStr h1 p v
 have hm:∀p' v',(p',v')∈putE L p v↔if p'=p then v'=v else (p',v')∈L:=fun p' v'=>by
  rw[<-lookE_mem hp.nodup,lookE_put]
  split
  ·constructor
   ·intro e;injection e with e;exact e.symm
   ·intro e;rw[e]
  ·exact lookE_mem h1.nodup
 refine⟨w',hr,⟨_,hp,fun p'=>?_,fun p' v' hp'=>?_⟩,hg,hs⟩
 ·by_cases he:p'=p
  ·subst he
   rw[zBv];exact⟨fun _=>⟨v,(hm _ _).2 (by rw[aD rfl])⟩,fun _=>hq⟩
  ·rw[zAJ _ _ he,h2]
   constructor
   ·rintro⟨v',hv'⟩;exact⟨v',(hm _ _).2 (by rw[aW he];exact hv')⟩
   ·rintro⟨v',hv'⟩
    have:=(hm _ _).1 hv';rw[aW he]at this;exact⟨v',this⟩
 ·have:=(hm _ _).1 hp'
  by_cases he:p'=p
  ·subst he
   rw[aD rfl]at this;rw[zBv,this];exact hv.grown hg fun o=>pm_nocell h1 o
  ·rw[aW he]at this
   rw[zAJ _ _ he];exact(h3 _ _ this).grown hg fun o=>pm_nocell h1 o
theorem run_del(h:zAy w g f)(p:BA)(ty:TypeId): ∃w',(Builtin.delete_ #[80,9] ty #[.map (some g),.string p]).run Tryz.prog w=.ok (.tuple #[]) w'/\zAy w' g (upH f p 0)/\w.grownBy w' (some g)/\w'.heap.size=w.heap.size:=by
 obtain⟨L,h1,h2,h3⟩:=h;obtain⟨w',hr,hp,hg,hs⟩:=run_delete_pm (ty:=ty) tMapP kStr h1 p
 have hm:∀p' v',(p',v')∈delE L p↔p'≠p/\(p',v')∈L:=fun p' v'=>by
  unfold delE;rw[List.mem_filter,eW,and_comm]
 refine⟨w',hr,⟨_,hp,fun p'=>?_,fun p' v' hp'=>?_⟩,hg,hs⟩
 ·by_cases he:p'=p
  ·subst he
   rw[zBv];exact⟨fun h=>absurd rfl h,fun⟨v,hv⟩=>absurd rfl ((hm _ _).1 hv).1⟩
  ·rw[zAJ _ _ he,h2]
   constructor
   ·rintro⟨v',hv'⟩;exact⟨v',(hm _ _).2 ⟨he,hv'⟩⟩
   ·rintro⟨v',hv'⟩;exact⟨v',((hm _ _).1 hv').2⟩
 ·obtain⟨he,hin⟩:=(hm _ _).1 hp'
  rw[zAJ _ _ he];exact(h3 _ _ hin).grown hg fun o=>pm_nocell h1 o
end
theorem zDp{B:Nat}{w0 w w':World}{g:Nat}(h:Below B w0 w)(hB:B<=w.heap.size)(hg:w.grownBy w' (some g))(hlo:B<=g):Below B w0 w':=
 h.grown hg hB fun k hk=>by injection hk with hk;rw[<-hk];exact hlo
def tooB(n d most:Nat):Bool:=decide (most<(zCT n).size) || decide (most<(zCT d).size)
def raOut(n d most:Nat):Value:=if tooB n d most=true then .tuple #[.agg #[.string ⟨#[]⟩,.string ⟨#[]⟩],.bool false] else .tuple #[.agg #[.string (zCT n),.string (zCT d)],.bool true]
abbrev zRt:Array Value:=#[.string ⟨#[]⟩,.string ⟨#[]⟩]
theorem Ratio_c(A A2:Option Addr)(c c2 n d most:Nat)(w:World)(h:Nt w A c n)(h2:Nt w A2 c2 d)(hn:(zAc B32 n).length<=100000000)(hd:(zAc B32 d).length<=100000000): Calls Tryz.prog 84 #[raV false A c n A2 c2 d,.int .i64 (most:Int)] w (zAg (raOut n d most) w):=by
 have HT1:=zq (fun W (x:Nt W A c n)=>text_c A c n W x hn);have HT2:=zq (fun W (x:Nt W A2 c2 d)=>text_c A2 c2 d W x hd);have HRO:Hid (raOut n d most=if (decide (most<(zCT n).size) || decide (most<(zCT d).size))=true then .tuple #[.agg #[.string ⟨#[]⟩,.string ⟨#[]⟩],.bool false] else .tuple #[.agg #[.string (zCT n),.string (zCT d)],.bool true]):=rfl;generalize raOut n d most=ro at *;generalize zCT n=sn at *;generalize zCT d=sd at *;have HX0:Hid (Bx ((w.alloc (.cells (raC A c n A2 c2 d) 86)).alloc (.cells zRt 36)) w.heap.size (raC A c n A2 c2 d) 86):=(Bx.new _ _ _).alloc _;have HZ0:Hid (Bx ((w.alloc (.cells (raC A c n A2 c2 d) 86)).alloc (.cells zRt 36)) (w.heap.size+1) zRt 36):=Bx.new1 _ _ _ _;have HB0:Hid (Below w.heap.size w ((w.alloc (.cells (raC A c n A2 c2 d) 86)).alloc (.cells zRt 36))):=((aJ w.heap.size w).alloc (aE _) _).alloc zd _;obtain⟨W,hW⟩:∃W,W=((w.alloc (.cells (raC A c n A2 c2 d) 86)).alloc (.cells zRt 36)):=⟨_,rfl⟩;rw[<-hW]at HX0 HZ0 HB0;have g1:=zq (h.below HB0.o);have g2:=zq (h2.below HB0.o);clear hn hd h h2
 go_enter Tryz.func84,Tryz.ntmps84;(go_upto_region 1 with fail);rw[<-hW];clear hW;obtain⟨a0,a1,a2⟩:=HX0.o.t
 go_region_held3 (fun w'=>(w'.cell? ⟨w.heap.size,0,none⟩=some (.bool false)/\w'.cell? ⟨w.heap.size,1,none⟩=some (.slice A (zAc B32 n).length c)/\w'.cell? ⟨w.heap.size,2,none⟩=some (.slice A2 (zAc B32 d).length c2)))
  ((refine⟨?_,?_,?_⟩<;>first|with_reducible assumption|go_simp))
  (first
   |((go_at_call 149;(with_reducible refine(HT1.o W.drew g1.out.drew).mono ?_);rintro x w1⟨rfl,hb⟩;have HB1:=zq ((zAd HB0.o 1).trans (hb.mono HB0.o.size));have HX1:=zq ((HX0.o.drew).below hb);have HZ1:=zq ((HZ0.o.drew).below hb);have g21:=zq ((g2.out.drew).below hb);clear hb;clear a0 a1 a2;obtain⟨a0,a1,a2⟩:=HX1.o.t))
   |((go_at_call 149;(with_reducible refine(HT2.o w1 g21.out).mono ?_);rintro x w2⟨rfl,hb⟩;have HB2:=zq (zAa HB1.o hb);have HX2:=zq (HX1.o.below hb);have HZ2:=zq (HZ1.o.below hb);clear hb;clear a0 a1 a2;obtain⟨a0,a1,a2⟩:=HX2.o.t)))
 have z0:=HZ2.o.c 0 rfl;have z1:=HZ2.o.c 1 rfl;have zf:=HZ2.o.frozen;have zl:=HZ2.o.lt;have hsx:=HX2.o.lt;clear HX0 HZ0 HB0 HX1 HZ1 HB1 g1 g2 g21 HT1 HT2
 cases hl:decide (most<sn.size) || decide (most<sd.size)with
 |true =>
  have HR:Hid (ro=.tuple #[.agg #[.string ⟨#[]⟩,.string ⟨#[]⟩],.bool false]):=by show _=_;rw[HRO.o,aD hl]
  by_cases h1:most<sn.size
  ·have e1:decide (most<sn.size)=true:=aT h1
   clear hl h1;exact ta3
  ·have e1:decide (most<sn.size)=false:=aU h1
   rw[e1,Bool.false_or]at hl;clear h1;exact ta3
 |false =>
  have HR:Hid (ro=.tuple #[.agg #[.string sn,.string sd],.bool true]):=by show _=_;rw[HRO.o,aW (by rw[hl];simp)]
  rw[bH]at hl;obtain⟨e1,e2⟩:=hl;go_wp2;refine aC (v:=.tuple #[.agg #[.string sn,.string sd],.bool true]) (by simp[results,Tryz.results84,go_sem,z0,z1]) rfl ⟨by rw[HR.o],(HB2.o.setCell zd _).setCell zd _⟩
def GivesP(g:Nat)(f:zAV)(w:World)(e:Ending)(w':World):Prop:=e=.returned (.tuple #[])/\zAy w' g f/\w.grownBy w' (some g)
def zCj(q:Rat)(w:World)(e:Ending)(w':World):Prop:=zCa false q.num.natAbs q.den w e w'
theorem sgn_zero(q:Rat)(h:q=0):sgnI false q.num.natAbs=0:=by subst h;rfl
theorem sgn_pos(q:Rat)(h:q≠0):sgnI false q.num.natAbs=1:=by
 unfold sgnI;have:q.num.natAbs≠0:=fun e=>h (Rat.num_eq_zero.1 za)
 simp[this]
theorem put_c(g:Nat)(f:zAV)(p:BA)(A A2:Option Addr)(c c2:Nat)(q:Rat)(w:World)(hp:zAy w g f)(h:Nt w A c q.num.natAbs)(h2:Nt w A2 c2 q.den): Calls Tryz.prog 79 #[.map (some g),.string p,raV false A c q.num.natAbs A2 c2 q.den] w (GivesP g (upH f p q) w):=by
 have HX:Hid (Bx (w.alloc (.cells (raC A c q.num.natAbs A2 c2 q.den) 86)) w.heap.size (raC A c q.num.natAbs A2 c2 q.den) 86):=Bx.new _ _ _;have HB:Hid (Below w.heap.size w (w.alloc (.cells (raC A c q.num.natAbs A2 c2 q.den) 86))):=(aJ _ _).alloc (aE _) _;obtain⟨W,hW⟩:∃W,W=w.alloc (.cells (raC A c q.num.natAbs A2 c2 q.den) 86):=⟨_,rfl⟩;rw[<-hW]at HX HB;have HPM:=zq (hp.below HB.o);have HNV:Hid (NumV W (raV false A c q.num.natAbs A2 c2 q.den) q):=⟨A,c,A2,c2,rfl,h.below HB.o,h2.below HB.o⟩;have HS:=zq (RSign_c false A A2 c c2 q.num.natAbs q.den W);clear hp h h2
 go_enter Tryz.func79,Tryz.ntmps79;(go_upto_region 1 with fail);rw[<-hW];clear hW;obtain⟨a0,a1,a2⟩:=HX.o.t;have hsx:=HX.o.lt;(go_wp2_with fail);(with_reducible refine HS.o.mono ?_);rintro e w1⟨rfl,hb1⟩;have HX1:=zq (HX.o.below hb1);have HB1:=zq (zAa HB.o hb1);have HPM1:=zq (HPM.o.below hb1);have HNV1:=zq (HNV.o.below hb1);clear a0 a1 a2 hsx hb1 HX HB HPM HNV HS
 by_cases hq:q=0
 ·have hs:=sgn_zero q hq
  obtain⟨w2,hr,hp2,hg2,hs2⟩:=run_del HPM1.o p 0;have HG:Hid (w.grownBy w2 (some g)):=(zAG HB1.o _).trans hg2;have HP2:Hid (zAy w2 g (upH f p q)):=by rw[hq];exact hp2
  exact tbn
 ·have hs:=sgn_pos q hq
  obtain⟨w2,hr,hp2,hg2,hs2⟩:=run_put HPM1.o p _ q HNV1.o hq;have HG:Hid (w.grownBy w2 (some g)):=(zAG HB1.o _).trans hg2;have HP2:=zq hp2;obtain⟨a0,a1,a2⟩:=HX1.o.t;have hsx:=HX1.o.lt;exact tbn
theorem zRatV(w:World):(zeroValue 86).run Tryz.prog w=.ok (.agg zBj) w:=zb
theorem of_c(g:Nat)(f:zAV)(p:BA)(w:World)(hp:zAy w g f):Calls Tryz.prog 34 #[.map (some g),.string p] w (zCj (f p) w):=by
 have HZ:Hid (Bx (w.alloc (.cells zBj 86)) w.heap.size zBj 86):=Bx.new _ _ _;have HB:Hid (Below w.heap.size w (w.alloc (.cells zBj 86))):=(aJ _ _).alloc (aE _) _;obtain⟨W,hW⟩:∃W,W=w.alloc (.cells zBj 86):=⟨_,rfl⟩;rw[<-hW]at HZ HB;obtain⟨F,hF,hFp⟩:=(hp.below HB.o).is;have hlk:=zAp tMapP kStr zRatV hF p true;have HWH:Hid (∀W,Calls Tryz.prog 49 #[.int .i64 0] W (zCa false 0 1 W)):=fun W=>Whole_c 0 W za
 clear hp hF
 rcases hFp p with ⟨h0,hN⟩|⟨h0,v,hN,A,c,A2,c2,rfl,h1,h2⟩
 ·rw[hN]at hlk
  simp only[if_true,Option.getD_none,eD]at hlk;have HE:=zq h0;clear hN hFp h0
  go_enter Tryz.func34,Tryz.ntmps34;(go_upto_region 1 with fail);rw[<-hW];clear hW;(go_wp2_with fail);(with_reducible refine(HWH.o _).mono ?_);rintro e w2⟨A,c,A2,c2,rfl,h1,h2,hb2⟩;have hba:Below W.heap.size W (W.alloc (.cells zBj 86)):=(aJ _ _).alloc (aE _) _;have HZ2:=zq (HZ.o.below (zAa hba hb2));have HB2:=zq (zAa HB.o (zAa hba hb2));have H1:=zq h1;have H2:=zq h2;have zf:=HZ2.o.frozen;have zl:=HZ2.o.lt;obtain⟨z0,z1,z2⟩:=HZ2.o.t;clear hba hb2 h1 h2;go_wp2;refine aC (v:=raV false A c 0 A2 c2 1) (by simp[results,Tryz.results34,go_sem,z0,z1,z2]) rfl ?_;unfold zCj;rw[HE.o];exact⟨A,c,A2,c2,rfl,H1.o.setR HZ2.o _ _ _,H2.o.setR HZ2.o _ _ _,((HB2.o.setCell zd _).setCell zd _).setCell zd _⟩
 ·rw[hN]at hlk
  simp only[if_true,eE,Option.isSome_some]at hlk;clear hN hFp h0;have H1:=zq h1;have H2:=zq h2;have zf:=HZ.o.frozen;have zl:=HZ.o.lt;obtain⟨z0,z1,z2⟩:=HZ.o.t;clear h1 h2
  go_enter Tryz.func34,Tryz.ntmps34;(go_upto_region 1 with fail);rw[<-hW];clear hW;go_wp2;refine aC (v:=raV false A c (f p).num.natAbs A2 c2 (f p).den) (by simp[results,Tryz.results34,go_sem,z0,z1,z2,zl]) rfl ?_;have hW:=HB.o.size;exact⟨A,c,A2,c2,rfl,(H1.o.setR HZ.o _ _ _).alloc _,(H2.o.setR HZ.o _ _ _).alloc _,(((HB.o.setCell zd _).setCell zd _).setCell zd _).alloc ze _⟩
theorem tooB_long(q:Rat):tooB q.num.natAbs q.den 2000=zDg q:=by
 unfold tooB zDg;rw[digB_size,digB_size]
 have key:∀n:Nat,decide (2000<(Lib.decDigits n).length)=decide (10^2000<=n):=fun n=>by
  have:=dig_len n 2000 za;rw[bD,eW,eW];omega
 rw[key,key]
theorem longQ_zero:zDg 0=false:=by
 unfold zDg;have e1:(0:Rat).num=0:=rfl;have e2:(0:Rat).den=1:=rfl;rw[e1,e2];have:1<10^2000:=by obtain⟨b,hb⟩:∃b,b=2000:=⟨_,rfl⟩;rw[<-hb];exact Nat.one_lt_pow za zc
 simp only[Int.natAbs_zero,bH,decide_eq_false_iff_not];omega
theorem anyLong_iff{K:List BA}{f:zAV}(hk:HoldOk K f):zCR K f=true↔∃p,zDg (f p)=true:=by
 unfold zCR;rw[eH]
 constructor
 ·rintro⟨p,_,h⟩;exact⟨p,h⟩
 ·rintro⟨p,h⟩
  refine⟨p,?_,h⟩
  refine eR fun hn=>?_
  rw[hk.out p hn,longQ_zero]at h
  cases h
theorem pr_nocell{w:World}{it r:Nat}{L R:List (BA×Value)}(h:zBu Value.string w it r L R)(o:Nat):w.cell? ⟨it,o,none⟩=none:=by
 obtain⟨es,clk,since,c0,seen,_,_,_,_,_,h6,_⟩:=h;exact no_iter_cell h6 o
def LgR(w:World)(g:Nat)(f:zAV)(L:List (BA×Value))(m:Nat)(wr:World):Prop:=
 ∃R:List (BA×Value),R.length=m/\zBu Value.string wr w.heap.size g L R/\(∀x∈L,x∈R\/zDg (f x.1)=false)/\(∀p v,(p,v)∈L->NumV wr v (f p))/\Below w.heap.size w wr
theorem str_inj:∀a b:BA,Value.string a=Value.string b->a=b:=fun _ _ h=>by injection h
theorem large_c(g:Nat)(K:List BA)(f:zAV)(w:World)(hp:zAy w g f)(hk:HoldOk K f)(hsz:∀p,SzQ 100000000 (f p)):Calls Tryz.prog 83 #[.map (some g)] w (zAg (.bool (zCR K f)) w):=by
 obtain⟨L,h1,h2,h3⟩:=hp;obtain⟨o,hrun,hpr⟩:=zBu.start tMapP h1;have hgl:=h1.lt;have HPR:=zq hpr;have HB0:Hid (Below w.heap.size w (w.alloc o)):=(aJ _ _).alloc (aE _) _;have HN0:Hid (∀p v,(p,v)∈L->NumV (w.alloc o) v (f p)):=fun p v hpv=>(h3 p v hpv).below HB0.o
 have HSZ:=zq hsz;have HK:=zq hk;have H2:=zq h2;obtain⟨res,hres⟩:∃res,res=zCR K f:=⟨_,rfl⟩;rw[<-hres];have HRE:=zq hres;clear h1 h2 h3 hpr hsz hk hres
 go_enter Tryz.func83,Tryz.ntmps83;go_wp2;clear hrun
 go_loopg[] L.length (LgR w g f L)
 case atStart=>exact⟨L,rfl,HPR.o,fun x hx=>.inl hx,HN0.o,HB0.o⟩
 clear HPR HN0 HB0
 case round =>
  obtain⟨R,hm,hpr,hall,hnv,hb⟩:=hrel;have HM:=zq hm;have HALL:=zq hall;have HNV:=zq hnv;have HB:=zq hb;have HPR:=zq hpr;clear hm hall hnv hb hpr
  rcases zBu.next (P:=Tryz.prog) HPR.o str_inj za 0 with ⟨hR,hnx⟩|⟨x,R',w',hperm,hxL,hnx,hen,hpr',hg',hs'⟩
  ·have HF:Hid (false=res):=by
    show _=_
    rw[HRE.o]
    cases ha:zCR K f with
    |false=>rfl
    |true =>
     exfalso;obtain⟨p,hp⟩:=(anyLong_iff HK.o).1 ha;have hne:f p≠0:=fun e=>by rw[e,longQ_zero]at hp;cases hp
     obtain⟨v,hv⟩:=(H2.o p).1 hne
     rcases HALL.o _ hv with h|h
     ·rw[hR]at h;cases h
     ·rw[hp]at h;cases h
   clear hR;go_wp2;go_ret
   exact zAg.mk (by rw[HF.o];rfl) HB.o
  ·obtain⟨p,v⟩:=x
   obtain⟨A,c,A2,c2,e,n1,n2⟩:=HNV.o p v hxL;subst e;have HNV1:Hid (∀p v,(p,v)∈L->NumV w' v (f p)):=fun p v hpv=>(HNV.o p v hpv).grown hg' (pr_nocell HPR.o)
   have HB1:=zq (zDp HB.o HB.o.size hg' (aE _));have HPR1:=zq hpr';have HPM:=zq hperm;have HXL:=zq hxL;have hba:Below w'.heap.size w' (w'.alloc (.cells (raC A c (f p).num.natAbs A2 c2 (f p).den) 86)):=(aJ _ _).alloc (aE _) _;have HBA:=zq hba;obtain⟨A',c',A2',c2',e',m1,m2⟩:=HNV1.o p _ hxL
   injection e' with e'
   injection e' with e'
   have e0:=bX (fun l:List Value=>l[1]?) e';have e1:=bX (fun l:List Value=>l[2]?) e';simp only[List.getElem?_cons_succ,List.getElem?_cons_zero,aI,Value.slice.injEq,true_and]at e0 e1;obtain⟨rfl,rfl⟩:=e0;obtain⟨rfl,rfl⟩:=e1
   have HRT:Hid (Calls Tryz.prog 84 #[raV false A c (f p).num.natAbs A2 c2 (f p).den,.int .i64 2000] (w'.alloc (.cells (raC A c (f p).num.natAbs A2 c2 (f p).den) 86)) (zAg (raOut (f p).num.natAbs (f p).den 2000) (w'.alloc (.cells (raC A c (f p).num.natAbs A2 c2 (f p).den) 86)))):=
    Ratio_c A A2 c c2 (f p).num.natAbs (f p).den 2000 _ (m1.below hba) (m2.below hba) (HSZ.o p).1.1 (HSZ.o p).2.1
   have HTL:=zq (tooB_long (f p));have HRO:Hid (raOut (f p).num.natAbs (f p).den 2000=if tooB (f p).num.natAbs (f p).den 2000=true then .tuple #[.agg #[.string ⟨#[]⟩,.string ⟨#[]⟩],.bool false] else .tuple #[.agg #[.string (zCT (f p).num.natAbs),.string (zCT (f p).den)],.bool true]):=rfl;generalize raOut (f p).num.natAbs (f p).den 2000=ro at *;clear hperm hxL hpr' hg' hs' n1 n2 m1 m2 hba e';(go_wp2_with fail);(with_reducible refine HRT.o.mono ?_);rintro e w2⟨rfl,hb2⟩;have HB2:=zq (zAa HBA.o hb2);clear hb2 HRT
   cases hq:zDg (f p)with
   |true =>
    have hro:ro=.tuple #[.agg #[.string ⟨#[]⟩,.string ⟨#[]⟩],.bool false]:=by rw[HRO.o,aD (HTL.o.trans hq)]
    have HF:Hid (true=res):=by
     show _=_
     rw[HRE.o];exact((anyLong_iff HK.o).2 ⟨p,hq⟩).symm
    have HB3:=zq (HB1.o.trans (HB2.o.mono HB1.o.size));subst hro;clear hq;go_wp2;go_ret
    exact zAg.mk (by rw[HF.o];rfl) (HB3.o.alloc HB3.o.size _)
   |false =>
    have hro:ro=.tuple #[.agg #[.string (zCT (f p).num.natAbs),.string (zCT (f p).den)],.bool true]:=by rw[HRO.o,aW (by rw[HTL.o,hq];simp)]
    have HLQ:=zq hq;subst hro;clear hq;have HB3:=zq (HB2.o.alloc HB2.o.size (.cells #[.string (zCT (f p).num.natAbs),.string (zCT (f p).den)] 36));go_wp2
    go_roundg R'.length
    case measure=>have h1:=HPM.o.length_eq;have h2:=HM.o;rw[bP]at h1;omega
    case rel =>
     refine⟨R',rfl,HPR1.o.below HB3.o,fun y hy=>?_,fun p v hpv=>(HNV1.o p v hpv).below HB3.o,HB1.o.trans (HB3.o.mono HB1.o.size)⟩
     rcases HALL.o y hy with h|h
     ·rcases List.mem_cons.1 (HPM.o.mem_iff.1 h)with h|h
      ·exact .inr (by rw[h];exact HLQ.o)
      ·exact .inl h
     ·exact .inr h
theorem szN_le{k n m:Nat}(h:SzN k m)(hn:n<=m):SzN k n:=⟨dC (zAI zAn hn) h.1,dC (zAI BT_gt hn) h.2⟩
theorem szQ_le{q:Rat}{M k:Nat}(h0:0<=q)(h1:q<=1)(hd:q.den∣M)(hz:M≠0)(hM:SzN k M):SzQ k q:=by
 have h2:=(Rat.le_iff q 1).1 h1;have h3:=Rat.num_nonneg.2 h0;have h4:=Nat.le_of_dvd (Nat.pos_of_ne_zero hz) hd;have h5:q.num<=q.den:=by simpa using h2
 exact⟨szN_le hM za,szN_le hM h4⟩
theorem HoldB.sz{N:List BA}{M k:Nat}{f:zAV}(h:HoldB N M f)(hM:SzN k M)(p:BA):SzQ k (f p):=szQ_le (h.ok.pos p) (h.le p) (h.den p) h.nz hM
theorem posB_neg{nu:BA}(h:posB nu=true):negB nu=false:=by
 unfold posB at h
 cases hn:negB nu with
 |false=>rfl
 |true=>rw[hn]at h;simp at h
theorem sgB_pos{nu:BA}(h:posB nu=true):sgB nu=false:=by unfold sgB;rw[posB_neg h];rfl
theorem ratQ_sz{nu de:BA}(h:ratF nu de=0):SzQ 2000 (zCY nu de):=by
 have e:=ratF_prQ h;obtain⟨h1,h2,h3,h4,h5⟩:=zCv h;have e1:zAD (zBe nu)=(zCY nu de).num.natAbs:=bX Prod.fst e;have e2:zAD de=(zCY nu de).den:=bX Prod.snd e
 have key:∀s:BA,numB s=true->s.size<=2000->zAD s<10^2000:=fun s hs hl=>by
  exact ta8
 exact⟨by rw[<-e1];exact szN_of (key _ h1 h4),by rw[<-e2];exact szN_of (key _ h2 h5)⟩
theorem FromQ_c(nu de:BA)(w:World)(h:ratF nu de=0)(hp:posB nu=true):Calls Tryz.prog 80 #[.agg #[.string nu,.string de]] w (zCj (zCY nu de) w):=by
 obtain⟨h1,h2,h3,h4,h5⟩:=zCv h;have:=From_c nu de w (zBc h1).1 h4 (zBc h2).1 h5;rw[sgB_pos hp]at this;have e:=ratF_prQ h;have e1:zAD (zBe nu)=(zCY nu de).num.natAbs:=bX Prod.fst e;have e2:zAD de=(zCY nu de).den:=bX Prod.snd e;rw[e1,e2]at this;exact this
section
variable (A A2 A3 A4:Option Addr) (c c2 c3 c4:Nat) (a b:Rat) (w:World)
theorem MulQ_c(h:Nt w A c a.num.natAbs)(h2:Nt w A2 c2 a.den)(h3:Nt w A3 c3 b.num.natAbs)(h4:Nt w A4 c4 b.den)(ha:0<=a)(hb:0<=b)(sa:SzQ 100000000 a)(sb:SzQ 100000000 b): Calls Tryz.prog 148 #[raV false A c a.num.natAbs A2 c2 a.den,raV false A3 c3 b.num.natAbs A4 c4 b.den] w (zCj (a*b) w):=by
 have:=RMul_c A A2 A3 A4 c c2 c3 c4 a.num.natAbs a.den b.num.natAbs b.den w h h2 h3 h4 sa.1.1 sa.2.1 sb.1.1 sb.2.1 (den_q a) (den_q b);rw[show(a.num.natAbs,a.den)=prQ a from rfl,show(b.num.natAbs,b.den)=prQ b from rfl,mulP_q ha hb]at this;exact this
theorem AddQ_c(h:Nt w A c a.num.natAbs)(h2:Nt w A2 c2 a.den)(h3:Nt w A3 c3 b.num.natAbs)(h4:Nt w A4 c4 b.den)(ha:0<=a)(hb:0<=b)(sa:SzQ 100000000 a)(sb:SzQ 100000000 b): Calls Tryz.prog 100 #[raV false A c a.num.natAbs A2 c2 a.den,raV false A3 c3 b.num.natAbs A4 c4 b.den] w (zCj (a+b) w):=by
 have:=RAdd_c A A2 A3 A4 c c2 c3 c4 a.num.natAbs a.den b.num.natAbs b.den w h h2 h3 h4 sa.1.1 sa.2.1 sb.1.1 sb.2.1 (den_q a) (den_q b);rw[show(a.num.natAbs,a.den)=prQ a from rfl,show(b.num.natAbs,b.den)=prQ b from rfl,addP_q ha hb]at this;exact this
theorem SubQ_c(h:Nt w A c a.num.natAbs)(h2:Nt w A2 c2 a.den)(h3:Nt w A3 c3 b.num.natAbs)(h4:Nt w A4 c4 b.den)(hb:0<=b)(hle:b<=a)(sa:SzQ 100000000 a)(sb:SzQ 100000000 b): Calls Tryz.prog 65 #[raV false A c a.num.natAbs A2 c2 a.den,raV false A3 c3 b.num.natAbs A4 c4 b.den] w (zCj (a-b) w):=by
 have:=RSub_c A A2 A3 A4 c c2 c3 c4 a.num.natAbs a.den b.num.natAbs b.den w h h2 h3 h4 sa.1.1 sa.2.1 sb.1.1 sb.2.1 (den_q a) (den_q b) (le_q hb hle);rw[show(a.num.natAbs,a.den)=prQ a from rfl,show(b.num.natAbs,b.den)=prQ b from rfl,subP_q hb hle]at this;exact this
end
section
variable {w w':World} {g b:Nat} {f:zAV} {cs:Array Value} {T:TypeId} {A:Option Addr} {l:List Sh}
theorem zAy.ne(h:zAy w g f)(hb:Bx w b cs T):b≠g:=fun e=>by
 obtain⟨L,⟨es,clk,h1,_⟩,_⟩:=h;subst e;unfold Bx at hb;rw[h1]at hb
 cases hb
theorem Bx.parts(hb:Bx w b cs T)(h:zAy w g f)(hg:w.grownBy w' (some g)):Bx w' b cs T:=by
 show w'.heap[b]?=_
 rw[hg.block b hb.lt (by simp;exact h.ne hb)];exact hb
theorem cell_parts{k o:Nat}{v:Value}(h:zAy w g f)(hg:w.grownBy w' (some g))(hc:w.cell? ⟨k,o,none⟩=some v):w'.cell? ⟨k,o,none⟩=some v:=
 hg.cell hc fun e=>by
  injection e with e
  have:=h.nocell o;rw[<-e]at this;rw[this]at hc
  cases hc
theorem Shs.parts(hs:Shs w A l)(h:zAy w g f)(hg:w.grownBy w' (some g)):Shs w' A l:=fun hl=>by
 obtain⟨b,o,e,hc⟩:=hs hl;exact⟨b,o,e,fun i hi=>⟨cell_parts h hg (hc i hi).1,cell_parts h hg (hc i hi).2.1,cell_parts h hg (hc i hi).2.2⟩⟩
theorem Nt.parts{c n:Nat}(hn:Nt w A c n)(h:zAy w g f)(hg:w.grownBy w' (some g)):Nt w' A c n:=by
 refine⟨fun hl=>?_,hn.cap⟩
 obtain⟨b,o,e,hc⟩:=hn.rd hl;exact⟨b,o,e,fun i hi=>cell_parts h hg (hc i hi)⟩
end
end Go.Proofs.YtbbchlpccgkikaaGreatDoor
