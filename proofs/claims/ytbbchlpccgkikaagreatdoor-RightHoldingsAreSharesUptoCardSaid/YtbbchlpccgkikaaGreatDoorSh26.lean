/- Parts of the proof, joined: Classes of leaves: their signs plainly, their rows in memory. Package . -/
import Derived.Test.YtbbchlpccgkikaaGreatDoorSh25
import Derived.Calls
import Derived.Laws.IdiomCopy
import Derived.Lib.SliceRun
import Derived.RunT
import Derived.Listen
import Derived.Ground.SlsfProg
import Derived.Shelf.SlSortCmp.NoneTotal
import Derived.Lib.OwnBridge
set_option maxRecDepth 100000
set_option maxHeartbeats 8000000
namespace Go.Proofs.YtbbchlpccgkikaaGreatDoor
open Go.RowKit Dw
def sgL(rs:List Rg)(th:BA)(i:Nat)(ds:List De):List UInt8:=ds.flatMap fun d=>if zAl d.kd=true/\zCB th d=true then [if lies rs d.ar i=true then 49 else 48] else []
section
variable {rs:List Rg} {th:BA} {i j:Nat} {ds:List De}
theorem sgL_succ{k:Nat}(h:k<ds.length):sgL rs th i (ds.take (k+1))=sgL rs th i (ds.take k)++(if zAl ds[k].kd=true/\zCB th ds[k]=true then [if lies rs ds[k].ar i=true then 49 else 48] else []):=by
 unfold sgL;rw[bA h,List.flatMap_append];simp
theorem sgL_len:(ds:List De)->(sgL rs th i ds).length<=ds.length
 |[]=>aE _
 |d::ds=>by
  have ih:=sgL_len ds;unfold sgL at ih ⊢;rw[bK,dI,bP]
  split<;>simp only[bP,dW]<;>omega
theorem sgL_same:(ds:List De)->sgL rs th i ds=sgL rs th j ds->∀d∈ds,zAl d.kd=true->zCB th d=true->lies rs d.ar i=lies rs d.ar j
 |[],_,d,hd,_,_=>by cases hd
 |a::ds,h,d,hd,hg,hc=>by
  unfold sgL at h;rw[bK,bK]at h;have h2:=List.append_inj h (by split<;>rfl)
  rcases List.mem_cons.1 hd with rfl|hd
  ·have h1:=h2.1
   simp only[hg,hc,and_self,if_true,eA,and_true]at h1
   cases h3:lies rs d.ar i<;>cases h4:lies rs d.ar j<;>rw[h3,h4]at h1<;>first|rfl|(exact absurd h1 zc)
  ·exact sgL_same ds h2.2 d hd hg hc
end
def clsF(sg:Nat->BA)(H:List Nat)(s:BA):Option Value:=(H.findIdx? fun h=>decide (sg h=s)).map fun j:Nat=>Value.int .i64 (j:Int)
theorem clsF_new{sg:Nat->BA}{H:List Nat}{k:Nat}(h:clsF sg H (sg k)=none):(fun s=>if s=sg k then some (Value.int .i64 (H.length:Int)) else clsF sg H s)=clsF sg (H++[k]):=by
 funext s
 unfold clsF at h ⊢;rw[List.findIdx?_append]
 by_cases hs:s=sg k
 ·subst hs
  rw[aD rfl,Option.map_eq_none_iff.1 h];simp
 ·rw[aW hs]
  have:[k].findIdx? (fun h=>decide (sg h=s))=none:=by simp;exact fun e=>hs e.symm
  rw[this];simp
theorem clsF_some{sg:Nat->BA}{H:List Nat}{s:BA}{v:Value}(h:clsF sg H s=some v):∃j,∃hj:j<H.length,v=.int .i64 (j:Int)/\sg H[j]=s:=by
 unfold clsF at h;obtain⟨j,hj,rfl⟩:=Option.map_eq_some_iff.1 h;obtain⟨h1,h2,_⟩:=List.findIdx?_eq_some_iff_getElem.1 hj;exact⟨j,h1,rfl,eU h2⟩
theorem clsF_no{sg:Nat->BA}{H:List Nat}{s:BA}(h:clsF sg H s=none):∀x∈H,sg x≠s:=by
 unfold clsF at h;have h2:=List.findIdx?_eq_none_iff.1 (Option.map_eq_none_iff.1 h);intro x hx e;have:=h2 x hx;rw[aT e]at this
 cases this
def lvs(sg:Nat->BA)(k h:Nat):List Int:=((List.range k).filter fun n:Nat=>decide (sg n=sg h)).map fun n:Nat=>(n:Int)
theorem lvs_succ{sg:Nat->BA}{k h:Nat}:lvs sg (k+1) h=lvs sg k h++(if sg k=sg h then [(k:Int)] else []):=by
 unfold lvs;rw[dP,dQ,aA]
 by_cases e:sg k=sg h
 ·rw[aD e];simp[e]
 ·rw[aW e];simp[e]
theorem lvs_none{sg:Nat->BA}{k h:Nat}(hn:∀n,n<k->sg n≠sg h):lvs sg k h=[]:=by
 unfold lvs;rw[List.map_eq_nil_iff,List.filter_eq_nil_iff];intro n hx e;exact hn n (List.mem_range.1 hx) (eU e)
theorem mem_lvs{sg:Nat->BA}{k h:Nat}{z:Int}:z∈lvs sg k h↔∃n:Nat,z=n/\n<k/\sg n=sg h:=by
 unfold lvs;rw[List.mem_map]
 constructor
 ·rintro⟨n,hn,rfl⟩
  obtain⟨h1,h2⟩:=List.mem_filter.1 hn;exact⟨n,rfl,List.mem_range.1 h1,eU h2⟩
 ·rintro⟨n,rfl,h1,h2⟩
  exact⟨n,List.mem_filter.2 ⟨List.mem_range.2 h1,by simpa using h2⟩,rfl⟩
abbrev eV:Value->List Value:=fun x=>[x]
theorem flatV(l:List Value):l.flatMap eV=l:=by
 induction l with
 |nil=>rfl
 |cons a t ih=>rw[bK,ih];rfl
structure ClsS (W:World) (L r:Nat) (F:BA->Option Value) (v:Value) (vs:List Value) (R:Nat->List Int) (w:World):Prop where
 own:zAs eV 1 w W.heap.size 68 v vs
 rows:RowsI w W.heap.size L vs.length vs.toArray R
 map:zAu Value.string w r F
 rlo:W.heap.size<=r
 llo:L<W.heap.size
 bel:Below W.heap.size W w
section
variable {W w w':World} {L r:Nat} {F:BA→Option Value} {v v':Value} {vs:List Value} {R:Nat→List Int}
theorem ClsS.below(h:ClsS W L r F v vs R w)(hb:Below w.heap.size w w'):ClsS W L r F v vs R w':=
 ⟨h.own.below hb,h.rows.keepT fun g _ hg=>hb.block g (zAh hg),h.map.below hb,h.rlo,h.llo,zAa h.bel hb⟩
theorem ClsS.upd(h:ClsS W L r F v vs R w){F':BA->Option Value}(hm:zAu Value.string w' r F')(hg:w.grownBy w' (some r)):ClsS W L r F' v vs R w':=
 ⟨h.own.grown hg (own_ne_mapJ h.own h.map),h.rows.keepT fun g cs hc=>hg.block g (zAh hc) fun e=>zAi h.map hc (Option.some.inj e),hm,h.rlo,h.llo,h.bel.grown hg h.bel.size fun k hk=>by
  injection hk with hk;rw[<-hk];exact h.rlo⟩
theorem rowsI_snoc{B g1:Nat}(h:RowsI w B g1 vs.length vs.toArray R):RowsI w B g1 (vs++[zAm]).length (vs++[zAm]).toArray (fun x=>if x=vs.length then [] else R x):=by
 have hget:∀(x:Nat)(u:Value),(vs++[zAm]).toArray[x]?=some u->(x=vs.length/\u=zAm)\/(x≠vs.length/\vs.toArray[x]?=some u):=fun x u hu=>by
  rw[List.getElem?_toArray]at hu
  by_cases e:x<vs.length
  ·rw[List.getElem?_append_left e]at hu
   exact .inr ⟨za,by rw[List.getElem?_toArray];exact hu⟩
  ·rw[List.getElem?_append_right za]at hu
   obtain⟨h1,h2⟩:=List.getElem?_eq_some_iff.1 hu;have:x=vs.length:=by simp at h1;omega
   subst this;exact .inl ⟨rfl,qk⟩
 refine⟨zd,fun x u hu=>?_,fun x u hu=>?_,fun x y u t hxy hu ht=>?_⟩
 ·rcases hget x u hu with ⟨rfl,rfl⟩|⟨hne,hu⟩
  ·rw[aD rfl];exact zAs.nil _ _ _ _ _
  ·rw[aW hne];exact h.own x u hu
 ·rcases hget x u hu with ⟨rfl,rfl⟩|⟨hne,hu⟩
  ·simp[Value.ownBlock]
  ·exact h.ne1 x u hu
 ·rcases hget x u hu with ⟨rfl,rfl⟩|⟨hne,hu⟩
  ·exact .inl rfl
  ·rcases hget y t ht with ⟨rfl,rfl⟩|⟨hne2,ht⟩
   ·cases hb:u.ownBlock with
    |none=>exact .inl rfl
    |some q=>exact .inr (by simp[Value.ownBlock])
   ·exact h.sep x y u t hxy hu ht
theorem ClsS.snoc(h:ClsS W L r F v vs R w)(ho:zAs eV 1 w' W.heap.size 68 v' (vs++[zAm]))(hg:w.grownBy w' v.ownBlock):ClsS W L r F v' (vs++[zAm]) (fun x=>if x=vs.length then [] else R x) w':=
 ⟨ho,rowsI_snoc (h.rows.keepT fun g cs hc=>hg.block g (zAh hc) fun e=>by
   obtain⟨_,cs2,hc2⟩:=zAM h.own e.symm;exact zAA hc hc2 zc rfl),
  h.map.keep (hg.block r h.map.lt fun e=>by
   obtain⟨_,cs2,hc2⟩:=zAM h.own e.symm;exact zAi h.map hc2 rfl),h.rlo,h.llo,h.bel.grown hg h.bel.size (own_base h.own)⟩
theorem ClsS.put{g c j:Nat}{u u':Value}{m:Int}(h:ClsS W L r F (.slice (some ⟨g,0,none⟩) vs.length c) vs R w)(hj:vs[j]?=some u)(hg:w.grownBy w' u.ownBlock)(ho:zAs encI 1 w' W.heap.size 3 u' (R j++[m]))(hat:u'.ownBlock=u.ownBlock\/u'.ownBlock=some w.heap.size):ClsS W L r F (.slice (some ⟨g,0,none⟩) vs.length c) (vs.set j u') (fun x=>if x=j then R j++[m] else R x) (w'.setCell ⟨g,j,none⟩ u'):=by
 have hjA:vs.toArray[j]?=some u:=by rw[List.getElem?_toArray];exact hj
 have hu:=h.rows.own j u hjA;have hrow:=h.rows.push hjA (aB h.llo h.bel.size) hg ho hat;have hown:zAs eV 1 w' W.heap.size 68 (.slice (some ⟨g,0,none⟩) vs.length c) vs:=h.own.grown hg (zBR h.own hu zc);have hb':Below W.heap.size W w':=h.bel.grown hg h.bel.size (own_base hu)
 have hm':zAu Value.string w' r F:=h.map.keep (hg.block r h.map.lt fun e=>by
  obtain⟨_,cs2,hc2⟩:=zAM hu e.symm;exact zAi h.map hc2 rfl)
 obtain⟨hlo,cs,hcs⟩:=zAM hown (g:=g) rfl;have hst:=(dM (xs:=vs.flatMap eV) hown j u').1;have hfl:=flatV;rw[hfl]at hst;refine⟨?_,?_,hm'.keep (cW _ _ _ _ (fun e=>zAi hm' hcs e.symm)),h.rlo,h.llo,hb'.setCell hlo _⟩
 ·unfold zAs
  rw[hfl,aF];exact hst
 ·have:=hrow.keepT (w':=w'.setCell ⟨g,j,none⟩ u') fun q cs2 hc=>cW _ _ _ _ (zAA hc hcs zc)
  rw[aF,<-cV];exact this
end
structure FactsC (sg:Nat->BA) (nl k:Nat) (H:List Nat) (vs:List Value) (R:Nat->List Int):Prop where
 len:vs.length=H.length
 hk:H.length<=k
 lt:∀h∈H,h<nl
 rl:∀q,q<H.length->(R q).length<=k
 hd:∀q (h:q<H.length),(R q).head?=some (H[q]:Int)
 cov:∀n,n<k->∃h∈H,sg h=sg n
 all:∀q (h:q<H.length),R q=lvs sg k H[q]
 dis:∀p q (hp:p<H.length) (hq:q<H.length),sg H[p]=sg H[q]->p=q
structure FactsK (sg:Nat->BA) (nl k j:Nat) (H:List Nat) (vs:List Value) (R:Nat->List Int):Prop where
 len:vs.length=H.length
 hj:j<H.length
 hk:H.length<=k+1
 lt:∀h∈H,h<nl
 rl:∀q,q<H.length->(R q).length<=k
 hd:∀q (h:q<H.length),(if q=j then R j++[(k:Int)] else R q).head?=some (H[q]:Int)
 cov:∀n,n<k+1->∃h∈H,sg h=sg n
 all:∀q (h:q<H.length),(if q=j then R j++[(k:Int)] else R q)=lvs sg (k+1) H[q]
 dis:∀p q (hp:p<H.length) (hq:q<H.length),sg H[p]=sg H[q]->p=q
section
variable {sg:Nat→BA} {nl k j:Nat} {H:List Nat} {vs:List Value} {R:Nat→List Int}
theorem FactsC.zero:FactsC sg nl 0 [] [] R:=⟨rfl,aE _,fun _ h=>(eZ h).elim,fun _ h=>absurd h (dF _),fun _ h=>absurd h (dF _),fun _ h=>absurd h (dF _),fun _ h=>absurd h (dF _),fun _ _ h=>absurd h (dF _)⟩
theorem FactsC.old(h:FactsC sg nl k H vs R)(hj:j<H.length)(hs:sg H[j]=sg k):FactsK sg nl k j H vs R:=
 ⟨h.len,hj,Nat.le_succ_of_le h.hk,h.lt,h.rl,fun q hq=>by
  by_cases e:q=j
  ·subst e
   rw[aD rfl,List.head?_append,h.hd q hq];rfl
  ·rw[aW e];exact h.hd q hq,fun n hn=>by
  rcases aQ n k with h1|h1
  ·exact h.cov n h1
  ·obtain rfl:n=k:=by omega
   exact⟨_,bI hj,hs⟩,fun q hq=>by
  rw[lvs_succ]
  by_cases e:q=j
  ·subst e
   rw[aD rfl,aD hs.symm,h.all q hq]
  ·rw[aW e,aW (fun e2=>e (h.dis q j hq hj (by rw[hs];exact e2.symm))),bE]
   exact h.all q hq,h.dis⟩
theorem FactsC.new(h:FactsC sg nl k H vs R)(hk:k<nl)(hl:vs.length=H.length)(hn:∀x∈H,sg x≠sg k):FactsK sg nl k H.length (H++[k]) (vs++[zAm]) (fun x=>if x=vs.length then [] else R x):=
 ⟨by simp[h.len],zd,by have:=h.hk;simp;omega,fun x hx=>by
  rcases List.mem_append.1 hx with hx|hx
  ·exact h.lt x hx
  ·rw[List.mem_singleton.1 hx];exact hk,fun q hq=>by
  by_cases e:q=vs.length
  ·rw[aD e];simp
  ·rw[aW e];exact h.rl q (by simp at hq;omega),fun q hq=>by
  by_cases e:q=H.length
  ·subst e
   rw[aD rfl,aD hl.symm];simp
  ·have hq2:q<H.length:=by simp at hq;omega
   rw[aW e,aW za,h.hd q hq2,eY hq2],fun n hn=>by
  rcases aQ n k with h1|h1
  ·obtain⟨x,hx,e⟩:=h.cov n h1
   exact⟨x,List.mem_append_left _ hx,e⟩
  ·obtain rfl:n=k:=by omega
   exact⟨n,zd,rfl⟩,fun q hq=>by
  rw[lvs_succ]
  by_cases e:q=H.length
  ·subst e
   have hz:lvs sg k k=[]:=lvs_none fun n hn2 e2=>by
    obtain⟨x,hx,ex⟩:=h.cov n hn2;exact hn x hx (ex.trans e2)
   rw[aD rfl,aD hl.symm];simp[hz]
  ·have hq2:q<H.length:=by simp at hq;omega
   rw[aW e,aW za,eY hq2,aW (fun e2=>hn _ (bI hq2) e2.symm),bE];exact h.all q hq2,fun p q hp hq e=>by
  simp only[dI,List.length_singleton]at hp hq
  by_cases e1:p<H.length
  ·by_cases e2:q<H.length
   ·rw[eY e1,eY e2]at e
    exact h.dis p q e1 e2 e
   ·rw[eY e1,List.getElem_append_right za]at e
    simp only[List.getElem_singleton]at e;exact absurd e (hn _ (bI e1))
  ·by_cases e2:q<H.length
   ·rw[eY e2,List.getElem_append_right za]at e
    simp only[List.getElem_singleton]at e;exact absurd e.symm (hn _ (bI e2))
   ·omega⟩
theorem FactsK.done(h:FactsK sg nl k j H vs R)(u:Value):FactsC sg nl (k+1) H (vs.set j u) (fun x=>if x=j then R j++[(k:Int)] else R x):=
 ⟨by rw[aF];exact h.len,h.hk,h.lt,fun q hq=>by
  by_cases e:q=j
  ·rw[aD e,dI,List.length_singleton];have:=h.rl j h.hj;omega
  ·rw[aW e];have:=h.rl q hq;omega,h.hd,h.cov,h.all,h.dis⟩
end
def ClsIs(w:World)(v:Value)(H:List Nat):Prop:=∃A c,v=.slice A H.length c/\(0<H.length->∃g,A=some ⟨g,0,none⟩/\∀j (h:j<H.length),∃gj nj cj,w.cell? ⟨g,j,none⟩=some (.slice (some ⟨gj,0,none⟩) nj cj)/\0<nj/\w.cell? ⟨gj,0,none⟩=some (.int .i64 (H[j]:Int)))
theorem ClsIs.below{w w':World}{v:Value}{H:List Nat}(h:ClsIs w v H)(hb:Below w.heap.size w w'):ClsIs w' v H:=by
 obtain⟨A,c,hv,hr⟩:=h;refine⟨A,c,hv,fun h0=>?_⟩;obtain⟨g,hA,hc⟩:=hr h0;refine⟨g,hA,fun j hj=>?_⟩;obtain⟨gj,nj,cj,h1,h2,h3⟩:=hc j hj;exact⟨gj,nj,cj,zAe hb h1,h2,zAe hb h3⟩
theorem ClsS.is{W w:World}{L r:Nat}{F:BA->Option Value}{v:Value}{vs:List Value}{R:Nat->List Int}{sg:Nat->BA}{nl k:Nat}{H:List Nat}(h:ClsS W L r F v vs R w)(hf:FactsC sg nl k H vs R):ClsIs w v H:=by
 obtain⟨A,c,rfl,hr⟩:=h.own.rdk;refine⟨A,c,by rw[hf.len],fun h0=>?_⟩;obtain⟨g,cap,hv⟩:=zCd h.own (by rw[hf.len];exact h0)
 injection hv with hv _ _
 subst hv;refine⟨g,rfl,fun j hj=>?_⟩;have hjv:j<vs.length:=by rw[hf.len];exact hj
 have hown:=h.rows.own j vs[j] (by rw[List.getElem?_toArray];exact List.getElem?_eq_getElem hjv);have hhd:=hf.hd j hj
 have h0:0<(R j).length:=by
  cases hR:R j with
  |nil=>rw[hR]at hhd;cases hhd
  |cons _ _=>simp
 obtain⟨gj,cj,hvj⟩:=zCd hown h0;refine⟨gj,(R j).length,cj,?_,h0,?_⟩
 ·rw[dK (xs:=vs.flatMap eV) h.own j za,flatV,List.getElem?_eq_getElem hjv,hvj]
 ·rw[hvj]at hown
  rw[dK (xs:=(R j).flatMap encI) hown 0 za,flat1 (f:=fun z:Int=>Value.int .i64 z),List.getElem?_map,<-List.head?_eq_getElem?,hhd]
  rfl
def ClsAll(w:World)(v:Value)(H:List Nat)(sg:Nat->BA)(nl:Nat):Prop:=∃A c,v=.slice A H.length c/\(0<H.length->∃g,A=some ⟨g,0,none⟩/\∀j (h:j<H.length),∃gj cj,w.cell? ⟨g,j,none⟩=some (.slice (some ⟨gj,0,none⟩) (lvs sg nl H[j]).length cj)/\∀i (hi:i<(lvs sg nl H[j]).length),w.cell? ⟨gj,i,none⟩=some (.int .i64 (lvs sg nl H[j])[i]))
theorem ClsAll.below{w w':World}{v:Value}{H:List Nat}{sg:Nat->BA}{nl:Nat}(h:ClsAll w v H sg nl)(hb:Below w.heap.size w w'):ClsAll w' v H sg nl:=by
 obtain⟨A,c,hv,hr⟩:=h;refine⟨A,c,hv,fun h0=>?_⟩;obtain⟨g,hA,hc⟩:=hr h0;refine⟨g,hA,fun j hj=>?_⟩;obtain⟨gj,cj,h1,h2⟩:=hc j hj;exact⟨gj,cj,zAe hb h1,fun i hi=>zAe hb (h2 i hi)⟩
theorem ClsS.all{W w:World}{L r:Nat}{F:BA->Option Value}{v:Value}{vs:List Value}{R:Nat->List Int}{sg:Nat->BA}{nl:Nat}{H:List Nat}(h:ClsS W L r F v vs R w)(hf:FactsC sg nl nl H vs R):ClsAll w v H sg nl:=by
 obtain⟨A,c,rfl,hr⟩:=h.own.rdk;refine⟨A,c,by rw[hf.len],fun h0=>?_⟩;obtain⟨g,cap,hv⟩:=zCd h.own (by rw[hf.len];exact h0)
 injection hv with hv _ _
 subst hv;refine⟨g,rfl,fun j hj=>?_⟩;have hjv:j<vs.length:=by rw[hf.len];exact hj
 have hown:=h.rows.own j vs[j] (by rw[List.getElem?_toArray];exact List.getElem?_eq_getElem hjv);have hhd:=hf.hd j hj
 have h0:0<(R j).length:=by
  cases hR:R j with
  |nil=>rw[hR]at hhd;cases hhd
  |cons _ _=>simp
 obtain⟨gj,cj,hvj⟩:=zCd hown h0;have hal:=hf.all j hj;refine⟨gj,cj,?_,fun i hi=>?_⟩
 ·rw[<-hal,dK (xs:=vs.flatMap eV) h.own j za,flatV,List.getElem?_eq_getElem hjv,hvj]
 ·have hi2:i<(R j).length:=by rw[hal];exact hi
  rw[hvj]at hown;rw[dK (xs:=(R j).flatMap encI) hown i za,flat1 (f:=fun z:Int=>Value.int .i64 z),List.getElem?_map,List.getElem?_eq_getElem hi2];simp only[hal,aH]
section
variable {rs:List Rg} {us:List BA} {ds:List De} {th party pl use:BA} {day:Int}
end
end Go.Proofs.YtbbchlpccgkikaaGreatDoor
namespace Go.Proofs.YtbbchlpccgkikaaGreatDoor
open Dw
def lfI(rs:List Rg)(n:Nat):Nat:=(zAf rs).getD n 0
structure SameD2 (rs:List Rg) (ds:List De) (i:Nat) (use:BA) (day:Int) (th:BA):Prop where
 lic:∀d∈ds,∀p x,licB rs ds i use (day-1) th p x d=licB rs ds i use day th p x d
 parts:zAt rs ds i th use (day-1) ds.length=zAt rs ds i th use day ds.length
section
variable {rs:List Rg} {us:List BA} {ds:List De} {i j k:Nat} {th use pl party:BA} {day:Int} {d:De}
theorem vB_lies(h:lies rs d.ar i=lies rs d.ar j):vB rs ds i use day d=vB rs ds j use day d:=by unfold vB;rw[h]
theorem conc_th(h1:d.th=th)(h2:d.kd≠4):zCB th d=true:=by unfold zCB;rw[aT h1,aU h2];simp
theorem movB_sg(hs:sgL rs th i ds=sgL rs th j ds)(hd:d∈ds):zCO rs ds i th use day d=zCO rs ds j th use day d:=by
 unfold zCO
 by_cases h1:d.kd=2
 ·rw[aD h1,aD h1]
  by_cases h2:d.th=th
  ·rw[vB_lies (sgL_same ds hs d hd (by rw[h1];rfl) (conc_th h2 (by rw[h1];decide)))]
  ·rw[aU h2];rfl
 ·rw[aW h1,aW h1]
theorem parts_sg(hs:sgL rs th i ds=sgL rs th j ds)(n:Nat):zAt rs ds i th use day n=zAt rs ds j th use day n:=
 parts_congr (fun _ _=>rfl) (fun _ hd=>movB_sg hs hd) n
theorem same_edge(h:edgeB th ds day=false):SameD2 rs ds i use day th:=
 ⟨fun _ hd _ _=>licB_day hd h,parts_congr (fun _ hd=>orgB_day hd h) (fun _ hd=>movB_day hd h) _⟩
theorem edL_mem{x:Int}:x∈edL th ds ds.length↔x=0\/x=200001\/edgeB th ds x=true:=by
 unfold edL edgeB;rw[aG,eQ,eQ,List.mem_flatMap,eH];refine or_congr Iff.rfl (or_congr Iff.rfl ⟨?_,?_⟩)
 ·rintro⟨d,hd,hx⟩
  cases hc:zCB th d with
  |false=>rw[hc]at hx;simp at hx
  |true =>
   rw[hc,aD rfl]at hx;exact⟨d,hd,by rw[hc,Bool.true_and,eH];exact⟨x,hx,aT rfl⟩⟩
 ·rintro⟨d,hd,h⟩
  rw[dN,eH]at h;obtain⟨hc,n,hn,e⟩:=h;have e:=eU e;subst e;exact⟨d,hd,by rw[aD hc];exact hn⟩
theorem dayB_iff:zCF day=true↔0<=day/\day<=200000:=by unfold zCF;simp
end
open Go.RowKit Dw
abbrev sigB(rs:List Rg)(th:BA)(ds:List De)(n:Nat):BA:=⟨(sgL rs th (lfI rs n) ds).toArray⟩
def GivesCls(rs:List Rg)(th:BA)(ds:List De)(w:World)(e:Ending)(w':World):Prop:=
 ∃(v:Value)(H:List Nat),e=.returned v/\ClsIs w' v H/\H.length<=(zAf rs).length/\(∀h∈H,h<(zAf rs).length)/\(∀n,n<(zAf rs).length->∃h∈H,sgL rs th (lfI rs h) ds=sgL rs th (lfI rs n) ds)/\ClsAll w' v H (sigB rs th ds) (zAf rs).length/\(∀p q (hp:p<H.length) (hq:q<H.length),sigB rs th ds H[p]=sigB rs th ds H[q]->p=q)/\Below w.heap.size w w'
def ClR(W:World)(L:Nat)(rs:List Rg)(th:BA)(ds:List De)(nl m:Nat)(ov iv:Value)(wr:World):Prop:=
 ∃(k:Nat)(v:Value)(vs:List Value)(H:List Nat)(R:Nat->List Int),v=ov/\k+m=nl/\iv=.int .i64 (k:Nat)/\ClsS W L W.heap.size (clsF (sigB rs th ds) H) v vs R wr/\FactsC (sigB rs th ds) nl k H vs R
def SgR(W:World)(rs:List Rg)(th:BA)(ds:List De)(i m:Nat)(ov iv:Value)(wr:World):Prop:=
 ∃(j:Nat)(v:Value),v=ov/\j+m=ds.length/\iv=.int .i64 (j:Nat)/\OwnB wr W.heap.size v (sgL rs th i (ds.take j))/\Below W.heap.size W wr
theorem conv_nil(w:World):(convert 217 9 (.slice none 0 0)).run Tryz.prog w=.ok (.string ⟨#[]⟩) w:=zb
theorem conv_own{w:World}{B:Nat}{v:Value}{l:List UInt8}(h:OwnB w B v l):(convert 217 9 v).run Tryz.prog w=.ok (.string ⟨l.toArray⟩) w:=by
 rcases h.2 with ⟨rfl,hn⟩|⟨g,cap,cur,rfl,_⟩
 ·have:l=[]:=List.length_eq_zero_iff.1 hn
  subst this;exact conv_nil w
 ·exact run_convert_bytes_back (P:=Tryz.prog) w 217 9 5 ⟨g,0,none⟩ cap l Tryz.underlying217 Tryz.underlying5 Tryz.underlying9 (fun q hq=>by
   rw[addN,bJ];exact(h.get rfl q hq).1)
theorem insM_cons{rs:List Rg}{d:De}{N:List Bool}(h:insM rs d=true::N):zAl d.kd=true:=by
 unfold insM at h
 cases hg:zAl d.kd with
 |true=>rfl
 |false=>rw[aW (by rw[hg];simp)]at h;cases h
theorem classes_c(RA:Option Addr)(rc:Nat)(rs:List Rg)(UA:Option Addr)(uc:Nat)(us:List BA)(DA:Option Addr)(dc:Nat)(ds:List De)(L:Nat)(th:BA)(w:World)(hl:LgIs RA rc rs UA uc us DA dc ds w L)(hd:Des w DA ds)(hdl:ds.length<=200)(hnl:(zAf rs).length<=200): Calls Tryz.prog 66 #[.pointer (some ⟨L,0,none⟩),.string th] w (GivesCls rs th ds w):=by
 have HLG:=zq hl;have HD:=zq hd;clear hl hd;obtain⟨r1,r2,g1,g2,AL,cL,vr,vi,ins,base,hlx,_,_,hin,hin2,hin3⟩:=HLG.o;have HIN:=zq hin;have HIN2:=zq hin2;have HIN3:=zq hin3;have HLX:=zq hlx;clear hlx hin hin2 hin3;have hLs:L<w.heap.size:=HLX.o.lt;have HB0:Hid (Below w.heap.size w (w.alloc (.map #[] 0))):=(aJ _ _).alloc (aE _) _
 have HC0:Hid (ClsS w L w.heap.size (clsF (sigB rs th ds) []) (.slice none 0 0) [] (fun _=>[]) (w.alloc (.map #[] 0))):=
  ⟨zAs.nil _ _ _ _ _,RowsI.nil _ _ _ 0,zAu.new _ _,aE _,hLs,HB0.o⟩
 obtain⟨W,hW⟩:∃W,W=w.alloc (.map #[] 0):=⟨_,rfl⟩;rw[<-hW]at HC0 HB0;have l5:W.cell? ⟨L,5,none⟩=some (.slice AL (zBF rs (fun i=>!zAB rs i) rs.length).length cL):=(HLX.o.below HB0.o).c 5 rfl;have hsl:L<W.heap.size:=aB hLs HB0.o.size;have hmm:=@run_makeMap Tryz.prog
 go_enter Tryz.func66,Tryz.ntmps66;(go_upto_region 2 with fail);rw[<-hW];clear hW;obtain⟨nl,hnle⟩:∃nl,nl=(zBF rs (fun i=>!zAB rs i) rs.length).length:=⟨_,rfl⟩;rw[<-hnle]at l5;have HNL:Hid (nl=(zAf rs).length):=by show _=_;rw[hnle];unfold zBF zAf;rw[dE]
 have hn2:nl<=200:=by rw[HNL.o];exact hnl
 clear hnle hmm;go_wp2_with fail
 go_loopg[6,20] nl (ClR w L rs th ds nl)
 case atStart=>exact⟨0,_,[],[],fun _=>[],rfl,za,rfl,HC0.o,FactsC.zero⟩
 clear l5 hsl HC0 HB0
 case round =>
  obtain⟨k,v,vs,H,R,rfl,hkm,rfl,hcs,hf⟩:=hrel;have HK:=zq hkm;have HCS:=zq hcs;have HF:=zq hf;clear hkm hcs hf
  by_cases hlt:k<nl
  ·have hsl:L<wr.heap.size:=aB hLs HCS.o.bel.size
   obtain⟨Ai,ci,hvi,hri⟩:=HIN.o.rdk;subst hvi;have l10:wr.cell? ⟨L,10,none⟩=some (.slice Ai ins.length ci):=(HLX.o.below HCS.o.bel).c 10 rfl;have hil:ins.length=ds.length:=by have:=bX List.length HIN2.o;simpa using this
   rw[hil]at l10;have HIL:=zq hil
   have HI:Hid ((zAf rs)[k]?=some (lfI rs k)):=by
    show _=_
    unfold lfI;rw[List.getD_eq_getElem?_getD,List.getElem?_eq_getElem (by rw[<-HNL.o];exact hlt)];rfl
   obtain⟨i,hi⟩:∃i,i=lfI rs k:=⟨_,rfl⟩;have HIE:=zq hi;rw[<-hi]at HI;clear hri hil hi;(go_wp2_with fail);rename World=>w1
   go_loopg[8,28] ds.length (SgR w1 rs th ds i)
   case atStart=>exact⟨0,_,rfl,za,rfl,zAs.nil _ _ _ _ _,aJ _ _⟩
   clear l10 hsl
   case round =>
    obtain⟨j,sv,rfl,hjm,rfl,hsv,hbj⟩:=hrel;have HJ:=zq hjm;have HSV:=zq hsv;have HBJ:=zq hbj;have HBW:=zq (HCS.o.below hbj).bel;have hsl2:(sgL rs th i (ds.take j)).length<=200:=dC (sgL_len _) (dC qe hdl);clear hjm hsv hbj
    by_cases hltj:j<ds.length
    ·obtain⟨ib,io,icap,x,hvi,ci0,hix⟩:=in_at HIN.o HIN2.o HIN3.o hltj
     injection hvi with hAi _ hci
     subst hAi;subst hci;obtain⟨d,hdd⟩:∃d,ds[j]=d:=⟨_,rfl⟩;have HSS:=zq (sgL_succ (rs:=rs) (th:=th) (i:=i) hltj);have HCN:=zq (fun(u:World)(hu:Below w.heap.size w u)=>concerns_c RA rc rs UA uc us DA dc ds L j th u (HLG.o.below hu) (HD.o.below hu) hltj);rw[hdd]at hix HSS HCN;have k0:=zAe HBW.o ci0;clear ci0 hdd
     cases hgv:zAl d.kd with
     |false =>
      have hxn:x=.slice none 0 0:=by
       rcases hix with ⟨h,_⟩|⟨_,_,_,hM,_⟩
       ·exact h
       ·rw[insM_cons hM]at hgv;cases hgv
      subst hxn
      have HN:Hid (OwnB wr w1.heap.size sv (sgL rs th i (ds.take (j+1)))):=by
       show zAs _ _ _ _ _ _ _
       rw[HSS.o,aW (fun h=>by rw[hgv]at h;cases h.1),bE];exact HSV.o
      clear hgv hix;go_wp2
      go_roundg (gk-1)
      case measure=>have:=HJ.o;omega
      case rel=>exact⟨j+1,_,rfl,yi,zi,HN.o,HBJ.o⟩
     |true =>
      obtain⟨go,cg,rfl,hlt2,hgw,hcell⟩:=set_at hgv hix HI.o;have HS0:=zq hcell;have HGV:=zq hgv;generalize (inL rs d.ar).length=gn at *;clear hgv hix hcell hgw;(go_wp2_with fail);(with_reducible refine(HCN.o _ HBW.o).mono ?_);rintro e w3⟨rfl,hb3⟩;have HB3:=zq (zAa HBJ.o hb3);have HSV3:=zq (HSV.o.below hb3);have s0:=zAe hb3 (zAe HBW.o HS0.o);clear hb3 HCN k0
      cases hcb:zCB th d with
      |false =>
       have HN:Hid (OwnB w3 w1.heap.size sv (sgL rs th i (ds.take (j+1)))):=by
        show zAs _ _ _ _ _ _ _
        rw[HSS.o,aW (fun h=>by rw[hcb]at h;cases h.2),bE];exact HSV3.o
       clear hcb;go_wp2
       go_roundg (gk-1)
       case measure=>have:=HJ.o;omega
       case rel=>exact⟨j+1,_,rfl,yi,zi,HN.o,HB3.o⟩
      |true =>
       have HS2:Hid (sgL rs th i (ds.take (j+1))=sgL rs th i (ds.take j)++[if lies rs d.ar i=true then 49 else 48]):=by
        show _=_
        rw[HSS.o,aD ⟨HGV.o,hcb⟩]
       have hw3:w1.heap.size<=w3.heap.size:=HB3.o.size;clear hcb
       cases hli:lies rs d.ar i
       all_goals
        rw[hli]at s0;rw[hli]at HS2;simp only[if_true,eF,if_false]at HS2;clear hli
       ·go_wp2_with (at_builtin;refine zBC _ _ _ elB rfl rfl w1.heap.size sv (sgL rs th i (ds.take j)) rfl (HSV3.o.alloc _) w3.heap.size 1 (48:UInt8) rfl (aK _ _) rfl zt zm za ze ?_;intro A1 c1 w4 hown4 hg4 hb4 hor4)
        exact tao
       ·go_wp2_with (at_builtin;refine zBC _ _ _ elB rfl rfl w1.heap.size sv (sgL rs th i (ds.take j)) rfl (HSV3.o.alloc _) w3.heap.size 1 (49:UInt8) rfl (aK _ _) rfl zt zm za ze ?_;intro A1 c1 w4 hown4 hg4 hb4 hor4)
        exact tao
    ·obtain rfl:j=ds.length:=by have:=HJ.o;omega
     have HSG:Hid (OwnB wr w1.heap.size sv (sgL rs th i ds)):=by have:=HSV.o;rwa [aG]at this
     have HC2:=zq (HCS.o.below HBJ.o);have hcv:=conv_own HSG.o;obtain⟨sk,hsk⟩:∃sk,sk=sigB rs th ds k:=⟨_,rfl⟩;rw[show(⟨(sgL rs th i ds).toArray⟩:BA)=sk by rw[hsk,HIE.o]]at hcv;have hlk:=zAp tMap kStr zInt HC2.o.map sk true;have HSK:=zq hsk;obtain⟨fo,hfo⟩:∃fo,fo=clsF (sigB rs th ds) H sk:=⟨_,rfl⟩;rw[<-hfo]at hlk;have HFO:=zq hfo;simp only[if_true]at hlk;clear hsk hfo HSV HBJ HBW HCS;obtain⟨Av,cv,hv,_⟩:=HC2.o.own.rdk;subst hv;go_upto_if 60 with fail
     go_cut[6,11] (fun ov jv wx=>∃(jj:Nat)(vs':List Value)(H':List Nat)(R':Nat->List Int)(v':Value),v'=ov/\jv=.int .i64 (jj:Nat)/\ClsS w L w.heap.size (clsF (sigB rs th ds) H') v' vs' R' wx/\FactsK (sigB rs th ds) nl k jj H' vs' R')
     case first =>
      cases fo with
      |none =>
       obtain⟨wu,hup,hmu,hgu,hsz⟩:=zAS tMap kStr HC2.o.map sk (.int .i64 (vs.length:Int));clear hsz;have HCU:=zq (HC2.o.upd hmu hgu);have HLEN:=zq HF.o.len;have HONE:Hid (∀u∈eV zAm,u.oneCell'=true):=fun u hu=>by rw[List.mem_singleton.1 hu];rfl
       have hvl:vs.length<=200:=by rw[HLEN.o];have:=HF.o.hk;omega
       have hwu:w.heap.size<=wu.heap.size:=HCU.o.bel.size;clear hmu hgu hlk
       go_wp2_with (at_builtin;refine zBC _ _ _ elInts rfl rfl w.heap.size (.slice Av vs.length cv) vs rfl (HCU.o.own.alloc _) wu.heap.size 1 zAm rfl (aK _ _) rfl HONE.o zm za ze ?_;intro A1 c1 w4 hown4 hg4 hb4 hor4)
       have HC4:=zq ((HCU.o.below ((aJ _ _).alloc (aE _) _)).snoc hown4 hg4);clear hown4 hg4 hb4 hor4 hup;go_meet;refine⟨H.length,vs++[zAm],H++[k],_,_,rfl,by rw[HLEN.o],?_,HF.o.new hlt HLEN.o (by rw[<-HSK.o];exact clsF_no HFO.o.symm)⟩
       have h:=HC4.o;have hn:clsF (sigB rs th ds) H (sigB rs th ds k)=none:=by rw[<-HSK.o];exact HFO.o.symm
       rw[<-clsF_new hn,<-HSK.o,<-HLEN.o];exact h
      |some v0 =>
       obtain⟨jj,hjj,rfl,hsg⟩:=clsF_some HFO.o.symm;clear hlk;go_wp2;go_meet;exact⟨jj,vs,H,R,_,rfl,rfl,HC2.o,HF.o.old hjj (by rw[hsg,HSK.o])⟩
     case rest =>
      obtain⟨jj,vs2,H2,R2,v2,rfl,rfl,hc2,hf2⟩:=hcut;have HC:=zq hc2;have HFK:=zq hf2;have hjv:jj<vs2.length:=by rw[hf2.len];exact hf2.hj
      obtain⟨g,cap,hv⟩:=zCd hc2.own za;subst hv;have hjA:vs2.toArray[jj]?=some vs2[jj]:=by rw[List.getElem?_toArray];exact List.getElem?_eq_getElem hjv
      have HRO:=zq (hc2.rows.own jj _ hjA);have HJA:Hid (vs2[jj]?=some vs2[jj]):=List.getElem?_eq_getElem hjv;have x0:wc.cell? ⟨g,jj,none⟩=some vs2[jj]:=by rw[dK (xs:=vs2.flatMap eV) hc2.own jj za,flatV];exact List.getElem?_eq_getElem hjv
      have HF4:Hid (∀(o:Obj)(w4:World),(wc.alloc o).grownBy w4 (vs2[jj]).ownBlock->w4.frozen? ⟨g,jj,none⟩=false/\w4.cell? ⟨g,jj,none⟩=some vs2[jj]/\g<w4.heap.size):=fun o w4 hg4=>by
       have h1:zAs eV 1 w4 w.heap.size 68 (.slice (some ⟨g,0,none⟩) vs2.length cap) vs2:=(HC.o.own.alloc o).grown hg4 (zBR (HC.o.own.alloc o) (HRO.o.alloc o) zc);exact⟨dL (xs:=vs2.flatMap eV) h1 jj,by rw[dK (xs:=vs2.flatMap eV) h1 jj za,flatV];exact List.getElem?_eq_getElem hjv,(bL h1 g rfl).2⟩
      obtain⟨u,hu⟩:∃u,vs2[jj]=u:=⟨_,rfl⟩;rw[hu]at HRO HJA x0 HF4;clear hjA hu;obtain⟨Au,cu,hvu,_⟩:=HRO.o.rdk;subst hvu;have hrl:(R2 jj).length<=200:=by have:=hf2.rl jj hf2.hj;omega
      have hwc:w.heap.size<=wc.heap.size:=HC.o.bel.size;clear hc2 hf2
      go_wp2_with (at_builtin;refine zBC _ _ _ elInt rfl rfl w.heap.size (.slice Au (R2 jj).length cu) (R2 jj) rfl (HRO.o.alloc _) wc.heap.size 1 (k:Int) rfl (aK _ _) rfl zt zm za ze ?_;intro A1 c1 w4 hown4 hg4 hb4 hor4;obtain⟨f4,z4,hgl4⟩:=HF4.o _ _ hg4)
      have HC5:=zq ((HC.o.below ((aJ _ _).alloc (aE _) (.cells #[.int .i64 (k:Int)] 3))).put HJA.o hg4 hown4 hor4);have HF5:=zq (HFK.o.done (.slice A1 ((R2 jj).length+1) c1));have HV5:Hid ((vs2.set jj (.slice A1 ((R2 jj).length+1) c1)).length=vs2.length):=aF;clear hown4 hg4 hb4 hor4 f4 z4 hgl4 x0
      go_roundg (nl-k-1)
      case measure=>have:=HK.o;omega
      case rel=>exact⟨k+1,_,_,H2,_,rfl,zh,zi,HC5.o,HF5.o⟩
  ·obtain rfl:k=nl:=by have:=HK.o;omega
   go_wp2;go_ret
   refine⟨v,H,rfl,HCS.o.is HF.o,?_,?_,fun n hn=>?_,by rw[<-HNL.o];exact HCS.o.all HF.o,HF.o.dis,HCS.o.bel⟩
   ·rw[<-HNL.o];exact HF.o.hk
   ·intro h hh;rw[<-HNL.o];exact HF.o.lt h hh
   ·obtain⟨h,hh,e⟩:=HF.o.cov n (by rw[HNL.o];exact hn)
    exact⟨h,hh,List.toArray_inj (ByteArray.mk.inj e)⟩
def oArr(n:Nat)(F:Nat->Bool):Array Value:=((List.range n).map fun i=>Value.bool (F i)).toArray
theorem oArr_size(n:Nat)(F:Nat->Bool):(oArr n F).size=n:=by simp[oArr]
theorem oArr_get{n i:Nat}(F:Nat->Bool)(h:i<n):(oArr n F)[i]?=some (.bool (F i)):=by simp[oArr,h]
theorem oArr_0(n:Nat):Array.replicate n (Value.bool false)=oArr n fun _=>false:=by
 apply Array.toList_inj.1
 rw[cX]
 apply dU<;>simp[oArr]
theorem oArr_congr{n:Nat}{F G:Nat->Bool}(h:∀i,i<n->F i=G i):oArr n F=oArr n G:=by
 unfold oArr
 congr 1
 exact List.map_congr_left fun i hi=>by rw[h i (List.mem_range.1 hi)]
theorem oArr_set{n i:Nat}{F G:Nat->Bool}(h:i<n)(hG:∀x,x<n->G x=if x=i then true else F x):(oArr n F).setIfInBounds i (.bool true)=oArr n G:=by
 apply Array.ext_getElem?
 intro x;rw[Array.getElem?_setIfInBounds]
 by_cases hx:i=x
 ·subst hx
  rw[aD rfl,aD (by rw[oArr_size];exact h),oArr_get _ h,hG _ h,aD rfl]
 ·rw[aW hx]
  by_cases hn:x<n
  ·rw[oArr_get _ hn,oArr_get _ hn,hG _ hn,aW (fun e=>hx e.symm)]
  ·rw[Array.getElem?_eq_none (by rw[oArr_size];omega),Array.getElem?_eq_none (by rw[oArr_size];omega)]
theorem oArr_rd{w:World}{g n:Nat}{F:Nat->Bool}{T:TypeId}(h:w.heap[g]?=some (.cells (oArr n F) T (0,0))):Rd1 Value.bool w (some ⟨g,0,none⟩) ((List.range n).map F):=fun _ =>
 ⟨g,0,rfl,fun i hi=>by
  have hi2:i<n:=yf;rw[bJ,aX w g i _ _ _ h,oArr_get _ hi2];simp⟩
def chF(sg:Nat->BA)(H:List Nat)(Y:Nat->Bool)(k i:Nat):Bool:=(List.range k).any fun j=>Y j&&decide (sg i=sg (H.getD j 0))
theorem chF_succ{sg:Nat->BA}{H:List Nat}{Y:Nat->Bool}{k i:Nat}:chF sg H Y (k+1) i=(chF sg H Y k i || (Y k&&decide (sg i=sg (H.getD k 0)))):=by
 unfold chF;rw[dP,dX];simp
def chG(F:Nat->Bool)(l:List Int)(i:Nat):Bool:=F i || decide ((i:Int)∈l)
def GivesCh(n:Nat)(F:Nat->Bool)(w:World)(e:Ending)(w':World):Prop:=
 ∃go c,e=.returned (.slice (some ⟨go,0,none⟩) n c)/\w'.heap[go]?=some (.cells (oArr n F) 4 (0,0))/\Below w.heap.size w w'
def ChR(W:World)(nl:Nat)(sg:Nat->BA)(H:List Nat)(Y:Nat->Bool)(go m:Nat)(iv:Value)(wr:World):Prop:=
 ∃k:Nat,k+m=H.length/\iv=.int .i64 (k:Nat)/\wr.heap[go]?=some (.cells (oArr nl (chF sg H Y k)) 4 (0,0))/\Below W.heap.size W wr
def ChJ(W:World)(nl:Nat)(F:Nat->Bool)(l:List Int)(go m:Nat)(iv:Value)(wr:World):Prop:=
 ∃j:Nat,j+m=l.length/\iv=.int .i64 (j:Nat)/\wr.heap[go]?=some (.cells (oArr nl (chG F (l.take j))) 4 (0,0))/\Below W.heap.size W wr
theorem chosen_c(fid:FuncId)(hen:∀(args:Array Value)(w:World),(callFunc fid args).run Tryz.prog w=.ok (.enter fid args) w)(RA:Option Addr)(rc:Nat)(rs:List Rg)(UA:Option Addr)(uc:Nat)(us:List BA)(DA:Option Addr)(dc:Nat)(ds:List De)(L p1 p2:Nat)(sg:Nat->BA)(H:List Nat)(Y:Nat->Bool)(v:Value)(w:World)(hl:LgIs RA rc rs UA uc us DA dc ds w L)(hcl:ClsAll w v H sg (zAf rs).length)(hH:H.length<=200)(hnl:(zAf rs).length<=200)(hP:∀k,k<H.length->∀u,Below w.heap.size w u->Calls Tryz.prog fid #[.int .i64 (k:Int),.pointer (some ⟨p1,0,none⟩),.pointer (some ⟨p2,0,none⟩)] u (zAg (.bool (Y k)) u)): Calls Tryz.prog 96 #[.pointer (some ⟨L,0,none⟩),v,.func (.func fid) #[] #[.pointer (some ⟨p1,0,none⟩),.pointer (some ⟨p2,0,none⟩)]] w (GivesCh (zAf rs).length (chF sg H Y H.length) w):=by
 have HCL:=zq hcl;have HP:=zq hP;obtain⟨A,c,rfl,_⟩:=hcl;obtain⟨r1,r2,g1,g2,AL,cL,vr,vi,ins,base,hlx,_⟩:=hl;have HLX:=zq hlx;clear hlx hP;have hLs:L<w.heap.size:=HLX.o.lt;have l5:w.cell? ⟨L,5,none⟩=some (.slice AL (zBF rs (fun i=>!zAB rs i) rs.length).length cL):=HLX.o.c 5 rfl;obtain⟨nl,hnle⟩:∃nl,nl=(zBF rs (fun i=>!zAB rs i) rs.length).length:=⟨_,rfl⟩;rw[<-hnle]at l5;have HNL:Hid (nl=(zAf rs).length):=by show _=_;rw[hnle];unfold zBF zAf;rw[dE]
 have hn2:nl<=200:=by rw[HNL.o];exact hnl
 rw[<-HNL.o]at HCL ⊢;clear hnle hnl;have hmk:=zCG _ _ elSet nl za za rfl
 go_enter Tryz.func96,Tryz.ntmps96;go_wp2_with fail
 have HO0:Hid ((w.alloc (.cells (Array.replicate nl (.bool false)) 4)).heap[w.heap.size]?=some (.cells (oArr nl (chF sg H Y 0)) 4 (0,0))):=by
  show _=_
  rw[show oArr nl (chF sg H Y 0)=oArr nl fun _=>false from oArr_congr fun i _=>rfl,<-oArr_0];exact aK _ _
 have HB0:Hid (Below w.heap.size w (w.alloc (.cells (Array.replicate nl (.bool false)) 4))):=(aJ _ _).alloc (aE _) _;obtain⟨go,hgo⟩:∃go,go=w.heap.size:=⟨_,rfl⟩;have hgw:w.heap.size<=go:=Nat.le_of_eq hgo.symm;rw[<-hgo]at HO0;generalize hW:w.alloc (.cells (Array.replicate nl (.bool false)) 4)=W at HO0 HB0;rw[<-hgo];clear hW hgo l5 hmk hLs HLX
 go_loopg[21] H.length (ChR w nl sg H Y go)
 case atStart=>exact⟨0,za,rfl,HO0.o,HB0.o⟩
 clear HO0 HB0
 case round =>
  obtain⟨k,hk,rfl,hrow,hbel⟩:=hrel;have HK:=zq hk;have HO:=zq hrow;have HB:=zq hbel;clear hk hrow hbel
  by_cases hlt:k<H.length
  ·obtain⟨A',c',hv,hr⟩:=HCL.o
   injection hv with hA _ hc
   subst hA;subst hc;obtain⟨g,rfl,hr2⟩:=hr za;obtain⟨gj,cj,hcell0,hall⟩:=hr2 k hlt;have hcell:=zAe HB.o hcell0;clear hcell0;have HC:=zq (HP.o k hlt wr HB.o);obtain⟨l,hle⟩:∃l,l=lvs sg nl H[k]:=⟨_,rfl⟩;rw[<-hle]at hcell;have HL:=zq hle
   have hll:l.length<=200:=by
    rw[hle];unfold lvs;rw[dE];exact dC (dR _ _) (by rw[List.length_range];exact hn2)
   have HAL:Hid (∀i (hi:i<l.length),w.cell? ⟨gj,i,none⟩=some (.int .i64 l[i])):=by
    intro i hi;have:=hall i (by rw[<-hle];exact hi);rw[this];simp only[HL.o]
   have HSW:Hid (∀i,i<nl->chF sg H Y (k+1) i=(chF sg H Y k i || (Y k&&decide ((i:Int)∈l)))):=by
    intro i hi;rw[chF_succ,HL.o,List.getD_eq_getElem?_getD,List.getElem?_eq_getElem hlt,eE]
    congr 2
    rw[decide_eq_decide,mem_lvs]
    constructor
    ·intro h;exact⟨i,rfl,hi,h⟩
    ·rintro⟨n,hn,_,h⟩
     have:i=n:=za;subst this;exact h
   have HLT:Hid (∀z∈l,∃n:Nat,z=n/\n<nl):=by
    intro z hz;rw[HL.o]at hz;obtain⟨n,h1,h2,_⟩:=mem_lvs.1 hz;exact⟨n,h1,h2⟩
   clear hall hle hr hr2;(go_wp2_with fail);(with_reducible refine HC.o.mono ?_);rintro e w2⟨rfl,hb2⟩;have hgol:go<wr.heap.size:=zAh HO.o;have HO2:Hid (w2.heap[go]?=some (.cells (oArr nl (chF sg H Y k)) 4 (0,0))):=by show _=_;rw[hb2.block go hgol];exact HO.o
   have HB2:=zq (zAa HB.o hb2);clear hb2 HC HO HB hcell
   cases hY:Y k with
   |false =>
    have HN:Hid (oArr nl (chF sg H Y (k+1))=oArr nl (chF sg H Y k)):=oArr_congr fun i hi=>by rw[HSW.o i hi,hY];simp
    clear hY;go_wp2
    go_roundg (gk-1)
    case measure=>have:=HK.o;omega
    case rel=>exact⟨k+1,zh,zi,by rw[HN.o];exact HO2.o,HB2.o⟩
   |true =>
    have HN:Hid (oArr nl (chF sg H Y (k+1))=oArr nl (chG (chF sg H Y k) l)):=oArr_congr fun i hi=>by rw[HSW.o i hi,hY];rfl
    clear hY
    have HO3:Hid (w2.heap[go]?=some (.cells (oArr nl (chG (chF sg H Y k) (l.take 0))) 4 (0,0))):=by
     show _=_
     rw[show oArr nl (chG (chF sg H Y k) (l.take 0))=oArr nl (chF sg H Y k) from oArr_congr fun i _=>by unfold chG;simp];exact HO2.o
    obtain⟨F,hF⟩:∃F,F=chF sg H Y k:=⟨_,rfl⟩;rw[<-hF]at HO3 HN;clear hF HO2;(go_wp2_with fail);obtain⟨gk1,hgk1⟩:∃gk1,gk1=gk:=⟨_,rfl⟩;subst hgk1
    go_loopg[31] l.length (ChJ w nl F l go)
    case atStart=>exact⟨0,za,rfl,HO3.o,HB2.o⟩
    clear HO3
    case round =>
     obtain⟨j,hj,rfl,hrow,hbel⟩:=hrel;have HJ:=zq hj;have HO:=zq hrow;have HB:=zq hbel;clear hj hrow hbel
     by_cases hlj:j<l.length
     ·obtain⟨z,hz⟩:∃z,z=l[j]:=⟨_,rfl⟩
      obtain⟨n,hzn,hnn⟩:=HLT.o l[j] (bI hlj)
      have c0:wr.cell? ⟨gj,j,none⟩=some (.int .i64 (n:Int)):=by
       rw[<-hzn];exact zAe HB.o (HAL.o j hlj)
      have hfo:=cU wr go n _ _ HO.o
      have hco:wr.cell? ⟨go,n,none⟩=some (.bool (chG F (l.take j) n)):=by
       rw[aX _ go n _ _ _ HO.o,oArr_get _ hnn]
      have HE:Hid ((oArr nl (chG F (l.take j))).setIfInBounds n (.bool true)=oArr nl (chG F (l.take (j+1)))):=oArr_set hnn fun x hx=>by
       unfold chG;rw[bA hlj,hzn]
       by_cases e:x=n
       ·rw[aD e,e];simp
       ·rw[aW e]
        have:¬((x:Int)=(n:Int)):=za;simp[this]
      have hgol2:go<wr.heap.size:=zAh HO.o;clear hz hzn;go_wp2
      go_roundg (gk-1)
      case measure=>have:=HJ.o;omega
      case rel =>
       refine⟨j+1,yi,zi,?_,HB.o.setCell (p:=⟨go,n,none⟩) hgw _⟩
       rw[<-HE.o];exact eC _ go n _ _ _ HO.o
     ·obtain rfl:j=l.length:=by have:=HJ.o;omega
      have HO4:Hid (wr.heap[go]?=some (.cells (oArr nl (chF sg H Y (k+1))) 4 (0,0))):=by
       show _=_
       rw[HN.o];have:=HO.o
       rwa [aG]at this
      clear HO;go_wp2
      go_roundg (gk1-1)
      case measure=>have:=HK.o;omega
      case rel=>exact⟨k+1,zh,zi,HO4.o,HB.o⟩
  ·obtain rfl:k=H.length:=by have:=HK.o;omega
   go_wp2;go_ret
   exact⟨go,_,rfl,HO.o,HB.o⟩
theorem nat_eq{p q:Rat}(hp:0<=p)(hq:0<=q):p.num.natAbs*q.den=q.num.natAbs*p.den↔p=q:=by
 constructor
 ·intro e
  calc p=mkRat ((p.num.natAbs:Nat):Int) p.den:=as_q hp
   _=mkRat ((q.num.natAbs:Nat):Int) q.den:=(eS p.den_nz q.den_nz).2 (by exact_mod_cast e)
   _=q:=(as_q hq).symm
 ·rintro rfl;rfl
theorem cmp_zero{p q:Rat}(hp:0<=p)(hq:0<=q):cmpN (p.num.natAbs*q.den) (q.num.natAbs*p.den)=0↔p=q:=by
 rw[<-nat_eq hp hq]
 rcases Nat.lt_trichotomy (p.num.natAbs*q.den) (q.num.natAbs*p.den)with h1|h1|h1
 ·rw[zCI h1];exact⟨(fun e=>by cases e),(fun e=>za)⟩
 ·rw[zDq h1];exact⟨fun _=>h1,fun _=>rfl⟩
 ·rw[zCS h1];exact⟨(fun e=>by cases e),(fun e=>za)⟩
section
variable {f1 f2:zAV} {K1 K2:List BA}
end
structure QM where
 q:Rat
 A:Option Addr
 c:Nat
 A2:Option Addr
 c2:Nat
abbrev encQ(x:QM):List Value:=[.bool false,.slice x.A (zAc B32 x.q.num.natAbs).length x.c,.slice x.A2 (zAc B32 x.q.den).length x.c2]
structure QOk (w:World) (x:QM):Prop where
 n1:Nt w x.A x.c x.q.num.natAbs
 n2:Nt w x.A2 x.c2 x.q.den
 pos:0<=x.q
 sz:SzQ 100000000 x.q
theorem QOk.below{w w':World}{x:QM}(h:QOk w x)(hb:Below w.heap.size w w'):QOk w' x:=⟨h.n1.below hb,h.n2.below hb,h.pos,h.sz⟩
def Qs(w:World)(A:Option Addr)(l:List QM):Prop:=0<l.length->∃b o:Nat,A=some ⟨b,o,none⟩/\∀i (h:i<l.length),
 w.cell? ⟨b,o+i*3,none⟩=some (.bool false)/\w.cell? ⟨b,o+i*3+1,none⟩=some (.slice (l[i]).A (zAc B32 (l[i]).q.num.natAbs).length (l[i]).c)/\w.cell? ⟨b,o+i*3+2,none⟩=some (.slice (l[i]).A2 (zAc B32 (l[i]).q.den).length (l[i]).c2)
theorem Qs.below{w w':World}{A:Option Addr}{l:List QM}(h:Qs w A l)(hb:Below w.heap.size w w'):Qs w' A l:=fun hl=>by
 obtain⟨b,o,hA,hc⟩:=h hl;exact⟨b,o,hA,fun i hi=>⟨zAe hb (hc i hi).1,zAe hb (hc i hi).2.1,zAe hb (hc i hi).2.2⟩⟩
theorem eqN_c(x y:QM)(w:World)(hx:QOk w x)(hy:QOk w y): Calls Tryz.prog 140 #[raV false x.A x.c x.q.num.natAbs x.A2 x.c2 x.q.den,raV false y.A y.c y.q.num.natAbs y.A2 y.c2 y.q.den] w (zAg (.bool (decide (x.q=y.q))) w):=by
 obtain⟨q,A,c,A2,c2⟩:=x;obtain⟨p,A3,c3,A4,c4⟩:=y;obtain⟨h1,h2,hq,hs1,hs2⟩:=hx;obtain⟨h3,h4,hp,hs3,hs4⟩:=hy
 have HE:Hid (decide (q=p)=(cmpN (q.num.natAbs*p.den) (p.num.natAbs*q.den) == 0)):=by
  exact ta6
 obtain⟨W,hW⟩:∃W,W=(w.alloc (.cells (raC A c q.num.natAbs A2 c2 q.den) 86)).alloc (.cells (raC A3 c3 p.num.natAbs A4 c4 p.den) 86):=⟨_,rfl⟩;have HX:Hid (Bx W w.heap.size (raC A c q.num.natAbs A2 c2 q.den) 86):=by rw[hW];exact(Bx.new _ _ _).alloc _
 have HY:Hid (Bx W (w.heap.size+1) (raC A3 c3 p.num.natAbs A4 c4 p.den) 86):=by rw[hW];exact Bx.new1 _ _ _ _
 have HB:Hid (Below w.heap.size w W):=by rw[hW];exact((aJ w.heap.size w).alloc (aE _) _).alloc zd _
 have HC:=zq (RCmp_c A A2 A3 A4 c c2 c3 c4 q.num.natAbs q.den p.num.natAbs p.den W (h1.below HB.o) (h2.below HB.o) (h3.below HB.o) (h4.below HB.o) hs1.1 hs2.1 hs3.1 hs4.1);obtain⟨a0,a1,a2⟩:=HX.o.t;obtain⟨b0,b1,b2⟩:=HY.o.t;show Calls _ _ _ _ (zAg (.bool (decide (q=p))) w)
 rw[HE.o];generalize cmpN (q.num.natAbs*p.den) (p.num.natAbs*q.den)=z at *;clear h1 h2 hq hs1 hs2 h3 h4 hp hs3 hs4
 go_enter Tryz.func140,Tryz.ntmps140;(go_upto_region 1 with fail);rw[<-hW];clear hW;(go_wp2_with fail);(with_reducible refine HC.o.mono ?_);rintro e w1⟨rfl,hb1⟩;have HB1:=zq (zAa HB.o hb1);clear hb1 HC a0 a1 a2 b0 b1 b2;go_wp2;go_ret
 exact zAg.mk rfl HB1.o
def EqS(w:World)(l m:List QM)(n:Nat)(iv:Value)(wr:World):Prop:=
 Below w.heap.size w wr/\∃k:Nat,k+n=l.length/\iv=.int .i64 (k:Nat)/\(l.take k).map QM.q=(m.take k).map QM.q
theorem eqF_c(A B:Option Addr)(c c2:Nat)(l m:List QM)(w:World)(hn:l.length<=1000000)(hm:m.length<=1000000)(h:Qs w A l)(h2:Qs w B m)(hl:∀x∈l,QOk w x)(hm2:∀x∈m,QOk w x): Calls Tryz.prog 139 #[.slice A l.length c,.slice B m.length c2,.func (.func 140) #[] #[]] w (zAg (.bool (decide (l.map QM.q=m.map QM.q))) w):=by
 have HLW:=zq h;have HMW:=zq h2;have HL:=zq hl;have HM:=zq hm2;clear h h2 hl hm2
 by_cases hlen:l.length=m.length
 case neg =>
  have hb:((l.length:Int) != (m.length:Int))=true:=by simpa using fun h=>hlen za
  have HF:Hid (decide (l.map QM.q=m.map QM.q)=false):=aU fun e=>hlen (by simpa using bX List.length e)
  clear hlen;rw[HF.o]
  go_enter Tryz.func139,Tryz.ntmps139;go_wp2;go_ret
  exact zAg.mk rfl (aJ _ _)
 case pos =>
  have hb:((l.length:Int) != (m.length:Int))=false:=by rw[hlen];simp
  have HLEN:=zq hlen;clear hlen;obtain⟨ml,hml⟩:∃ml,ml=m.length:=⟨_,rfl⟩;have HML:=zq hml;rw[<-hml]at hb ⊢;clear hml
  go_enter Tryz.func139,Tryz.ntmps139;(go_wp2_with fail);clear hb
  go_loopg[17] l.length (EqS w l m)
  case atStart=>exact⟨aJ _ _,0,za,rfl,rfl⟩
  case round =>
   obtain⟨hbw,k,hk,rfl,hpre⟩:=hrel;have HK:=zq hk;have HP:=zq hpre;have HBW:=zq hbw;clear hk hpre hbw
   by_cases hlt:k<l.length
   ·have hltm:k<m.length:=by rw[<-HLEN.o];exact hlt
    have hltm2:k<ml:=by rw[HML.o];exact hltm
    obtain⟨b,o,hA,hc⟩:=(HLW.o.below HBW.o) za;obtain⟨b2,o2,hA2,hc2⟩:=(HMW.o.below HBW.o) za;subst hA;subst hA2;obtain⟨x0,x1,x2⟩:=hc k hlt;obtain⟨y0,y1,y2⟩:=hc2 k hltm;have HX:=zq ((HL.o _ (bI hlt)).below HBW.o);have HY:=zq ((HM.o _ (bI hltm)).below HBW.o)
    have HS:Hid ((l.take (k+1)).map QM.q=(l.take k).map QM.q++[l[k].q]/\(m.take (k+1)).map QM.q=(m.take k).map QM.q++[m[k].q]):=by
     constructor
     ·rw[bA hlt,aA];rfl
     ·rw[bA hltm,aA];rfl
    have HNE:Hid (l[k].q≠m[k].q->l.map QM.q≠m.map QM.q):=fun hne e=>hne (by
     have:=bX (fun z=>z[k]?) e
     simpa[List.getElem?_eq_getElem hlt,List.getElem?_eq_getElem hltm]using this)
    clear hc hc2;obtain⟨x,hx⟩:∃x,x=l[k]:=⟨_,rfl⟩;obtain⟨y,hy⟩:∃y,y=m[k]:=⟨_,rfl⟩;rw[<-hx]at HX HS HNE x1 x2;rw[<-hy]at HY HS HNE y1 y2;clear hx hy;obtain⟨W,hW⟩:∃W,W=(wr.alloc (.cells (raC x.A x.c x.q.num.natAbs x.A2 x.c2 x.q.den) 86)).alloc (.cells (raC y.A y.c y.q.num.natAbs y.A2 y.c2 y.q.den) 86):=⟨_,rfl⟩;have HBX:Hid (Bx W wr.heap.size (raC x.A x.c x.q.num.natAbs x.A2 x.c2 x.q.den) 86):=by rw[hW];exact(Bx.new _ _ _).alloc _
    have HBY:Hid (Bx W (wr.heap.size+1) (raC y.A y.c y.q.num.natAbs y.A2 y.c2 y.q.den) 86):=by rw[hW];exact Bx.new1 _ _ _ _
    have HB:Hid (Below wr.heap.size wr W):=by rw[hW];exact((aJ wr.heap.size wr).alloc (aE _) _).alloc zd _
    have HC:=zq (eqN_c x y W (HX.o.below HB.o) (HY.o.below HB.o));have HBT:=zq (zAa HBW.o HB.o);obtain⟨a0,a1,a2⟩:=HBX.o.t;obtain⟨b0,b1,b2'⟩:=HBY.o.t;have s1:=HBX.o.lt;have s2:=HBY.o.lt;have s3:wr.heap.size+1<=W.heap.size:=za;have hba:Below wr.heap.size wr (wr.alloc (.cells (raC x.A x.c x.q.num.natAbs x.A2 x.c2 x.q.den) 86)):=(aJ wr.heap.size wr).alloc (aE _) _;have z0:=zAe hba y0;have z1:=zAe hba y1;have z2:=zAe hba y2;clear hba y0 y1 y2;(go_upto_region 7 with fail);rw[<-hW];clear hW x0 x1 x2 z0 z1 z2;(go_wp2_with fail);(with_reducible refine HC.o.mono ?_);rintro e w2⟨rfl,hb2⟩;have HB2:=zq (zAa HBT.o hb2);clear hb2 HC a0 a1 a2 b0 b1 b2' s1 s2 s3
    by_cases hq:x.q=y.q
    ·rw[aT hq]
     have HN:Hid ((l.take (k+1)).map QM.q=(m.take (k+1)).map QM.q):=by
      show _=_
      rw[HS.o.1,HS.o.2,HP.o,hq]
     clear hq;go_wp2
     go_roundg (gk-1)
     case measure=>have:=HK.o;omega
     case rel=>exact⟨HB2.o,k+1,zh,zi,HN.o⟩
    ·rw[aU hq]
     have HN:Hid (decide (l.map QM.q=m.map QM.q)=false):=aU (HNE.o hq);clear hq;go_wp2;go_ret
     exact zAg.mk (by rw[HN.o];rfl) HB2.o
   ·have HN:Hid (decide (l.map QM.q=m.map QM.q)=true):=aT (by
     have:=HP.o
     rwa [bC za,bC (by have:=HLEN.o;omega)]at this)
    go_wp2;go_ret
    exact zAg.mk (by rw[HN.o];rfl) HBW.o
theorem sameN_c(A B:Option Addr)(c c2:Nat)(l m:List QM)(w:World)(hn:l.length<=1000000)(hm:m.length<=1000000)(h:Qs w A l)(h2:Qs w B m)(hl:∀x∈l,QOk w x)(hm2:∀x∈m,QOk w x): Calls Tryz.prog 76 #[.slice A l.length c,.slice B m.length c2] w (zAg (.bool (decide (l.map QM.q=m.map QM.q))) w):=by
 have HC:=zq (eqF_c A B c c2 l m w hn hm h h2 hl hm2);generalize decide (l.map QM.q=m.map QM.q)=z at *;clear h h2 hl hm2
 go_enter Tryz.func76,Tryz.ntmps76;(go_wp2_with fail);(with_reducible refine HC.o.mono ?_);rintro e w2⟨rfl,hb2⟩;have HB2:=zq hb2;clear hb2 HC;go_wp2;go_ret
 exact zAg.mk rfl HB2.o
end Go.Proofs.YtbbchlpccgkikaaGreatDoor
namespace Dw
def picAt{α:Type}(day:Int):α->List (Int×α)->α
 |a0,[]=>a0
 |a0,(d,a)::l=>if d<=day then picAt day a l else picAt day a0 l
theorem picAt_none{α:Type}{day:Int}{a0:α}:∀{l:List (Int×α)},(∀x∈l,day<x.1)->picAt day a0 l=a0
 |[],_=>rfl
 |(d,a)::l,h=>by
  unfold picAt;rw[aW (by have:=h (d,a) bN;simp only at this;omega)];exact picAt_none fun x hx=>h x (bM _ hx)
section
variable {α β:Type} [DecidableEq α] (row:Int→Int→α→List β) (end_:Int)
def zCh:α->Int->List (Int×α)->List β
 |a0,b0,[]=>row b0 end_ a0
 |a0,b0,(d,a)::l=>if a=a0 then zCh a0 b0 l else row b0 d a0++zCh a d l
variable {row end_} {bg en:β→Int} {day:Int}
theorem walk_bg(hb:∀b e a,∀r∈row b e a,bg r=b):∀(l:List (Int×α))(a0:α)(b0:Int),(∀x∈l,b0<x.1)->l.Pairwise (fun x y=>x.1<y.1)->∀r∈zCh row end_ a0 b0 l,b0<=bg r
 |[],a0,b0,_,_,r,h=>by rw[hb _ _ _ r h];omega
 |(d,a)::l,a0,b0,h0,hp,r,h=>by
  unfold zCh at h;have hd:=h0 (d,a) bN;rw[eN]at hp
  split at h
  ·exact walk_bg hb l a0 b0 (fun x hx=>h0 x (bM _ hx)) hp.2 r h
  ·rcases List.mem_append.1 h with h|h
   ·rw[hb _ _ _ r h];omega
   ·have:=walk_bg hb l a d hp.1 hp.2 r h
    simp only at hd;omega
theorem walk_at(hb:∀b e a,∀r∈row b e a,bg r=b)(he:∀b e a,∀r∈row b e a,en r=e)(hend:day<end_): ∀(l:List (Int×α))(a0:α)(b0:Int),(∀x∈l,b0<x.1)->l.Pairwise (fun x y=>x.1<y.1)->b0<=day ->
  ∃b e,b<=day/\day<e/\(zCh row end_ a0 b0 l).filter (fun r=>decide (bg r<=day/\day<en r))=row b e (picAt day a0 l)
 |[],a0,b0,_,_,h=>⟨b0,end_,h,hend,by
   unfold zCh picAt;rw[List.filter_eq_self];intro r hr;rw[hb _ _ _ r hr,he _ _ _ r hr];exact aT ⟨h,hend⟩⟩
 |(d,a)::l,a0,b0,h0,hp,h=>by
  have hd:=h0 (d,a) bN;have hl:=fun x hx=>h0 x (bM _ hx)
  rw[eN]at hp;simp only at hd hp;unfold zCh picAt
  by_cases ha:a=a0
  ·rw[aD ha]
   obtain⟨b,e,h1,h2,h3⟩:=walk_at hb he hend l a0 b0 hl hp.2 h;refine⟨b,e,h1,h2,?_⟩
   rw[h3,ha]
   split<;>rfl
  ·rw[aW ha,dQ]
   by_cases hle:d<=day
   ·rw[aD hle]
    obtain⟨b,e,h1,h2,h3⟩:=walk_at hb he hend l a d hp.1 hp.2 hle;refine⟨b,e,h1,h2,?_⟩
    rw[h3,List.filter_eq_nil_iff.2,List.nil_append];intro r hr;rw[he _ _ _ r hr];simp only[bG];omega
   ·rw[aW hle,picAt_none fun x hx=>by have:=hp.1 x hx;omega]
    refine⟨b0,d,h,za,?_⟩
    rw[List.filter_eq_self.2,List.filter_eq_nil_iff.2,bE]
    ·intro r hr
     have:=walk_bg hb l a d hp.1 hp.2 r hr;simp only[bG];omega
    ·intro r hr
     rw[hb _ _ _ r hr,he _ _ _ r hr];exact aT ⟨h,za⟩
end
section
variable {α β:Type} [DecidableEq α] {row:Int→Int→α→List β} {end_:Int}
end
theorem filter_flat{ι β:Type}{f:ι->List β}{p:β->Bool}{u:ι}:∀{l:List ι},l.Nodup->(∀v∈l,v≠u->(f v).filter p=[])->u∈l->(l.flatMap f).filter p=(f u).filter p
 |[],_,_,h=>absurd h eZ
 |v::l,hn,h0,hu=>by
  rw[bK,dQ];rw[List.nodup_cons]at hn
  rcases List.mem_cons.1 hu with rfl|hu
  ·have:(l.flatMap f).filter p=[]:=by
    rw[List.filter_eq_nil_iff];intro r hr;obtain⟨v,hv,hr⟩:=List.mem_flatMap.1 hr;have hne:v≠u:=fun e=>hn.1 (e▸hv)
    have:=h0 v (bM _ hv) hne;exact List.filter_eq_nil_iff.1 this r hr
   rw[this,bE]
  ·rw[h0 v bN (fun e=>hn.1 (e▸hu)),List.nil_append]
   exact filter_flat hn.2 (fun v hv=>h0 v (bM _ hv)) hu
structure HRow where
 us:BA
 bg:Int
 en:Int
 pt:Rat
 at_:Nat->Bool
def insR(x:Rat):List Rat->List Rat
 |[]=>[x]
 |y::l=>if x<y then x::y::l else if x=y then y::l else y::insR x l
def posL:List Rat->List Rat
 |[]=>[]
 |x::l=>if 0<x then insR x (posL l) else posL l
theorem mem_insR{x z:Rat}:∀{l:List Rat},z∈insR x l↔z=x\/z∈l
 |[]=>by simp[insR]
 |y::l=>by
  unfold insR
  split
  ·simp
  ·split
   ·next h=>subst h;simp
   ·rw[eQ,mem_insR (l:=l),eQ]
    constructor
    ·rintro(h|h|h)
     ·exact .inr (.inl h)
     ·exact .inl h
     ·exact .inr (.inr h)
    ·rintro(h|h|h)
     ·exact .inr (.inl h)
     ·exact .inl h
     ·exact .inr (.inr h)
theorem inc_insR{x:Rat}:∀{l:List Rat},l.Pairwise (· < ·)->(insR x l).Pairwise (· < ·)
 |[],_=>by simp[insR]
 |y::l,h=>by
  unfold insR;rw[eN]at h
  split
  ·next hxy =>
   rw[eN];refine⟨fun z hz=>?_,List.pairwise_cons.2 h⟩
   rcases List.mem_cons.1 hz with rfl|hz
   ·exact hxy
   ·exact Std.lt_trans hxy (h.1 z hz)
  ·split
   ·exact List.pairwise_cons.2 h
   ·next h1 h2 =>
    rw[eN];refine⟨fun z hz=>?_,inc_insR h.2⟩
    rcases mem_insR.1 hz with rfl|hz
    ·exact Std.lt_of_le_of_ne (Rat.not_lt.1 h1) fun e=>h2 e.symm
    ·exact h.1 z hz
theorem mem_posL{z:Rat}:∀{l:List Rat},z∈posL l↔z∈l/\0<z
 |[]=>by simp[posL]
 |x::l=>by
  unfold posL
  split
  ·next h =>
   rw[mem_insR,mem_posL (l:=l),eQ]
   constructor
   ·rintro(rfl|⟨h1,h2⟩)
    ·exact⟨.inl rfl,h⟩
    ·exact⟨.inr h1,h2⟩
   ·rintro⟨rfl|h1,h2⟩
    ·exact .inl rfl
    ·exact .inr ⟨h1,h2⟩
  ·next h =>
   rw[mem_posL (l:=l),eQ]
   constructor
   ·rintro⟨h1,h2⟩;exact⟨.inr h1,h2⟩
   ·rintro⟨rfl|h1,h2⟩
    ·exact absurd h2 h
    ·exact⟨h1,h2⟩
theorem inc_posL:∀{l:List Rat},(posL l).Pairwise (· < ·)
 |[]=>by simp[posL]
 |x::l=>by
  unfold posL
  split
  ·exact inc_insR inc_posL
  ·exact inc_posL
theorem inc_uniqR:∀{l m:List Rat},l.Pairwise (· < ·)->m.Pairwise (· < ·)->(∀z,z∈l↔z∈m)->l=m
 |[],[],_,_,_=>rfl
 |[],y::m,_,_,h=>absurd ((h y).2 bN) eZ
 |x::l,[],_,_,h=>absurd ((h x).1 bN) eZ
 |x::l,y::m,hl,hm,h=>by
  rw[eN]at hl hm
  have e:x=y:=by
   rcases List.mem_cons.1 ((h x).1 bN)with e|h1
   ·exact e
   ·rcases List.mem_cons.1 ((h y).2 bN)with e|h2
    ·exact e.symm
    ·exact absurd (Std.lt_trans (hm.1 x h1) (hl.1 y h2)) (Rat.lt_irrefl)
  subst e
  congr 1
  refine inc_uniqR hl.2 hm.2 fun z=>⟨fun hz=>?_,fun hz=>?_⟩
  ·rcases List.mem_cons.1 ((h z).1 (bM _ hz))with rfl|h1
   ·exact absurd (hl.1 _ hz) Rat.lt_irrefl
   ·exact h1
  ·rcases List.mem_cons.1 ((h z).2 (bM _ hz))with rfl|h1
   ·exact absurd (hm.1 _ hz) Rat.lt_irrefl
   ·exact h1
def rowF(use:BA)(b e:Int)(nums:List Rat):List HRow:=(posL nums).map fun x=>⟨use,b,e,x,fun k=>decide (nums[k]?=some x)⟩
theorem filter_one{l:List Rat}{x:Rat}(h:l.Pairwise (· < ·)):l.filter (fun z=>decide (z=x))=if x∈l then [x] else []:=by
 induction l with
 |nil=>rfl
 |cons y l ih =>
  rw[eN]at h
  by_cases e:y=x
  ·subst e
   rw[List.filter_cons_of_pos zd,ih h.2,aW (fun hm=>Rat.lt_irrefl (h.1 _ hm)),aD bN]
  ·rw[List.filter_cons_of_neg (by simpa using e),ih h.2]
   by_cases hm:x∈l
   ·rw[aD hm,aD (bM _ hm)]
   ·rw[aW hm,aW (fun h=>by rcases List.mem_cons.1 h with h|h;exact e h.symm;exact hm h)]
theorem rowF_at{use:BA}{b e:Int}{nums:List Rat}{k:Nat}{x:Rat}(h:nums[k]?=some x): ((rowF use b e nums).filter fun r=>r.at_ k).map HRow.pt=if 0<x then [x] else []:=by
 unfold rowF;rw[List.filter_map,List.map_map]
 have e1:((fun r:HRow=>r.at_ k) ∘ fun z=>(⟨use,b,e,z,fun k=>decide (nums[k]?=some z)⟩:HRow))=fun z=>decide (z=x):=by
  funext z
  simp only[Function.comp,h,aI,eq_comm]
 rw[e1,filter_one inc_posL];have hm:=List.mem_of_getElem? h
 by_cases h0:0<x
 ·rw[aD (mem_posL.2 ⟨hm,h0⟩),aD h0];rfl
 ·rw[aW (fun h=>h0 (mem_posL.1 h).2),aW h0];rfl
theorem const_range{α:Type}{f:Int->α}{b:Int}:∀n:Nat,(∀y,b<y->y<=b+n->f y=f (y-1))->f (b+n)=f b
 |0,_=>by congr 1;omega
 |n+1,h=>by
  rw[h (b+(n+1:Nat)) za (Int.le_refl _),show b+((n+1:Nat):Int)-1=b+n by omega];exact const_range n fun y h1 h2=>h y h1 za
theorem const_to{α:Type}{f:Int->α}{b day:Int}(hb:b<=day)(h:∀y,b<y->y<=day->f y=f (y-1)):f day=f b:=by
 obtain⟨n,hn⟩:=Int.le.dest hb;rw[<-hn];exact const_range n fun y h1 h2=>h y h1 za
theorem picAt_f{α:Type}{f:Int->α}{day:Int}:∀(D:List Int)(b0:Int),D.Pairwise (· < ·)->(∀y∈D,b0<y)->b0<=day->(∀y,b0<y->y<=day->y∉D->f y=f (y-1)) -> picAt day (f b0) (D.map fun d=>(d,f d))=f day
 |[],b0,_,_,hb,h=>(const_to hb fun y h1 h2=>h y h1 h2 eZ).symm
 |z::D,b0,hp,hD,hb,h=>by
  rw[eN]at hp;rw[dZ];unfold picAt
  by_cases e:z<=day
  ·rw[aD e]
   refine picAt_f D z hp.2 hp.1 e fun y h1 h2 h3=>h y (by have:=hD z bN;omega) h2 fun hm=>?_
   rcases List.mem_cons.1 hm with rfl|hm
   ·omega
   ·exact h3 hm
  ·rw[aW e,picAt_none]
   ·refine(const_to hb fun y h1 h2=>h y h1 h2 fun hm=>?_).symm
    rcases List.mem_cons.1 hm with rfl|hm
    ·omega
    ·have:=hp.1 y hm;omega
   ·intro x hx
    obtain⟨y,hy,rfl⟩:=List.mem_map.1 hx;have:=hp.1 y hy;simp only;omega
theorem rowF_us{use:BA}{b e:Int}{nums:List Rat}:∀r∈rowF use b e nums,r.us=use/\r.bg=b/\r.en=e:=by
 intro r hr;obtain⟨x,_,rfl⟩:=List.mem_map.1 hr;exact⟨rfl,rfl,rfl⟩
theorem walk_us{use:BA}{end_:Int}:∀(l:List (Int×List Rat))(a0:List Rat)(b0:Int),∀r∈zCh (rowF use) end_ a0 b0 l,r.us=use
 |[],a0,b0,r,h=>(rowF_us r h).1
 |(d,a)::l,a0,b0,r,h=>by
  unfold zCh at h
  split at h
  ·exact walk_us l a0 b0 r h
  ·rcases List.mem_append.1 h with h|h
   ·exact(rowF_us r h).1
   ·exact walk_us l a d r h
def holdF(us:List BA)(f:BA->Int->List Rat)(D:List Int):List HRow:=
 us.flatMap fun u=>zCh (rowF u) 200001 (f u 0) 0 (D.map fun d=>(d,f u d))
theorem hold_at{us:List BA}{f:BA->Int->List Rat}{D:List Int}{u:BA}{day:Int}{k:Nat}{x:Rat}(hn:us.Nodup)(hu:u∈us)(hp:D.Pairwise (· < ·))(hD:∀y∈D,0<y)(h0:0<=day)(h1:day<200001)(hf:∀y,0<y->y<200001->y∉D->f u y=f u (y-1))(hx:(f u day)[k]?=some x): (((holdF us f D).filter fun r=>decide (r.us=u)&&decide (r.bg<=day/\day<r.en)&&r.at_ k).map HRow.pt)=if 0<x then [x] else []:=by
 unfold holdF;rw[filter_flat hn (fun v _ hv=>?_) hu]
 ·have e1:(zCh (rowF u) 200001 (f u 0) 0 (D.map fun d=>(d,f u d))).filter (fun r=>decide (r.us=u)&&decide (r.bg<=day/\day<r.en)&&r.at_ k) =
    ((zCh (rowF u) 200001 (f u 0) 0 (D.map fun d=>(d,f u d))).filter (fun r=>decide (r.bg<=day/\day<r.en))).filter fun r=>r.at_ k:=by
   rw[List.filter_filter];refine List.filter_congr fun r hr=>?_
   rw[walk_us _ _ _ r hr,aT rfl,Bool.true_and,Bool.and_comm]
  rw[e1]
  obtain⟨b,e,_,_,h4⟩:=walk_at (row:=rowF u) (bg:=HRow.bg) (en:=HRow.en) (fun _ _ _ r hr=>(rowF_us r hr).2.1) (fun _ _ _ r hr=>(rowF_us r hr).2.2) h1 (D.map fun d=>(d,f u d)) (f u 0) 0
   (fun x hx=>by obtain⟨y,hy,rfl⟩:=List.mem_map.1 hx;exact hD y hy) (by rw[List.pairwise_map];exact hp) h0
  rw[h4,picAt_f D 0 hp hD h0 fun y h1 h2 h3=>hf y h1 za h3];exact rowF_at hx
 ·rw[List.filter_eq_nil_iff]
  intro r hr;rw[walk_us _ _ _ r hr,aU hv];simp
def zCJ{α:Type}(key:α->Rat):α->List α->List α
 |_,[]=>[]
 |p,y::l=>if key y=key p then zCJ key y l else y::zCJ key y l
def zCl{α:Type}(key:α->Rat):List α->List α
 |[]=>[]
 |x::l=>x::zCJ key x l
theorem compG_inc{α:Type}{key:α->Rat}:∀(l:List α)(p:α),(∀y∈l,key p<=key y)->l.Pairwise (fun x y=>key x<=key y)->(∀z∈zCJ key p l,key p<key z)/\(zCJ key p l).Pairwise fun x y=>key x<key y
 |[],p,_,_=>⟨fun _ h=>absurd h eZ,List.Pairwise.nil⟩
 |y::l,p,h,hp=>by
  rw[eN]at hp;obtain⟨h1,h2⟩:=compG_inc l y hp.1 hp.2;unfold zCJ
  by_cases e:key y=key p
  ·rw[aD e]
   exact⟨fun z hz=>by rw[<-e];exact h1 z hz,h2⟩
  ·rw[aW e]
   have h3:key p<key y:=Std.lt_of_le_of_ne (h y bN) fun e2=>e e2.symm
   refine⟨fun z hz=>?_,List.pairwise_cons.2 ⟨h1,h2⟩⟩
   rcases List.mem_cons.1 hz with rfl|hz
   ·exact h3
   ·exact Std.lt_trans h3 (h1 z hz)
theorem mem_compG{α:Type}{key:α->Rat}{z:Rat}:∀(l:List α)(p:α),(z=key p\/z∈(zCJ key p l).map key)↔(z=key p\/z∈l.map key)
 |[],p=>by simp[zCJ]
 |y::l,p=>by
  have ih:=mem_compG (key:=key) (z:=z) l y;unfold zCJ;rw[dZ,eQ]
  by_cases e:key y=key p
  ·rw[aD e,<-e]
   constructor
   ·rintro(h|h)
    ·exact .inl h
    ·rcases ih.1 (.inr h)with h|h
     ·exact .inl h
     ·exact .inr (.inr h)
   ·rintro(h|h|h)
    ·exact .inl h
    ·exact .inl h
    ·exact ih.2 (.inr h)
  ·rw[aW e,dZ,eQ,ih]
theorem compF_posL{α:Type}{key:α->Rat}{l:List α}{nums:List Rat}(hs:l.Pairwise fun x y=>key x<=key y)(hm:∀z,z∈l.map key↔z∈nums/\0<z):(zCl key l).map key=posL nums:=by
 refine inc_uniqR ?_ inc_posL fun z=>?_
 ·cases l with
  |nil=>exact List.Pairwise.nil
  |cons x l =>
   rw[eN]at hs;obtain⟨h1,h2⟩:=compG_inc l x hs.1 hs.2;unfold zCl;rw[dZ,eN,List.pairwise_map];refine⟨fun z hz=>?_,h2⟩
   obtain⟨y,hy,rfl⟩:=List.mem_map.1 hz;exact h1 y hy
 ·rw[mem_posL,<-hm]
  cases l with
  |nil=>exact Iff.rfl
  |cons x l =>
   unfold zCl;rw[dZ,eQ,dZ,eQ];exact mem_compG l x
end Dw
namespace Go.Proofs.YtbbchlpccgkikaaGreatDoor
open Go.RowKit Dw
theorem compG_snoc{α:Type}{key:α->Rat}{y:α}:∀(l:List α)(p:α),zCJ key p (l++[y])=zCJ key p l++(if key y=key (l.getLastD p) then [] else [y])
 |[],p=>by
  rw[List.nil_append,List.getLastD_nil];unfold zCJ
  split<;>simp[zCJ]
 |x::l,p=>by
  rw[bO,List.getLastD_cons];unfold zCJ;rw[compG_snoc l x]
  split<;>simp
theorem compF_take{α:Type}{key:α->Rat}{l:List α}{j:Nat}(hj:j+1<l.length):zCl key (l.take (j+2))=zCl key (l.take (j+1))++(if key l[j+1]=key l[j] then [] else [l[j+1]]):=by
 rw[bA hj]
 cases l with
 |nil=>simp at hj
 |cons x l =>
  have hj2:j<l.length:=yg;rw[aL,bO];show x::zCJ key x (l.take j++[(x::l)[j+1]])=(x::zCJ key x (l.take j))++_
  rw[compG_snoc,bO,cT]
  congr 2
  have:(l.take j).getLastD x=(x::l)[j]:=by
   cases j with
   |zero=>simp
   |succ j =>
    rw[List.getLastD_eq_getLast?,List.getLast?_eq_getElem?,cC,cK za,Nat.add_sub_cancel,List.getElem?_take,aD za,List.getElem?_eq_getElem za]
    rfl
  rw[this]
theorem compF_take2{α:Type}{key:α->Rat}{l:List α}{n:Nat}(h1:1<=n)(hn:n<l.length):zCl key (l.take (n+1))=zCl key (l.take n)++(if key l[n]=key l[n-1] then [] else [l[n]]):=by
 obtain⟨j,rfl⟩:∃j,n=j+1:=⟨n-1,za⟩;exact compF_take hn
theorem zDc(l:List QM):(l.flatMap encQ).length=l.length*3:=by
 induction l with
 |nil=>rfl
 |cons a t ih=>rw[bK,dI,ih,bP];simp;omega
theorem flatQ_get:∀(l:List QM)(i:Nat)(h:i<l.length),(l.flatMap encQ)[i*3]?=some (.bool false)/\(l.flatMap encQ)[i*3+1]?=some (.slice (l[i]).A (zAc B32 (l[i]).q.num.natAbs).length (l[i]).c)/\(l.flatMap encQ)[i*3+2]?=some (.slice (l[i]).A2 (zAc B32 (l[i]).q.den).length (l[i]).c2)
 |[],_,h=>by simp at h
 |a::t,0,_=>by rw[bK];exact⟨rfl,rfl,rfl⟩
 |a::t,i+1,h=>by
  have:=flatQ_get t i zr;rw[bK,show(i+1)*3=i*3+3 from by omega,show i*3+3+1=(i*3+1)+3 from by omega,show i*3+3+2=(i*3+2)+3 from by omega]
  simpa using this
theorem flatQ_set:∀(l:List QM)(i:Nat)(x:QM),i<l.length->(((l.flatMap encQ).set (i*3) (.bool false)).set (i*3+1) (.slice x.A (zAc B32 x.q.num.natAbs).length x.c)).set (i*3+2) (.slice x.A2 (zAc B32 x.q.den).length x.c2)=(l.set i x).flatMap encQ
 |[],_,_,h=>by simp at h
 |a::t,0,x,_=>by rw[bK,eL,bK];rfl
 |a::t,i+1,x,h=>by
  have:=flatQ_set t i x zr;rw[bK,cS,bK,<-this,show(i+1)*3=i*3+3 from by omega,show i*3+3+1=(i*3+1)+3 from by omega,show i*3+3+2=(i*3+2)+3 from by omega]
  rfl
theorem below_setC{B g:Nat}{a:World}(hg:B<=g):∀(vs:List Value)(o:Nat)(w:World),Below B a w->Below B a (w.setCells g o vs)
 |[],_,_,h=>h
 |v::r,o,_w,h=>below_setC hg r (o+1) _ (h.setCell (p:=⟨g,o,none⟩) hg v)
theorem Qs.cut{w:World}{g:Nat}{l:List QM}(h:Qs w (some ⟨g,0,none⟩) l){i:Nat}(vs:List Value)(hi:i<=l.length):Qs (w.setCells g (i*3) vs) (some ⟨g,0,none⟩) (l.take i):=fun hl=>by
 obtain⟨b,o,hA,hc⟩:=h (by rw[cC]at hl;omega)
 injection hA with hA
 injection hA with h1 h2 _
 subst h1;subst h2;refine⟨g,0,rfl,fun k hk=>?_⟩;rw[cC]at hk;obtain⟨h0,h1,h2⟩:=hc k za;rw[World.cell?_setCells_out g vs (i*3) w _ (fun _ _=>.inl (by show 0+k*3<_;omega)),World.cell?_setCells_out g vs (i*3) w _ (fun _ _=>.inl (by show 0+k*3+1<_;omega)),World.cell?_setCells_out g vs (i*3) w _ (fun _ _=>.inl (by show 0+k*3+2<_;omega)),aP];exact⟨h0,h1,h2⟩
abbrev OwnQ(w:World)(B:Nat)(v:Value)(l:List QM):Prop:=zAs encQ 3 w B 86 v l
theorem OwnQ.qs{w:World}{B g n c:Nat}{l:List QM}(h:OwnQ w B (.slice (some ⟨g,0,none⟩) n c) l)(hn:n=l.length):Qs w (some ⟨g,0,none⟩) l:=fun _ =>
 ⟨g,0,rfl,fun i hi=>by
  subst hn;obtain⟨h0,h1,h2⟩:=flatQ_get l i hi;rw[bJ,dK (xs:=l.flatMap encQ) h _ za,dK (xs:=l.flatMap encQ) h _ za,dK (xs:=l.flatMap encQ) h _ za];exact⟨h0,h1,h2⟩⟩
theorem OwnQ.cap{w:World}{B g n c:Nat}{l:List QM}(h:OwnQ w B (.slice (some ⟨g,0,none⟩) n c) l)(hn:0<l.length):l.length<=c/\B<=g/\g<w.heap.size:=by
 rcases h.2 with ⟨h',h0⟩|⟨g',cap',cur,h',hb,hg,hnc,_⟩
 ·omega
 ·injection h' with h1 h2 h3
  injection h1 with h1
  injection h1 with h1 _ _
  subst h1;subst h3;exact⟨hnc,hb,zAh hg⟩
theorem OwnQ.set{w:World}{B g c:Nat}{l:List QM}(h:OwnQ w B (.slice (some ⟨g,0,none⟩) l.length c) l){i:Nat}(hi:i<l.length)(x:QM): OwnQ (w.setCells g (i*3) (encQ x)) B (.slice (some ⟨g,0,none⟩) (l.set i x).length c) (l.set i x):=by
 have h1:=(dM (xs:=l.flatMap encQ) h (i*3) (.bool false)).1;have h2:=(dM h1 (i*3+1) (.slice x.A (zAc B32 x.q.num.natAbs).length x.c)).1;have h3:=(dM h2 (i*3+2) (.slice x.A2 (zAc B32 x.q.den).length x.c2)).1;rw[flatQ_set l i x hi]at h3;unfold OwnQ zAs;rw[aF];exact h3
theorem storeQ{w:World}{B g c:Nat}{l:List QM}(h:OwnQ w B (.slice (some ⟨g,0,none⟩) l.length c) l){i:Nat}(hi:i<l.length)(x:QM): (storeVar 86 ⟨g,i*3,none⟩ (.agg #[.bool false,.slice x.A (zAc B32 x.q.num.natAbs).length x.c,.slice x.A2 (zAc B32 x.q.den).length x.c2])).run Tryz.prog w=.ok () (w.setCells g (i*3) (encQ x)):=by
 have hl:=zDc l
 have hst:=run_storeCells_cells (P:=Tryz.prog) g (i*3) (encQ x) 0 w (fun j hj=>by
  have hj3:j<3:=hj;rw[dK (xs:=l.flatMap encQ) h _ za,List.getElem?_eq_getElem za];rfl) (fun j _=>dL (xs:=l.flatMap encQ) h _) (fun v hv=>by
  simp only[encQ,eQ,eZ,or_false]at hv
  rcases hv with rfl|rfl|rfl<;>rfl)
 have hsz:(sizeOf 86).run Tryz.prog w=.ok 3 w:=zb;rw[cZ]at hst;simp[storeVar,hsz,Value.cells,hst]
theorem clearQ{w:World}{B g c:Nat}{l:List QM}(h:OwnQ w B (.slice (some ⟨g,0,none⟩) l.length c) l){i:Nat}(hi:i<l.length): ∃vs:List Value,∀(ty:TypeId)(c2:Nat),(Builtin.clear_ #[152] ty #[.slice (some ⟨g,i*3,none⟩) (l.length-i) c2]).run Tryz.prog w=.ok (.tuple #[]) (w.setCells g (i*3) vs):=by
 have hl:=zDc l;obtain⟨m,hm⟩:∃m,l.length-i=m+1:=⟨l.length-i-1,za⟩;rw[hm];have hv:∀w,(zeroValue 86).run Tryz.prog w=.ok (.agg zBj) w:=zRatV
 have hlen:(Builtin.zeroCells (Value.agg zBj).cells (m+1)).toList.length=(m+1)*3:=by
  simp[Builtin.zeroCells,Value.cells]
 refine⟨(Builtin.zeroCells (Value.agg zBj).cells (m+1)).toList,fun ty c2=>?_⟩
 have hst:=run_storeCells_cells (P:=Tryz.prog) g (i*3) (Builtin.zeroCells (Value.agg zBj).cells (m+1)).toList 0 w (fun j hj=>by
  rw[hlen]at hj;rw[dK (xs:=l.flatMap encQ) h _ za,List.getElem?_eq_getElem za];rfl) (fun j _=>dL (xs:=l.flatMap encQ) h _) (fun v hv=>by
  simp[Builtin.zeroCells,Value.cells]at hv
  obtain⟨a,ha,rfl⟩:=hv;have h3:a%3=0\/a%3=1\/a%3=2:=za
  rcases h3 with e|e|e<;>simp[e]<;>rfl)
 rw[cZ]at hst;simp[Builtin.clear_,run_underlying Tryz.underlying152,hv,hst]
theorem eqR_c(x y:QM)(w:World)(hx:QOk w x)(hy:QOk w y): Calls Tryz.prog 144 #[raV false x.A x.c x.q.num.natAbs x.A2 x.c2 x.q.den,raV false y.A y.c y.q.num.natAbs y.A2 y.c2 y.q.den] w (zAg (.bool (decide (x.q=y.q))) w):=by
 obtain⟨q,A,c,A2,c2⟩:=x;obtain⟨p,A3,c3,A4,c4⟩:=y;obtain⟨h1,h2,hq,hs1,hs2⟩:=hx;obtain⟨h3,h4,hp,hs3,hs4⟩:=hy
 have HE:Hid (decide (q=p)=(cmpN (q.num.natAbs*p.den) (p.num.natAbs*q.den) == 0)):=by
  exact ta6
 obtain⟨W,hW⟩:∃W,W=(w.alloc (.cells (raC A c q.num.natAbs A2 c2 q.den) 86)).alloc (.cells (raC A3 c3 p.num.natAbs A4 c4 p.den) 86):=⟨_,rfl⟩;have HX:Hid (Bx W w.heap.size (raC A c q.num.natAbs A2 c2 q.den) 86):=by rw[hW];exact(Bx.new _ _ _).alloc _
 have HY:Hid (Bx W (w.heap.size+1) (raC A3 c3 p.num.natAbs A4 c4 p.den) 86):=by rw[hW];exact Bx.new1 _ _ _ _
 have HB:Hid (Below w.heap.size w W):=by rw[hW];exact((aJ w.heap.size w).alloc (aE _) _).alloc zd _
 have HC:=zq (RCmp_c A A2 A3 A4 c c2 c3 c4 q.num.natAbs q.den p.num.natAbs p.den W (h1.below HB.o) (h2.below HB.o) (h3.below HB.o) (h4.below HB.o) hs1.1 hs2.1 hs3.1 hs4.1);obtain⟨a0,a1,a2⟩:=HX.o.t;obtain⟨b0,b1,b2⟩:=HY.o.t;show Calls _ _ _ _ (zAg (.bool (decide (q=p))) w)
 rw[HE.o];generalize cmpN (q.num.natAbs*p.den) (p.num.natAbs*q.den)=z at *;clear h1 h2 hq hs1 hs2 h3 h4 hp hs3 hs4
 go_enter Tryz.func144,Tryz.ntmps144;(go_upto_region 1 with fail);rw[<-hW];clear hW;(go_wp2_with fail);(with_reducible refine HC.o.mono ?_);rintro e w1⟨rfl,hb1⟩;have HB1:=zq (zAa HB.o hb1);clear hb1 HC a0 a1 a2 b0 b1 b2;go_wp2;go_ret
 exact zAg.mk rfl HB1.o
def GivesCm(B:Nat)(L:List QM)(w:World)(e:Ending)(w':World):Prop:=∃A c,e=.returned (.slice A L.length c)/\Qs w' A L/\Below B w w'
def CpR(W:World)(l:List QM)(m:Nat)(iv:Value)(wr:World):Prop:=
 ∃n:Nat,1<=n/\n+m=l.length/\iv=.int .i64 (n:Int)/\zCl QM.q (l.take n)=l.take n/\Below W.heap.size W wr
def CpS(W:World)(B g c n:Nat)(l:List QM)(m:Nat)(iv kv:Value)(wr:World):Prop:=
 ∃(i j:Nat)(cur:List QM),1<=j/\n+j+m=l.length/\iv=.int .i64 (i:Int)/\kv=.int .i64 (j:Int)/\OwnQ wr B (.slice (some ⟨g,0,none⟩) cur.length c) cur/\cur.length=l.length /\
  cur.take i=zCl QM.q (l.take (n+j))/\i<n+j/\(∀x,n+j-1<=x->cur[x]?=l[x]?)/\Below B W wr
theorem compact_c(B:Nat)(v:Value)(l:List QM)(w:World)(hB:B<=w.heap.size)(hn:l.length<=1000000)(h:OwnQ w B v l)(hl:∀x∈l,∀u,Below B w u->QOk u x): Calls Tryz.prog 143 #[v,.func (.func 144) #[] #[]] w (GivesCm B (zCl QM.q l) w):=by
 by_cases h2:l.length<2
 case pos =>
  have HF:Hid (zCl QM.q l=l):=by
   show _=_
   match l,h2 with
   |[],_=>rfl
   |[x],_=>rfl
  have HQ:Hid (∃A c,v=.slice A l.length c/\Qs w A l):=by
   by_cases h0:0<l.length
   ·obtain⟨g,c,rfl⟩:=zCd h h0
    exact⟨_,_,rfl,OwnQ.qs h rfl⟩
   ·obtain⟨A,c,rfl,_⟩:=zAs.rdk h
    exact⟨A,c,rfl,fun h1=>absurd h1 h0⟩
  obtain⟨A,c,rfl,hq⟩:=HQ.o;have HS:=zq hq;have hlt:(l.length:Int)<2:=za;clear hq h hl HQ;rw[HF.o]
  go_enter Tryz.func143,Tryz.ntmps143;go_wp2;go_ret
  exact⟨A,c,rfl,HS.o,aJ _ _⟩
 case neg =>
  obtain⟨g,c,rfl⟩:=zCd h za;have HO:=zq h;have HL:=zq hl;have HQW:=zq (OwnQ.qs h rfl);have hge:¬(l.length:Int)<2:=za;have HN2:Hid (2<=l.length):=by show _<=_;omega
  have HCAP:=zq (OwnQ.cap h za);clear h hl h2
  go_enter Tryz.func143,Tryz.ntmps143;(go_wp2_with fail);clear hge
  go_loopg[5] (l.length-1) (CpR w l)
  case atStart =>
   refine⟨1,za,by have:=HN2.o;omega,rfl,?_,aJ _ _⟩
   match l,HN2.o with
   |x::y::t,_=>rfl
  case round =>
   obtain⟨n,h1,hk,rfl,hpre,hbw⟩:=hrel;have H1:=zq h1;have HK:=zq hk;have HP:=zq hpre;have HBW:=zq hbw;clear h1 hk hpre hbw
   by_cases hlt:n<l.length
   ·obtain⟨b,o,hA,hc⟩:=(HQW.o.below HBW.o) za
    injection hA with hA
    injection hA with hA1 hA2 _
    subst hA1;subst hA2;obtain⟨x0,x1,x2⟩:=hc n hlt;obtain⟨y0,y1,y2⟩:=hc (n-1) za;rw[bJ]at x0 x1 x2 y0 y1 y2;have HX:=zq (HL.o _ (bI hlt) wr (HBW.o.mono hB));have HY:=zq (HL.o _ (bI (show n-1<l.length by omega)) wr (HBW.o.mono hB))
    have HF:Hid (zCl QM.q (l.take (n+1))=l.take n++(if l[n].q=l[n-1].q then [] else [l[n]])):=by
     show _=_
     rw[compF_take2 H1.o hlt,HP.o]
    have HT:Hid (l.take (n+1)=l.take n++[l[n]]):=bA hlt;obtain⟨x,hx⟩:∃x,x=l[n]:=⟨_,rfl⟩;obtain⟨y,hy⟩:∃y,y=l[n-1]:=⟨_,rfl⟩;rw[<-hx]at HX HF HT x1 x2;rw[<-hy]at HY HF y1 y2;have HC:=zq (fun u (hu:Below wr.heap.size wr u)=>eqR_c x y u (HX.o.below hu) (HY.o.below hu));have HDR:Hid (Below wr.heap.size wr wr.drew):=zAd (aJ _ _) 1;have s0:IntKind.i64.wrap ((n:Int)-1)=(n:Int)-1:=IntWalk.i64_in _ za;have s1:(1:Int)<=(n:Int):=by have:=H1.o;omega
    have s2:(n:Int)-1<(l.length:Int):=za;have s3:((n:Int)-1).toNat=n-1:=za;clear hx hy hc;go_wp2_with fail
    go_region_held3 (fun w'=>(w'.cell? ⟨g,n*3,none⟩=some (.bool false)/\w'.cell? ⟨g,n*3+1,none⟩=some (.slice x.A (zAc B32 x.q.num.natAbs).length x.c)/\w'.cell? ⟨g,n*3+2,none⟩=some (.slice x.A2 (zAc B32 x.q.den).length x.c2))/\(w'.cell? ⟨g,(n-1)*3,none⟩=some (.bool false)/\w'.cell? ⟨g,(n-1)*3+1,none⟩=some (.slice y.A (zAc B32 y.q.num.natAbs).length y.c)/\w'.cell? ⟨g,(n-1)*3+2,none⟩=some (.slice y.A2 (zAc B32 y.q.den).length y.c2)))
     ((refine⟨⟨?_,?_,?_⟩,?_,?_,?_⟩<;>first|with_reducible assumption|go_simp))
     (first
      |((go_at_call 144;(with_reducible refine(HC.o wr.drew HDR.o).mono ?_);rintro e w2⟨rfl,hb2⟩;have HB2:=zq (zAa HDR.o hb2);clear hb2;have z0:=zAe HB2.o x0;have z1:=zAe HB2.o x1;have z2:=zAe HB2.o x2;have z3:=zAe HB2.o y0;have z4:=zAe HB2.o y1;have z5:=zAe HB2.o y2)))
    clear s0 s1 s2 s3 x0 x1 x2 y0 y1 y2 z0 z1 z2 z3 z4 z5 HC
    by_cases hq:x.q=y.q
    ·rw[aT hq]
     have HN:Hid (zCl QM.q (l.take (n+1))=l.take n):=by show _=_;rw[HF.o,aD hq,bE]
     have hcn:¬c=n:=by have:=HCAP.o.1;omega
     clear hq;have hso:=OwnQ.cap HO.o za;have HO2:Hid (OwnQ w2 B (.slice (some ⟨g,0,none⟩) l.length c) l):=zAs.below (zAs.below HO.o HBW.o) HB2.o;have HB0:=zq ((HBW.o.mono hB).trans (HB2.o.mono (dC hB HBW.o.size)));have hn3:1+(gk-1)=l.length-n:=zh;clear hso;(go_wp2_with fail);obtain⟨M,hM⟩:∃M,M=l.length-n:=⟨_,rfl⟩;obtain⟨cn,hcc⟩:∃cn,cn=c-n:=⟨_,rfl⟩;rw[<-hM,<-hcc];have HM:=zq hM;clear hM hcc hcn hn3;obtain⟨gk1,hgk1⟩:∃gk1,gk1=gk:=⟨_,rfl⟩;subst hgk1
     go_loopg[5,7] (M-1) (CpS w B g c n l)
     case atStart=>exact⟨n,1,l,za,by have:=HM.o;omega,rfl,rfl,HO2.o,rfl,by rw[HN.o],za,fun x _=>rfl,HB0.o⟩
     case round =>
      obtain⟨i,j,cur,h1,hk,rfl,rfl,hown,hlen,htk,hij,hsm,hbw⟩:=hrel;have H1:=zq h1;have HJ:=zq hk;have HOW:=zq hown;have HLEN:=zq hlen;have HTK:=zq htk;have HIJ:=zq hij;have HSM:=zq hsm;have HBJ:=zq hbw;clear h1 hk hown hlen htk hij hsm hbw
      by_cases hlj:j<M
      ·have hnj:n+j<l.length:=by have:=HM.o;omega
       have hcl:cur.length=l.length:=HLEN.o;obtain⟨b,o,hA,hc⟩:=OwnQ.qs HOW.o rfl za
       injection hA with hA
       injection hA with hA1 hA2 _
       subst hA1;subst hA2;have hj1:=H1.o;obtain⟨x0,x1,x2⟩:=hc (n+j) za;obtain⟨y0,y1,y2⟩:=hc (n+(j-1)) za
       have ex:cur[n+j]'(by omega)=l[n+j]:=by
        have:=HSM.o (n+j) za;rw[List.getElem?_eq_getElem za,List.getElem?_eq_getElem hnj]at this;exact Option.some.inj this
       have ey:cur[n+(j-1)]'(by omega)=l[n+(j-1)]'(by omega):=by
        have:=HSM.o (n+(j-1)) za;rw[List.getElem?_eq_getElem za,List.getElem?_eq_getElem za]at this;exact Option.some.inj this
       rw[ex]at x1 x2;rw[ey]at y1 y2;rw[bJ,bT]at x0 x1 x2 y0 y1 y2;have HX:=zq (HL.o _ (bI hnj) wr HBJ.o);have HY:=zq (HL.o _ (bI (show n+(j-1)<l.length by omega)) wr HBJ.o)
       have HF:Hid (zCl QM.q (l.take (n+(j+1)))=cur.take i++(if (l[n+j]).q=(l[n+(j-1)]'(by omega)).q then [] else [l[n+j]])):=by
        show _=_
        have e:=compF_take2 (key:=QM.q) (show 1<=n+j by omega) hnj;rw[<-HTK.o]at e;rw[show n+(j+1)=n+j+1 by omega,e];simp only[show n+j-1=n+(j-1) by omega]
       obtain⟨x,hx⟩:∃x,x=l[n+j]:=⟨_,rfl⟩;obtain⟨y,hy⟩:∃y,y=l[n+(j-1)]'(by omega):=⟨_,rfl⟩;have HLX:Hid (l[n+j]?=some x):=by show _=_;rw[List.getElem?_eq_getElem hnj,hx]
       rw[<-hx]at HX HF x1 x2;rw[<-hy]at HY HF y1 y2;have HC:=zq (fun u (hu:Below wr.heap.size wr u)=>eqR_c x y u (HX.o.below hu) (HY.o.below hu));have HDR:Hid (Below wr.heap.size wr wr.drew):=zAd (aJ _ _) 1;have s0:IntKind.i64.wrap ((j:Int)-1)=(j:Int)-1:=IntWalk.i64_in _ za;have s1:(1:Int)<=(j:Int):=za;have s2:(j:Int)-1<(M:Int):=za;have s3:((j:Int)-1).toNat=j-1:=za;clear hx hy hc ex ey hj1;go_wp2_with fail
       go_region_held3 (fun w'=>(w'.cell? ⟨g,n*3+j*3,none⟩=some (.bool false)/\w'.cell? ⟨g,n*3+j*3+1,none⟩=some (.slice x.A (zAc B32 x.q.num.natAbs).length x.c)/\w'.cell? ⟨g,n*3+j*3+2,none⟩=some (.slice x.A2 (zAc B32 x.q.den).length x.c2))/\(w'.cell? ⟨g,n*3+(j-1)*3,none⟩=some (.bool false)/\w'.cell? ⟨g,n*3+(j-1)*3+1,none⟩=some (.slice y.A (zAc B32 y.q.num.natAbs).length y.c)/\w'.cell? ⟨g,n*3+(j-1)*3+2,none⟩=some (.slice y.A2 (zAc B32 y.q.den).length y.c2)))
        ((refine⟨⟨?_,?_,?_⟩,?_,?_,?_⟩<;>first|with_reducible assumption|go_simp))
        (first
         |((go_at_call 144;(with_reducible refine(HC.o wr.drew HDR.o).mono ?_);rintro e w3⟨rfl,hb3⟩;have HB3:=zq (zAa HDR.o hb3);clear hb3;have z0:=zAe HB3.o x0;have z1:=zAe HB3.o x1;have z2:=zAe HB3.o x2;have z3:=zAe HB3.o y0;have z4:=zAe HB3.o y1;have z5:=zAe HB3.o y2)))
       have HOW3:Hid (OwnQ w3 B (.slice (some ⟨g,0,none⟩) cur.length c) cur):=zAs.below HOW.o HB3.o;have HBJ3:=zq (HBJ.o.trans (HB3.o.mono (dC hB HBJ.o.size)));clear s0 s1 s2 s3 x0 x1 x2 y0 y1 y2 z3 z4 z5 HC
       by_cases hq:x.q=y.q
       ·rw[aT hq]
        have HN:Hid (cur.take i=zCl QM.q (l.take (n+(j+1)))):=by show _=_;rw[HF.o,aD hq,bE]
        clear hq z0 z1 z2;go_wp2
        go_roundg (gk-1)
        case measure=>have:=HJ.o;omega
        case rel=>exact⟨i,j+1,cur,za,yi,rfl,zi,HOW3.o,HLEN.o,HN.o,by have:=HIJ.o;omega,fun z hz=>HSM.o z za,HBJ3.o⟩
       ·rw[aU hq]
        have hil:i<cur.length:=by have:=HIJ.o;omega
        have HN:Hid ((cur.set i x).take (i+1)=zCl QM.q (l.take (n+(j+1)))):=by
         show _=_
         rw[HF.o,aW hq,bA (by rw[aF];exact hil),List.getElem_set_self,List.take_set_of_le (aE _)]
        have HST:=zq (storeQ HOW3.o hil x);have HO4:=zq (OwnQ.set HOW3.o hil x);have hgl:=(OwnQ.cap HOW3.o za).2;have HB4:=zq (below_setC hgl.1 (encQ x) (i*3) _ HBJ3.o);have hil2:i<l.length:=za;clear hq hgl;go_upto_region 12 with fail
        go_wp2_with (refine wpList_store_var rfl _ _ _ rfl ⟨g,i*3,none⟩ (.agg #[.bool false,.slice x.A (zAc B32 x.q.num.natAbs).length x.c,.slice x.A2 (zAc B32 x.q.den).length x.c2]) rfl rfl HST.o ?_)
        clear z0 z1 z2;go_wp2
        go_roundg (gk-1)
        case measure=>have:=HJ.o;omega
        case rel =>
         refine⟨i+1,j+1,cur.set i x,za,yi,zi,zi,HO4.o,by rw[aF];exact HLEN.o,HN.o,by have:=HIJ.o;omega,fun z hz=>?_,HB4.o⟩
         rw[List.getElem?_set_ne (by have:=HIJ.o;omega)];exact HSM.o z za
      ·obtain rfl:j=M:=by have:=HJ.o;have:=HM.o;omega
       have hil:i<cur.length:=by have:=HIJ.o;have:=HLEN.o;have:=HM.o;omega
       obtain⟨vs,hclr⟩:=clearQ HOW.o hil;have hgl:=OwnQ.cap HOW.o za
       have HCF:Hid (zCl QM.q l=cur.take i):=by
        show _=_
        rw[HTK.o,bC (by have:=HJ.o;have:=HM.o;omega)]
       have HQE:Hid (Qs (wr.setCells g (i*3) vs) (some ⟨g,0,none⟩) (zCl QM.q l)):=by
        rw[HCF.o];exact(OwnQ.qs HOW.o rfl).cut vs (Nat.le_of_lt hil)
       have HBE:=zq (below_setC hgl.2.1 vs (i*3) _ HBJ.o);have hci:¬c=i:=za;have hic:i<=c:=za;have hil2:i<=l.length:=by have:=HLEN.o;omega
       rw[HLEN.o]at hclr
       have HLI:Hid (i=(zCl QM.q l).length):=by
        show _=_
        rw[HCF.o,cC];omega
       clear hgl hil;go_wp2;go_ret
       refine⟨some ⟨g,0,none⟩,c,?_,HQE.o,HBE.o⟩
       rw[<-HLI.o];rfl
    ·rw[aU hq]
     have HN:Hid (zCl QM.q (l.take (n+1))=l.take (n+1)):=by show _=_;rw[HF.o,aW hq,HT.o]
     clear hq;go_wp2
     go_roundg (gk-1)
     case measure=>have:=HK.o;omega
     case rel=>exact⟨n+1,za,zh,zi,HN.o,zAa HBW.o HB2.o⟩
   ·obtain rfl:n=l.length:=by have:=HK.o;omega
    have HN:Hid (zCl QM.q l=l):=by have:=HP.o;rwa [aG]at this
    go_wp2;go_ret
    refine⟨some ⟨g,0,none⟩,c,?_,?_,HBW.o.mono hB⟩
    ·rw[HN.o];rfl
    ·rw[HN.o];exact HQW.o.below HBW.o
theorem row2_c(A:Option Addr)(c k p1 p2:Nat)(l:List QM)(x:QM)(w:World)(hk:k<l.length)(hn:l.length<=1000000)(h1:Bx w p1 #[.slice A l.length c] 152)(h2:Bx w p2 (raC x.A x.c x.q.num.natAbs x.A2 x.c2 x.q.den) 86)(hq:Qs w A l)(hl:QOk w l[k])(hx:QOk w x): Calls Tryz.prog 145 #[.int .i64 (k:Int),.pointer (some ⟨p1,0,none⟩),.pointer (some ⟨p2,0,none⟩)] w (zAg (.bool (decide (l[k].q=x.q))) w):=by
 obtain⟨b,o,rfl,hc⟩:=hq za;obtain⟨x0,x1,x2⟩:=hc k hk;clear hc hq;have hk2:(k:Int)<(l.length:Int):=za;generalize l[k]=y at *;have HX:=zq hx;have HY:=zq hl
 have HE:Hid (decide (y.q=x.q)=(cmpN (y.q.num.natAbs*x.q.den) (x.q.num.natAbs*y.q.den) == 0)):=by
  show _=_
  by_cases e:y.q=x.q
  ·rw[aT e,(cmp_zero hl.pos hx.pos).2 e];rfl
  ·rw[aU e]
   exact(beq_eq_false_iff_ne.2 fun e2=>e ((cmp_zero hl.pos hx.pos).1 e2)).symm
 have HC:=zq (fun u (hu:Below w.heap.size w u)=>RCmp_c y.A y.A2 x.A x.A2 y.c y.c2 x.c x.c2 y.q.num.natAbs y.q.den x.q.num.natAbs x.q.den u (hl.n1.below hu) (hl.n2.below hu) (hx.n1.below hu) (hx.n2.below hu) hl.sz.1.1 hl.sz.2.1 hx.sz.1.1 hx.sz.2.1);have HDR:Hid (Below w.heap.size w w.drew):=zAd (aJ _ _) 1;rw[HE.o];generalize cmpN (y.q.num.natAbs*x.q.den) (x.q.num.natAbs*y.q.den)=z at *;have a0:=h1.c 0 rfl;have s1:=h1.lt;obtain⟨b0,b1,b2⟩:=h2.t;have s2:=h2.lt;clear hl hx h1 h2
 go_enter Tryz.func145,Tryz.ntmps145;go_wp2_with fail
 go_region_held3 (fun w'=>(w'.cell? ⟨p1,0,none⟩=some (.slice (some ⟨b,o,none⟩) l.length c)/\w'.cell? ⟨b,o+k*3,none⟩=some (.bool false)/\w'.cell? ⟨b,o+k*3+1,none⟩=some (.slice y.A (zAc B32 y.q.num.natAbs).length y.c)/\w'.cell? ⟨b,o+k*3+2,none⟩=some (.slice y.A2 (zAc B32 y.q.den).length y.c2))/\(w'.cell? ⟨p2,0,none⟩=some (.bool false)/\w'.cell? ⟨p2,1,none⟩=some (.slice x.A (zAc B32 x.q.num.natAbs).length x.c)/\w'.cell? ⟨p2,2,none⟩=some (.slice x.A2 (zAc B32 x.q.den).length x.c2)))
  ((refine⟨⟨?_,?_,?_,?_⟩,?_,?_,?_⟩<;>first|with_reducible assumption|go_simp))
  (first
   |((go_at_call 48;(with_reducible refine(HC.o w.drew HDR.o).mono ?_);rintro e w2⟨rfl,hb2⟩;have HB2:=zq (zAa HDR.o hb2);clear hb2;have z0:=zAe HB2.o x0;have z1:=zAe HB2.o x1;have z2:=zAe HB2.o x2;have z3:=zAe HB2.o a0;have z4:=zAe HB2.o b0;have z5:=zAe HB2.o b1;have z6:=zAe HB2.o b2)))
 go_wp2;go_ret
 exact zAg.mk rfl HB2.o
end Go.Proofs.YtbbchlpccgkikaaGreatDoor
namespace Dw.Drw
open Go
def R0{α:Type}(d:Nat):Result α->Prop
 |.ok _ w=>d<=w.drawn
 |.halt _ w=>d<=w.drawn
def S0(d:Nat):Stepped->Prop
 |.next m=>d<=m.world.drawn
 |.ended _ _=>True
def G0(d:Nat):GStep->Prop
 |.go _ w _=>d<=w.drawn
 |.comm _ _ _ _ w _=>d<=w.drawn
 |.spawn _ _ w _=>d<=w.drawn
 |.count _ w _=>d<=w.drawn
 |.timer _ _ w _=>d<=w.drawn
 |.alone _ _ w _=>d<=w.drawn
 |.newcoro _ _ _ w _=>d<=w.drawn
 |.coroswitch _ _ _ w _=>d<=w.drawn
 |.collect _ w _=>d<=w.drawn
 |.watch _ w _=>d<=w.drawn
 |.ended _ _ _=>True
theorem ask0{α:Type}(e:Ask α):∀w:World,w.drawn<=(w.ask e).2.drawn:=by
 induction e with
 |done a=>intro w;exact aE _
 |ask what range k ih =>
  intro w;simp only[World.ask]
  split
  ·exact ih _ w
  ·exact dC (Nat.le_succ w.drawn) (ih _ { w with drawn:=w.drawn+1 })
theorem sys0(w:World)(c:Sys):w.drawn<=(w.sys c).2.drawn:=by
 have h:=ask0 (Kernel.perform c w.os) w;unfold World.sys
 split
 ·exact aE _
 ·next e=>rw[e]at h;exact h
theorem freeze0(w:World)(a:Addr)(n:Nat):(w.freeze a n).drawn=w.drawn:=by
 unfold World.freeze;split<;>rfl
theorem view0{p:Program}{w w':World}{t:Addr}{u:TypeId}{k:Addr}{v:Value}{b:Bool}{l:List Addr}(h:w.viewStore p t u k v b=.ok (w',l)):w'.drawn=w.drawn:=by
 unfold World.viewStore at h;simp only[bind,Except.bind,pure,Except.pure]at h
 repeat' (split at h)
 all_goals first
  |cases h;rfl
  |cases h
theorem far0{p:Program}{w w':World}{a:Addr}{v:Value}{b:Bool}{l:List Addr}(h:w.farStore p a v b=.ok (w',l)):w'.drawn=w.drawn:=by
 unfold World.farStore at h
 split at h
 ·split at h
  ·next r e=>cases h;exact view0 e
  ·cases h
 ·cases h
theorem run0{α:Type}(p:Program)(e:Sem α):∀(w:World)(d:Nat),d<=w.drawn->R0 d (e.run p w):=by
 induction e with
 |pure a=>intro w d h;exact h
 |load m a k ih =>
  intro w d h;simp only[Sem.run]
  repeat' split
  ·exact ih _ _ _ h
  ·exact ih _ _ _ h
  ·exact h
 |store m a v k ih =>
  intro w d h
  have main:R0 d (match w.cell? a with
   | some _=>if w.frozen? a then .halt (.unsupported (.unsafePointer "a write to bytes that a string shares")) w else k.run p (w.setCell a v)
   |none=>match w.farStore p a v (m == .atomic)with
    |.ok (w,_)=>k.run p w
    |.error h=>.halt h w):=by
   split
   ·split
    ·exact h
    ·exact ih _ _ h
   ·split
    ·next e=>exact ih _ _ (by rw[far0 e];exact h)
    ·exact h
  cases v<;>first|exact h|(simp only[Sem.run];exact main)
 |new o k ih=>intro w d h;exact ih _ _ _ h
 |shape r k ih=>intro w d h;exact ih _ _ _ h
 |freeze a n k ih=>intro w d h;exact ih _ _ (by rw[freeze0];exact h)
 |frozen a k ih=>intro w d h;exact ih _ _ _ h
 |getObj r k ih =>
  intro w d h;simp only[Sem.run]
  repeat' split
  ·exact h
  ·exact ih _ _ _ h
  ·exact h
 |setObj r o k ih =>
  intro w d h;simp only[Sem.run]
  repeat' split
  ·exact h
  ·exact ih _ _ h
  ·exact h
 |choose q k ih =>
  intro w d h;simp only[Sem.run]
  split
  ·exact ih _ _ _ h
  ·exact ih _ _ _ (dC h (Nat.le_succ _))
 |sys c k ih=>intro w d h;exact ih _ _ _ (dC h (sys0 w c))
 |program k ih=>intro w d h;exact ih _ _ _ h
 |mark m k ih=>intro w d h;exact ih _ _ h
 |halt h=>intro w d hd;exact hd
theorem runT0{α:Type}(p:Program)(e:Sem α)(w:World)(es:Array Event)(d:Nat)(h:d<=w.drawn):R0 d (e.runT p w es).1:=by
 rw[Sem.runT_fst];exact run0 p e w d h
theorem after0{d:Nat}{es:Array Event}{s:GStep}(h:G0 d s):G0 d (s.after es):=by
 cases s<;>exact h
theorem runOk{α:Type}{p:Program}{e:Sem α}{w w':World}{a:α}(h:e.run p w=.ok a w'):w.drawn<=w'.drawn:=by
 have:=run0 p e w w.drawn (aE _);rw[h]at this;exact this
theorem runHalt{α:Type}{p:Program}{e:Sem α}{w w':World}{a:Halt}(h:e.run p w=.halt a w'):w.drawn<=w'.drawn:=by
 have:=run0 p e w w.drawn (aE _);rw[h]at this;exact this
theorem runT2{α:Type}{p:Program}{e:Sem α}{w:World}{es es':Array Event}{r:Result α}{d:Nat}(h:e.runT p w es=(r,es'))(hd:d<=w.drawn):R0 d r:=by
 have:=runT0 p e w es d hd;rw[h]at this;exact this
theorem runT3{α:Type}{p:Program}{e:Sem α}{w:World}{es:Array Event}{r:Result α}{d:Nat}(h:(e.runT p w es).1=r)(hd:d<=w.drawn):R0 d r:=by
 rw[<-h];exact runT0 p e w es d hd
theorem G0.ite{d:Nat}{c:Prop}[Decidable c]{a b:GStep}(ha:G0 d a)(hb:G0 d b):G0 d (if c then a else b):=by
 split
 ·exact ha
 ·exact hb
theorem endWith0(d:Nat)(w:World)(fd:Nat)(t:BA)(o:Outcome):G0 d (endWith w fd t o):=by
 unfold endWith
 repeat' split
 all_goals trivial
theorem endThrow0{d:Nat}{fr:Frame}{m:String}{w:World}(h:d<=w.drawn):G0 d (endThrow fr m w):=h
theorem endThrow1{d:Nat}{fr:Frame}{m:String}{w:World}{s:GStep}(e:endThrow fr m w=s)(h:d<=w.drawn):G0 d s:=by
 rw[<-e];exact endThrow0 h
theorem endPrinting0{d:Nat}{p:Program}{fr:Frame}{v:Value}{w:World}(h:d<=w.drawn):G0 d (endPrinting p fr v w):=by
 unfold endPrinting
 dsimp only
 split
 ·exact endThrow0 h
 ·trivial
theorem endFatal0{d:Nat}{p:Program}{fr:Frame}{cs:List Frame}{dy:Option Dying}{m:String}{w:World}(h:d<=w.drawn): G0 d (endFatal p fr cs dy m w):=by
 unfold endFatal
 dsimp only
 split
 ·next e=>exact dC h (runOk e)
 ·trivial
 ·trivial
theorem writeOn0{d:Nat}{p:Program}{fr:Frame}{dy:Dying}{f:Fatal}{w:World}(h:d<=w.drawn): G0 d (writeOn p fr dy f w):=by
 unfold writeOn
 dsimp only
 split
 ·trivial
 ·split
  ·next e=>exact runT2 e h
  ·next e=>exact runT2 e h
  ·trivial
  ·trivial
theorem die0{d:Nat}{p:Program}{fr:Frame}{dy:Dying}{w:World}(h:d<=w.drawn):G0 d (die p fr dy w):=by
 unfold die
 split
 ·exact writeOn0 h
 ·split
  ·split
   ·exact h
   ·exact endWith0 ..
  ·dsimp only
   split
   ·exact h
   ·split
    ·next e=>exact dC h (runOk e)
    ·trivial
   ·apply after0
    split
    ·next e=>exact runT3 e h
    ·next e=>exact runT3 e h
    ·trivial
    ·next e=>exact endPrinting0 (runT3 e h)
    ·trivial
   ·trivial
theorem doReturn0{d:Nat}{p:Program}{b:Bool}{fr:Frame}{cs:List Frame}{dy:Option Dying}{v:Value}{w:World}(h:d<=w.drawn): G0 d (doReturn p b fr cs dy v w):=by
 unfold doReturn
 split
 ·split
  ·exact h
  ·exact h
  ·exact h
  ·exact h
 ·repeat' split
  all_goals first|exact h|trivial
theorem callDeferred0{d:Nat}{p:Program}{fr:Frame}{cs:List Frame}{dy:Option Dying}{f:Deferred}{w:World}(h:d<=w.drawn): G0 d (callDeferred p fr cs dy f w):=by
 unfold callDeferred;refine G0.ite trivial ?_
 split
 next r es e =>
 have:=runT2 e h
 apply after0
 split
 all_goals first
  |exact this
  |trivial
  |exact endFatal0 this
  |(split<;>exact this)
theorem unwind0{d:Nat}{p:Program}{b:Bool}{fr:Frame}{cs:List Frame}{dy:Option Dying}{w:World}(h:d<=w.drawn): G0 d (unwind p b fr cs dy w):=by
 unfold unwind
 split
 ·split
  next r es e =>
  have:=runT2 e h
  apply after0
  split
  ·exact this
  ·trivial
 ·exact callDeferred0 h
 ·split
  ·trivial
  ·split
   ·trivial
   ·split
    ·exact h
    ·split
     ·split
      ·exact h
      ·split
       ·next e=>exact dC h (runOk e)
       ·trivial
       ·trivial
     ·split
      ·exact endPrinting0 h
      ·trivial
  ·split
   ·exact doReturn0 h
   ·split
    next r es e =>
    have:=runT2 e h
    apply after0
    split
    ·exact doReturn0 this
    ·trivial
    ·trivial
theorem early0{d:Nat}{p:Program}{fr:Frame}{cs:List Frame}{dy:Option Dying}{g:Nat}{w:World}(h:d<=w.drawn): G0 d (early p fr cs dy g w):=by
 unfold early
 dsimp only
 repeat' split
 all_goals first
  |exact h
  |trivial
  |exact dC h (runOk (by with_reducible assumption):w.drawn<=_)
  |(have:=runOk (p:=p) (w:=w) ‹_=Result.ok 0 _›;exact dC h this)
theorem apply0{d:Nat}{p:Program}{b:Bool}{fr:Frame}{cs:List Frame}{dy:Option Dying}{s:Sem Next}{w:World}(h:d<=w.drawn): G0 d (stepG.apply p b fr cs dy s w):=by
 have key:∀x:Result Next×Array Event,x=(if b=true then s.runT p w #[] else (s.run p w,#[]))->R0 d x.1:=by
  rintro x rfl
  split
  ·exact runT0 p s w #[] d h
  ·exact run0 p s w d h
 unfold stepG.apply
 dsimp only
 generalize hx:(if b=true then s.runT p w #[] else (s.run p w,#[]))=x;have hd:=key x hx.symm;obtain⟨r,es⟩:=x
 dsimp only at hd ⊢
 apply after0
 split
 all_goals first
  |exact hd
  |trivial
  |exact endFatal0 hd
  |exact endThrow0 hd
  |exact early0 hd
  |(split<;>exact hd)
  |(refine G0.ite (endThrow0 hd) ?_;exact hd)
theorem oper0{d:Nat}{p:Program}{b:Bool}{fr:Frame}{cs:List Frame}{dy:Option Dying}{w:World}(h:d<=w.drawn): G0 d (stepG.oper p b fr cs dy w):=by
 unfold stepG.oper
 split
 ·trivial
 ·split
  ·exact apply0 h
  ·exact apply0 h
theorem G0.elim{α:Type}{d:Nat}{o:Option α}{b:GStep}{f:α->GStep}(hb:G0 d b)(hf:∀x,G0 d (f x)):G0 d (o.elim b f):=by
 cases o with
 |none=>exact hb
 |some x=>exact hf x
theorem leave0{d:Nat}{p:Program}{m:Bool}{fr:Frame}{cs:List Frame}{dy:Option Dying}{w:World}{r:Option Nat}{jump:Option Code}{c:Bool}(h:d<=w.drawn): G0 d (match r with
   |none=>if c=true then GStep.go { frame:={ fr with mode:=.returning },callers:=cs,status:=.running,dying:=dy } w
     else .ended (.stuck "exit, goto: no such block or label" (fr.pos p)) w
   |some l =>
    GStep.after (seen p fr.fn ((Instr.endRound l jump).runT p w #[]).snd) (match ((Instr.endRound l jump).runT p w #[]).fst with
    |.ok v w=>doReturn p m fr cs dy v w
    | .halt _ w=>.ended (.stuck "range over a function: no such loop" (fr.pos p)) w)):=by
 split
 ·exact G0.ite h trivial
 ·apply after0
  split
  ·next e=>exact doReturn0 (runT3 e h)
  ·trivial
theorem exec0{d:Nat}{p:Program}{m b:Bool}{fr:Frame}{cs:List Frame}{dy:Option Dying}{w:World}(h:d<=w.drawn): G0 d (stepG.exec p m b fr cs dy w):=by
 unfold stepG.exec
 dsimp only
 split
 all_goals first
  |exact h
  |trivial
  |exact leave0 h
  |exact apply0 h
  |exact oper0 h
  |(refine G0.elim (leave0 h) (fun _=>h))
  |(refine G0.ite (oper0 h) h)
  |(refine G0.elim trivial (fun _=>apply0 h))
  |(refine G0.ite h ?_;split;(next e=>exact dC h (runOk e));trivial)
  |(apply after0;split;(next e=>exact apply0 (runT3 e h));trivial)
  |(apply after0;split;(next e=>exact runT3 e h);(next e=>exact runT3 e h);trivial)
  |(split;exact h;trivial)
theorem stepG0{d:Nat}{p:Program}{m b:Bool}{g:Goroutine}{w:World}(h:d<=w.drawn):G0 d (stepG p m g w b):=by
 unfold stepG
 split
 split
 ·exact die0 h
 ·exact exec0 h
 ·exact unwind0 h
theorem waiting0{rest:Rest}{cs:Array CommCase}{w w':World}(h:waitingAt rest cs w=some w'):w'.drawn=w.drawn:=by
 unfold waitingAt at h
 split at h
 ·split at h
  ·cases h;rfl
  ·cases h
 ·cases h;rfl
theorem comm0{d:Nat}{p:Program}{rest:Rest}{gs:Array Goroutine}{i:Nat}{g:Goroutine}{cs:Array CommCase}{b:Bool}{sh:CommShape}{w:World}(h:d<=w.drawn):S0 d (communicate p rest gs i g cs b sh w).1:=by
 unfold communicate
 dsimp only
 split
 ·trivial
 ·split
  ·split
   ·split
    ·next e=>rw[<-waiting0 e]at h;exact h
    ·trivial
   ·exact h
  ·split
   ·trivial
   ·next e =>
    have h1:=dC h (runOk e)
    split
    ·split
     ·next e=>exact dC h1 (runHalt e)
     ·trivial
    ·exact h1
    ·exact h1
    ·split
     ·exact h1
     ·split
      ·next e=>have h2:=runOk e;exact dC h1 h2
      ·trivial
    ·exact h1
    ·exact h1
    ·trivial
theorem look0{d:Nat}{p:Program}{gs:Array Goroutine}{rest:Rest}{w:World}(h:d<=w.drawn):S0 d (look p gs rest w):=by
 unfold look
 dsimp only
 split
 ·split
  ·trivial
  ·split
   ·trivial
   ·split
    ·next e=>have h2:=runOk e;exact dC h h2
    ·trivial
    ·trivial
 ·trivial
theorem look1{d:Nat}{p:Program}{gs:Array Goroutine}{rest:Rest}{w:World}{s:Stepped}(e:look p gs rest w=s)(h:d<=w.drawn):S0 d s:=by
 rw[<-e];exact look0 h
theorem drain0(w:World)(c:Nat):(drain w c).2.drawn=w.drawn:=by
 unfold drain;split<;>rfl
theorem retime0(m:Machine)(k:Nat)(t:Timer)(a b:Nat):(retime m k t a b).2.world.drawn=m.world.drawn:=by
 unfold retime
 dsimp only
 split
 ·exact drain0 _ _
 ·rfl
theorem timer0{m m':Machine}{op:TimerOp}{v:Value}(h:timerOp m op=.ok (v,m')):m'.world.drawn=m.world.drawn:=by
 have named:∀(m:Machine)(var:Addr)(f:Nat->Timer->Value×Machine),(∀k t,(f k t).2.world.drawn=m.world.drawn) ->
   timerOp.named m var f=.ok (v,m')->m'.world.drawn=m.world.drawn:=by
  intro m var f hf h;unfold timerOp.named at h
  split at h
  ·next k _ =>
   have e:=bX Prod.snd (Except.ok.inj h)
   dsimp only at e
   rw[<-e];exact hf _ _
  ·cases h
 cases op<;>unfold timerOp at h
 ·dsimp only at h
  split at h
  ·cases h;rfl
  ·split at h
   ·split at h
    ·cases h
    ·cases h;rfl
   ·cases h
 ·exact named _ _ _ (fun k t=>retime0 ..) h
 ·dsimp only at h
  split at h
  ·next e =>
   have:∀{m1:Machine}{a:Addr},timerOp.opened m a=some m1->m1.world.drawn=m.world.drawn:=by
    intro m1 a e;unfold timerOp.opened at e
    split at e
    ·split at e
     ·cases e;rfl
     ·cases e
    ·cases e;rfl
   rw[named m _ _ (fun k t=>by rw[retime0,this e]) h]
  ·cases h
 ·cases h;rfl
theorem serve0{d:Nat}{p:Program}{m:Machine}{k:Nat}(h:d<=m.world.drawn):S0 d (serve p m k):=by
 unfold serve
 split
 ·trivial
 ·exact h
 ·dsimp only
  split
  ·trivial
  ·exact h
theorem runT_0{d:Nat}{p:Program}{m:Machine}{i:Nat}{b:Bool}(h:d<=m.world.drawn):S0 d (runT p m i b).1:=by
 have key:∀(main:Bool)(g:Goroutine)(s:GStep),stepG p main g m.world b=s->G0 d s:=by
  rintro main g s rfl;exact stepG0 h
 unfold runT
 dsimp only
 split
 all_goals (have hk:=key _ _ _ ‹_›;dsimp only [G0]at hk)
 ·trivial
 ·exact comm0 hk
 ·exact hk
 ·exact hk
 ·split
  ·trivial
  ·exact hk
 ·exact hk
 ·exact look0 hk
 ·exact hk
 ·exact hk
 ·split
  ·exact hk
  ·split
   ·next e=>have h3:=endThrow1 e hk;exact h3
   ·trivial
  ·trivial
 ·split
  ·next e=>have:=timer0 e;rw[<-this]at hk;exact hk
  ·split
   ·next e=>have h3:=endThrow1 e hk;exact h3
   ·trivial
  ·trivial
  ·trivial
def M0(d:Nat):Move->Prop
 |.goroutine m _=>d<=m.world.drawn
 |.machine s _=>S0 d s
theorem askOn0{d:Nat}{p:Program}{m:Machine}(h:d<=m.world.drawn):M0 d (askOn p m):=by
 have pick:∀(m:Machine)(rs:List Nat),d<=m.world.drawn->M0 d (match (choose (.sched rs.length)).run p m.world with
   | .halt _ w=>.machine (.ended (.stuck "sched" "") w)
   |.ok k world =>
    if rs.length<=1 then .goroutine { m with world } (rs.getD k 0) else
    match (choose (.extern "sched.slice" 65536)).run p world with
    | .halt _ w=>.machine (.ended (.stuck "sched.slice" "") w)
    |.ok n world=>.goroutine { m with world,rest:={ m.rest with slice:=if n=0 then none else some (rs.getD k 0,n) } } (rs.getD k 0)):=by
  intro m rs h
  split
  ·trivial
  ·next e =>
   have h1:=runOk e
   split
   ·exact dC h h1
   ·split
    ·trivial
    ·next e2=>have h2:=runOk e2;exact dC h (dC h1 h2)
 unfold askOn
 dsimp only
 split
 ·trivial
 ·next e =>
  have h1:=dC h (runOk e)
  split
  ·exact serve0 h1
  ·split
   ·split
    ·exact h1
    ·split
     ·exact h1
     ·split
      ·trivial
      ·trivial
   ·split
    ·exact pick ⟨_,m.gs,m.rest⟩ _ h1
    ·split
     ·trivial
     ·next e=>have h2:=runOk e;exact pick ⟨_,m.gs,m.rest⟩ _ (dC h1 h2)
     ·next e=>have h2:=runOk e;exact dC h1 h2
     ·next e=>have h2:=runOk e;exact pick (Machine.advanceTo ⟨_,m.gs,m.rest⟩ _) _ (dC h1 h2)
theorem move0{d:Nat}{p:Program}{m:Machine}(h:d<=m.world.drawn):M0 d (move p m):=by
 have ask0:∀m:Machine,d<=m.world.drawn->M0 d (ask p m):=by
  intro m h;unfold ask
  split
  ·split
   ·trivial
   ·next e =>
    have h1:=dC h (runOk e)
    split
    ·next e2=>have h3:=look1 e2 h1;exact askOn0 h3
    ·next s e2=>exact look0 h1
   ·next e=>exact askOn0 (dC h (runOk e))
  ·exact askOn0 h
 unfold move
 split
 ·split
  ·exact h
  ·trivial
 ·split
  ·split
   ·exact h
   ·exact ask0 _ h
  ·exact ask0 _ h
theorem step0{p:Program}{m m':Machine}(h:step p m=.next m'):m.world.drawn<=m'.world.drawn:=by
 have:S0 m.world.drawn (step p m):=by
  have hm:=move0 (p:=p) (aE m.world.drawn);unfold step stepT
  split
  ·next e=>rw[e]at hm;exact runT_0 hm
  ·next e=>rw[e]at hm;exact hm
 rw[h]at this;exact this
theorem runN0{p:Program}:∀(n:Nat)(m m':Machine),runN p n m=.next m'->m.world.drawn<=m'.world.drawn
 |0,m,m',h=>by cases h;exact aE _
 |n+1,m,m',h=>by
  unfold runN at h
  split at h
  ·next e=>exact dC (step0 e) (runN0 n _ _ h)
  ·next e=>cases hs:step p m with
   |next m1=>exact absurd hs (e m1)
   |ended o w=>rw[hs]at h;cases h
theorem calls0{P:Program}{f:FuncId}{args:Array Value}{w:World}{R:Ending->World->Prop}(h:Calls P f args w R): Calls P f args w (fun e w'=>R e w'/\(e=.outgrown\/w.drawn<=w'.drawn)):=by
 intro cs;obtain⟨e,w',fr,hr,hc,hf,hl⟩:=h cs;refine⟨e,w',fr,⟨hr,?_⟩,hc,hf,hl⟩
 cases e with
 |outgrown=>exact .inl rfl
 |returned v=>obtain⟨n,hn⟩:=hc;exact .inr (runN0 n _ _ hn)
 |panicked c=>obtain⟨n,hn⟩:=hc;exact .inr (runN0 n _ _ hn)
end Dw.Drw
namespace Go.Proofs
open Go.Shelf
def Tryz.sortQ86_ren:Go.Shelf.Ren:=⟨fun|6=>142|15=>159|14=>192|28=>217|29=>218|20=>253|21=>254|22=>255|23=>256|24=>257|25=>258|26=>259|27=>260|46=>296|47=>273|48=>274|49=>297|50=>298|57=>324|n=>n,fun|22=>152|24=>86|25=>232|3=>3|39=>248|0=>0|53=>254|55=>253|4=>4|46=>293|45=>292|50=>156|5=>5|9=>9|66=>333|70=>337|76=>358|77=>257|n=>n,fun|n=>n⟩
theorem Tryz.sortQ86:Go.Proofs.SlLaysF0.n6 Tryz.prog Tryz.sortQ86_ren:={
 mixed:=zb
 f6:=⟨Tryz.f142.name,zc,Tryz.func142.trans (bX some zb)⟩
 f14:=⟨Tryz.f192.name,zc,Tryz.func192.trans (bX some zb)⟩
 f15:=Tryz.func159.trans (bX some zb)
 f20:=⟨Tryz.f253.name,zc,Tryz.func253.trans (bX some zb)⟩
 f21:=⟨Tryz.f254.name,zc,Tryz.func254.trans (bX some zb)⟩
 f22:=⟨Tryz.f255.name,zc,Tryz.func255.trans (bX some zb)⟩
 f23:=⟨Tryz.f256.name,zc,Tryz.func256.trans (bX some zb)⟩
 f24:=⟨Tryz.f257.name,zc,Tryz.func257.trans (bX some zb)⟩
 f25:=⟨Tryz.f258.name,zc,Tryz.func258.trans (bX some zb)⟩
 f26:=⟨Tryz.f259.name,zc,Tryz.func259.trans (bX some zb)⟩
 f27:=⟨Tryz.f260.name,zc,Tryz.func260.trans (bX some zb)⟩
 f28:=Tryz.func217.trans (bX some zb)
 f29:=Tryz.func218.trans (bX some zb)
 f46:=⟨Tryz.f296.name,zc,Tryz.func296.trans (bX some zb)⟩
 f47:=Tryz.func273.trans (bX some zb)
 f48:=Tryz.func274.trans (bX some zb)
 f49:=⟨Tryz.f297.name,zc,Tryz.func297.trans (bX some zb)⟩
 f50:=⟨Tryz.f298.name,zc,Tryz.func298.trans (bX some zb)⟩
 f57:=⟨Tryz.f324.name,zc,Tryz.func324.trans (bX some zb)⟩
 t0:=Tryz.underlying0
 a0:=Tryz.isAgg0
 z0:=Tryz.sizeOf0
 v0:=Tryz.zeroValue0
 t3:=Tryz.underlying3
 a3:=Tryz.isAgg3
 z3:=Tryz.sizeOf3
 v3:=Tryz.zeroValue3
 t4:=Tryz.underlying4
 a4:=Tryz.isAgg4
 z4:=Tryz.sizeOf4
 v4:=Tryz.zeroValue4
 t5:=Tryz.underlying5
 a5:=Tryz.isAgg5
 z5:=Tryz.sizeOf5
 v5:=Tryz.zeroValue5
 t9:=Tryz.underlying9
 a9:=Tryz.isAgg9
 z9:=Tryz.sizeOf9
 v9:=Tryz.zeroValue9
 t22:=Tryz.underlying152
 a22:=Tryz.isAgg152
 z22:=Tryz.sizeOf152
 v22:=Tryz.zeroValue152
 t25:=Tryz.underlying232
 a25:=Tryz.isAgg232
 z25:=Tryz.sizeOf232
 v25:=Tryz.zeroValue232
 t39:=Tryz.underlying248
 a39:=Tryz.isAgg248
 z39:=Tryz.sizeOf248
 v39:=Tryz.zeroValue248
 t45:=Tryz.underlying292
 a45:=Tryz.isAgg292
 z45:=Tryz.sizeOf292
 v45:=Tryz.zeroValue292
 t46:=Tryz.underlying293
 a46:=Tryz.isAgg293
 z46:=Tryz.sizeOf293
 v46:=Tryz.zeroValue293
 t50:=Tryz.underlying156
 a50:=Tryz.isAgg156
 z50:=Tryz.sizeOf156
 v50:=Tryz.zeroValue156
 t53:=Tryz.underlying254
 a53:=Tryz.isAgg254
 z53:=Tryz.sizeOf254
 v53:=Tryz.zeroValue254
 t55:=Tryz.underlying253
 a55:=Tryz.isAgg253
 z55:=Tryz.sizeOf253
 v55:=Tryz.zeroValue253
 t66:=Tryz.underlying333
 a66:=Tryz.isAgg333
 z66:=Tryz.sizeOf333
 v66:=Tryz.zeroValue333
 t70:=Tryz.underlying337
 a70:=Tryz.isAgg337
 z70:=Tryz.sizeOf337
 v70:=Tryz.zeroValue337
 t76:=Tryz.underlying358
 a76:=Tryz.isAgg358
 z76:=Tryz.sizeOf358
 v76:=Tryz.zeroValue358
 t77:=Tryz.underlying257
 a77:=Tryz.isAgg257
 z77:=Tryz.sizeOf257
 v77:=Tryz.zeroValue257 }
end Go.Proofs
namespace Go.Proofs.YtbbchlpccgkikaaGreatDoor
open Go.Shelf Go.RowKit Go.Lib Go.Sort Dw
structure QG (B:Nat) (w:World) where
 x:QM
 ok:∀u,Below B w u->QOk u x
abbrev encG{B:Nat}{w:World}(x:QG B w):List Value:=encQ x.x
abbrev cmpG{B:Nat}{w:World}(x y:QG B w):Int:=cmpN (x.x.q.num.natAbs*y.x.q.den) (y.x.q.num.natAbs*x.x.q.den)
theorem QG.ok0{B:Nat}{w:World}(x:QG B w):QOk w x.x:=x.ok w (aJ _ _)
theorem cmp_lt_iff{p q:Rat}(hp:0<=p)(hq:0<=q):cmpN (p.num.natAbs*q.den) (q.num.natAbs*p.den)<0↔p<q:=by
 have e1:((p.num.natAbs:Nat):Int)=p.num:=Int.natAbs_of_nonneg (Rat.num_nonneg.2 hp);have e2:((q.num.natAbs:Nat):Int)=q.num:=Int.natAbs_of_nonneg (Rat.num_nonneg.2 hq)
 have hl:p<q↔p.num.natAbs*q.den<q.num.natAbs*p.den:=by
  rw[Rat.lt_iff,<-e1,<-e2]
  exact_mod_cast Iff.rfl
 rw[hl]
 rcases Nat.lt_trichotomy (p.num.natAbs*q.den) (q.num.natAbs*p.den)with h1|h1|h1
 ·rw[zCI h1];exact⟨fun _=>h1,fun _=>zc⟩
 ·rw[zDq h1];exact⟨(fun e=>absurd e zc),(fun e=>za)⟩
 ·rw[zCS h1];exact⟨(fun e=>absurd e zc),(fun e=>za)⟩
theorem lt_cmpG{B:Nat}{w:World}(x y:QG B w):ltOf cmpG x y=decide (x.x.q<y.x.q):=by
 unfold ltOf;rw[decide_eq_decide];exact cmp_lt_iff x.ok0.pos y.ok0.pos
theorem swoG{B:Nat}{w:World}:SWO (ltOf (cmpG (B:=B) (w:=w))) where
 irrefl x:=by rw[lt_cmpG];exact aU (Std.lt_irrefl)
 trans x y z h1 h2:=by
  rw[lt_cmpG]at *;exact aT (Std.lt_trans (eU h1) (eU h2))
 ntrans x y z h1 h2:=by
  rw[lt_cmpG]at *;have h1:=of_decide_eq_false h1;have h2:=of_decide_eq_false h2;refine aU ?_
  grind
theorem grow_of{w w':World}(hb:Below w.heap.size w w')(hd:w.drawn<=w'.drawn):∃q os',w'=grow (w.drewN q) os':=by
 refine⟨w'.drawn-w.drawn,w'.heap.extract w.heap.size w'.heap.size,?_⟩
 have hh:w'.heap=w.heap++w'.heap.extract w.heap.size w'.heap.size:=by
  apply Array.ext_getElem?
  intro i
  by_cases hi:i<w.heap.size
  ·rw[Array.getElem?_append_left hi,hb.block i hi]
  ·rw[Array.getElem?_append_right za,Array.getElem?_extract]
   by_cases hi2:i<w'.heap.size
   ·rw[aD za];congr 1;omega
   ·rw[aW za,Array.getElem?_eq_none za]
 have h1:=hb.os;have h2:=hb.tape;have h3:=hb.output;unfold grow World.drewN;simp only;rw[<-hh,Nat.add_sub_cancel' hd,<-h1,<-h2,<-h3]
theorem ownQ_put{w:World}{B g n cap q:Nat}{l S:List QM}(h:OwnQ w B (.slice (some ⟨g,0,none⟩) n cap) l)(F:Array Value)(os:Array Obj)(hF:F.toList=S.flatMap encQ)(hS:S.length=n): OwnQ (grow (putRow id (Sort.ahead w q) g 0 F) os) B (.slice (some ⟨g,0,none⟩) n cap) S:=by
 rcases h.2 with ⟨e0,_⟩|⟨g',cap',cur,e0,hb,hg,hn,hm,hs,ht⟩
 ·cases e0
 ·injection e0 with e1 e2 e3
  injection e1 with e1
  injection e1 with e1
  subst e1;subst e3;have hl:=zDc l;have hz:F.size=n*3:=by rw[<-Array.length_toList,hF,zDc,hS]
  have h1:l.length=n:=by
   have:=h.1;rw[hl]at this;omega
  have hlt:g<w.heap.size:=zAh hg;unfold OwnQ zAs;refine⟨by rw[zDc],.inr ⟨g,cap,putCells id 0 F cur,by rw[hS],hb,?_,za,hm,by simpa[putCells]using hs,?_⟩⟩
  ·rw[heap_grow_old _ _ (by simpa[putRow,mapBlock,Sort.ahead]using hlt)]
   simp[putRow,mapBlock,Sort.ahead,Array.getElem?_modify,hg,onCells]
  ·rw[<-hF,hS]
   apply List.ext_getElem?
   intro j;rw[List.getElem?_take,Array.getElem?_toList,Array.getElem?_toList]
   by_cases hj:j<n*3
   ·have hjc:j<cur.size:=by omega
    simp only[aD hj,putCells,Array.getElem?_mapIdx,Array.getElem?_eq_getElem hjc,aH];rw[aD za,Array.getElem?_eq_getElem za];simp[getElem!_pos,show j<F.size by omega]
   ·rw[aW hj,Array.getElem?_eq_none za]
theorem flatG{B:Nat}{w:World}[Inhabited (QG B w)](S:List (QG B w)):(flatK encG 3 S.toArray).toList=(S.map QG.x).flatMap encQ:=by
 apply List.ext_getElem?
 intro j
 by_cases hj:j<S.length*3
 ·have hi:j/3<S.length:=by omega
  have h2:=flat_at (enc:=encQ) (k:=3) (fun _=>rfl) (S.map QG.x) (j/3) yf (j%3) za;rw[show j/3*3+j%3=j by omega]at h2;have hs:j<(flatK encG 3 S.toArray).size:=by rw[size_flatK];simpa using hj
  have h3:=get_flatK encG 3 S.toArray j yg;rw[getElem!_pos (flatK encG 3 S.toArray) j hs]at h3;rw[h2,Array.getElem?_toList,Array.getElem?_eq_getElem hs,h3,eI]
  have hget:S.toArray[j/3]! = S[j/3]:=by
   have:j/3<S.toArray.size:=yf;rw[getElem!_pos S.toArray (j/3) this];rfl
  have hm:j%3<(encG S[j/3]).length:=by show _<3;omega
  rw[hget,getElem!_pos (encG S[j/3]) (j%3) hm];exact(List.getElem?_eq_getElem hm).symm
 ·rw[List.getElem?_eq_none (by rw[Array.length_toList,size_flatK];simpa using Nat.le_of_not_lt hj),List.getElem?_eq_none (by rw[zDc,dE];omega)]
theorem below_growQ{B:Nat}{w:World}(os:Array Obj)(h:B<=w.heap.size):Below B w (grow w os):=⟨rfl,rfl,rfl,by rw[size_grow];omega,fun _ hk=>heap_grow_old _ _ (aB hk h)⟩
theorem below_sortG{B g m:Nat}{w:World}[Inhabited (QG B w)]{dk:Array (QG B w)}{os:Array Obj}(hg:B<=g)(hB:B<=w.heap.size):Below B w (sortWorldK encG 3 w g 0 m dk os):=by
 unfold sortWorldK putRowK;have h:=Go.Lib.below_putRow (enc:=id) (q:=m) (d:=flatK encG 3 dk) (aJ B w) hg;exact h.trans (below_growQ os (dC hB h.size))
theorem cmpQ_g{B:Nat}{w W:World}(x y:QG B w)(hW:Below B w W):Calls Tryz.prog 48 (#[.agg (encG x).toArray,.agg (encG y).toArray]++#[]) W fun e w'=>e=.returned (.int .i64 (cmpG x y))/\∃q os',w'=grow (W.drewN q) os':=by
 have hx:=x.ok W hW;have hy:=y.ok W hW;refine(Dw.Drw.calls0 (RCmp_c x.x.A x.x.A2 y.x.A y.x.A2 x.x.c x.x.c2 y.x.c y.x.c2 x.x.q.num.natAbs x.x.q.den y.x.q.num.natAbs y.x.q.den W hx.n1 hx.n2 hy.n1 hy.n2 hx.sz.1.1 hx.sz.2.1 hy.sz.1.1 hy.sz.2.1)).mono ?_;rintro e w' ⟨⟨rfl,hb⟩,hd⟩;exact⟨rfl,grow_of hb (hd.resolve_left (fun h=>qg))⟩
theorem cmpLaysG{B g size:Nat}{w:World}[Inhabited (QG B w)](hg:B<=g)(hB:B<=w.heap.size):CmpLays Tryz.prog 48 #[] (encG (B:=B) (w:=w)) 3 cmpG g 0 size w:=
 fun _ _ _ _ x y=>cmpQ_g x y (below_sortG hg hB)
def GivesSoQ(B:Nat)(v:Value)(l:List QM)(w:World)(e:Ending)(w':World):Prop:=
 e=.returned (.tuple #[])/\∃S:List QM,S.Perm l/\S.Pairwise (fun a b=>a.q<=b.q)/\OwnQ w' B v S/\Below B w w'
theorem oneG{B:Nat}{w:World}(x:QG B w):∀u∈encG x,u.oneCell'=true:=fun u hu=>by
 simp only[encG,encQ,eQ,eZ,or_false]at hu
 rcases hu with rfl|rfl|rfl<;>rfl
theorem sortQ_c(B:Nat)(v:Value)(l:List QM)(w:World)(hB:B<=w.heap.size)(hn:l.length<=1000000)(h:OwnQ w B v l)(hl:∀x∈l,∀u,Below B w u->QOk u x): Calls Tryz.prog 142 #[v,.func (.func 48) #[] #[]] w (GivesSoQ B v l w):=by
 by_cases h0:0<l.length
 case neg =>
  have hl0:l=[]:=List.length_eq_zero_iff.1 za;subst hl0;obtain⟨A,c,rfl,_⟩:=zAs.rdk h;have hS:=AnyF.slices_SortFunc_none Tryz.sortQ86 A c (.func (.func 48) #[] #[]) w;change Calls Tryz.prog 142 _ _ _ at hS;refine hS.mono fun e w' ⟨he,hw⟩=>?_
  subst hw;exact⟨he,[],List.Perm.refl _,List.Pairwise.nil,h,aJ _ _⟩
 case pos =>
  obtain⟨g,c,rfl⟩:=zCd h h0;obtain⟨hlc,hBg,hgl⟩:=OwnQ.cap h h0;obtain⟨L,hL⟩:∃L:List (QG B w),L.map QG.x=l:=⟨l.attach.map fun x=>⟨x.1,hl x.1 x.2⟩,by rw[List.map_map];simp[Function.comp_def]⟩;have hLl:L.length=l.length:=by rw[<-hL,dE]
  haveI:Inhabited (QG B w):=⟨L[0]'(by omega)⟩
  have hH:HoldsK encG 3 w g 0 L.toArray:=by
   intro j hj;have hz:j<l.length*3:=by rw[size_flatK]at hj;simpa[hLl]using hj
   refine⟨?_,dL (xs:=l.flatMap encQ) h _⟩
   rw[bJ,dK (xs:=l.flatMap encQ) h j hz,<-hL,<-flatG,Array.getElem?_toList,Array.getElem?_eq_getElem hj,getElem!_pos (flatK encG 3 L.toArray) j hj]
   rfl
  have hsz:(sizeOf 86).run Tryz.prog w=.ok 3 w:=zb;have eg:∀args w,(callFunc 48 args).run Tryz.prog w=.ok (.enter 48 args) w:=enters_of Tryz.func48 zb rfl;have hS:=AnyQ.slices_SortFunc Tryz.sortQ86 3 Tryz.isAgg86 Tryz.sizeOf86 encG (fun _=>rfl) oneG cmpG swoG 48 #[] g 0 c L.toArray w eg (cmpLaysG hBg hB) hH hgl ze;change Calls Tryz.prog 142 _ _ _ at hS;rw[List.size_toArray,hLl]at hS;refine hS.mono fun e w' ⟨he,d',n,os,hp,hs,hw⟩=>⟨he,d'.toList.map QG.x,?_,?_,?_,?_⟩
  ·have h:=hp.2.2
   rw[Array.extract_eq_self_of_le (by rw[hp.1];simp;omega),Array.extract_eq_self_of_le ze]at h;have h2:d'.toList.Perm L:=zr;rw[<-hL];exact h2.map _
  ·rw[List.pairwise_map,List.pairwise_iff_getElem]
   intro i j hi hj hij;have hsz:d'.size=L.length:=by rw[hp.1];simp
   have h:=hs i j (bW _) hij (by simp at hj;omega);rw[lt_cmpG]at h;have hj':j<d'.size:=yg;have hi':i<d'.size:=yf;rw[getElem!_pos d' j hj',getElem!_pos d' i hi']at h;have h:=of_decide_eq_false h;simp only[Array.getElem_toList]
   grind
  ·rw[hw]
   unfold sortWorldK putRowK
   have hd:(d'.toList.map QG.x).length=l.length:=by
    rw[dE,Array.length_toList,hp.1];simpa using hLl
   exact ownQ_put h _ os (by
    have:=flatG d'.toList
    rwa [Array.toArray_toList]at this) hd
  ·rw[hw]
   exact below_sortG hBg hB
end Go.Proofs.YtbbchlpccgkikaaGreatDoor
namespace Go.Proofs.YtbbchlpccgkikaaGreatDoor
open Go.RowKit Dw
def offM(M:List Bool)(x:Int):Bool:=!(M.getD x.toNat false)
def IdxRel(w:World)(M:List Bool)(L:List Int)(m:Nat)(i:Value)(wr:World):Prop:=
 wr=w/\∃k:Nat,k+m=L.length/\i=.int .i64 k/\∀j (h:j<L.length),j<k->offM M L[j]=false
def GivesIx(t:Bool)(w:World)(e:Ending)(w':World):Prop:=∃z:Int,e=.returned (.int .i64 z)/\w=w'/\decide (0<=z)=t
theorem indexFunc_c(Ai As:Option Addr)(ci cs p:Nat)(L:List Int)(M:List Bool)(w:World)(hL:Rd1 (Value.int .i64) w Ai L)(hM:Rd1 Value.bool w As M)(hp:w.cell? ⟨p,0,none⟩=some (.slice As M.length cs))(hn:L.length<=200)(hm:M.length<=200)(hx:∀j (h:j<L.length),∃n:Nat,L[j]=(n:Int)/\n<M.length): Calls Tryz.prog 208 #[.slice Ai L.length ci,.func (.func 161) #[] #[.pointer (some ⟨p,0,none⟩)]] w (GivesIx (L.any (offM M)) w):=by
 generalize hres:L.any (offM M)=res;have HR:=zq hres;clear hres;have hpl:p<w.heap.size:=World.block_lt_of_cell? w _ hp
 go_enter Tryz.func208,Tryz.ntmps208;go_wp2
 go_loopg[8] L.length (IdxRel w M L)
 case atStart=>exact⟨rfl,0,za,rfl,fun j _ hj=>absurd hj za⟩
 case round =>
  obtain⟨hw,k,hk,rfl,hpre⟩:=hrel;subst hw;have HK:=zq hk;have HP:=zq hpre;have hk1:k<=L.length:=za;clear hk hpre
  by_cases hlt:k<L.length
  ·obtain⟨b,o,rfl,hb,hc⟩:=hL.at_ za
   obtain⟨n,hn1,hn2⟩:=hx k hlt;have hc0:=hc k hlt;rw[hn1]at hc0;obtain⟨b2,o2,rfl,hb2,hc2⟩:=hM.at_ za;have hc1:=hc2 n hn2;have hn0:(0:Int)<=(n:Int):=za;have hn3:(n:Int)<(M.length:Int):=za;have he:offM M L[k]=!M[n]:=by rw[hn1];simp[offM,hn2]
   have HE:=zq he
   cases hq:M[n]with
   |false =>
    rw[hq]at hc1;have HQ:=zq hq;clear hc hc2 he hq;go_wp2;go_ret
    refine⟨_,rfl,rfl,?_⟩
    rw[<-HR.o];have:L.any (offM M)=true:=List.any_eq_true.2 ⟨L[k],bI hlt,by rw[HE.o,HQ.o];rfl⟩;rw[this];simp
   |true =>
    rw[hq]at hc1;have HQ:=zq hq;clear hc hc2 he hq;go_wp2
    go_roundg (gk-1)
    case measure=>have:=HK.o;omega
    case rel =>
     refine⟨rfl,k+1,zh,zi,fun j hj hjk=>?_⟩
     rcases aQ j k with h1|h1
     ·exact HP.o j hj h1
     ·obtain rfl:j=k:=by omega
      rw[HE.o,HQ.o];rfl
  ·go_wp2
   go_ret
   refine⟨_,rfl,rfl,?_⟩
   rw[<-HR.o]
   have:L.any (offM M)=false:=by
    rw[dV];intro x hx;obtain⟨j,hj,rfl⟩:=dO hx;rw[HP.o j hj za];simp
   rw[this];simp
theorem containsFunc_c(Ai As:Option Addr)(ci cs p:Nat)(L:List Int)(M:List Bool)(w:World)(hL:Rd1 (Value.int .i64) w Ai L)(hM:Rd1 Value.bool w As M)(hp:w.cell? ⟨p,0,none⟩=some (.slice As M.length cs))(hn:L.length<=200)(hm:M.length<=200)(hx:∀j (h:j<L.length),∃n:Nat,L[j]=(n:Int)/\n<M.length): Calls Tryz.prog 156 #[.slice Ai L.length ci,.func (.func 161) #[] #[.pointer (some ⟨p,0,none⟩)]] w (zBk (.bool (L.any (offM M))) w):=by
 go_enter Tryz.func156,Tryz.ntmps156;(go_wp2_with fail);refine(indexFunc_c _ _ _ _ p L M w hL hM hp hn hm hx).mono ?_;rintro e w1⟨z,rfl,rfl,hz⟩;have HZ:=zq hz;clear hz;go_wp2;go_ret
 exact zBk.mk (zDm HZ.o) rfl
def fullL(l:List Rg)(S:Nat->Bool):List Bool:=(List.range l.length).map (fullP l S)
theorem fullL_len(l:List Rg)(S:Nat->Bool):(fullL l S).length=l.length:=by simp[fullL]
theorem mem_zip{L:List Nat}{p:Nat×Nat}:p∈L.zipIdx↔∃h:p.2<L.length,L[p.2]=p.1:=by
 rw[List.mem_zipIdx_iff_getElem?];rw[List.getElem?_eq_some_iff]
theorem below_off(l:List Rg)(S:Nat->Bool)(x:Nat):(!(zAQ l l.length x).any (offM ((zAf l).map S)))=fullP l S x:=by
 have e:zBG l l.length=zAf l:=rfl;unfold zAQ fullP;rw[e,bD];simp only[Bool.not_eq_true',dV,List.all_eq_true]
 constructor
 ·intro h i hi
  obtain⟨n,hn,rfl⟩:=dO hi
  cases hu:under l (zAf l)[n] x with
  |false=>rfl
  |true =>
   have:=h (n:Int) (List.mem_map.2 ⟨((zAf l)[n],n),List.mem_filter.2 ⟨mem_zip.2 ⟨hn,rfl⟩,hu⟩,rfl⟩)
   simpa[offM,hn]using this
 ·intro h z hz
  obtain⟨p,hp,rfl⟩:=List.mem_map.1 hz;obtain⟨hp1,hp2⟩:=List.mem_filter.1 hp;obtain⟨hlt,he⟩:=mem_zip.1 hp1;have:=h p.1 (by rw[<-he];exact bI hlt);rw[hp2]at this;have hs:S p.1=true:=by simpa using this
  have e2:offM ((zAf l).map S) (p.2:Int)=!(S (zAf l)[p.2]):=by simp[offM,hlt]
  rw[e2,he,hs];simp
theorem below_lt(l:List Rg)(S:Nat->Bool)(x:Nat)(j:Nat)(h:j<(zAQ l l.length x).length):∃n:Nat,(zAQ l l.length x)[j]=(n:Int)/\n<((zAf l).map S).length:=by
 have hm:=bI h;generalize (zAQ l l.length x)[j]=z at hm;unfold zAQ at hm;obtain⟨p,hp,rfl⟩:=List.mem_map.1 hm;obtain⟨hp1,hp2⟩:=List.mem_filter.1 hp;obtain⟨hlt,he⟩:=mem_zip.1 hp1;exact⟨p.2,rfl,by rw[dE];exact hlt⟩
theorem zCE{α:Type}{enc:α->List Value}{k b b':Nat}{w:World}{e:TypeId}{v:Value}{l:List α}(h:zAs enc k w b e v l)(hb:b'<=b):zAs enc k w b' e v l:=
 ⟨h.1,h.2.imp id fun⟨g,cap,cur,h1,h2,h3⟩=>⟨g,cap,cur,h1,dC hb h2,h3⟩⟩
def GivesAo(l:List Ar)(w:World)(e:Ending)(w':World):Prop:=
 ∃A c,e=.returned (.slice A l.length c)/\zAs encA 2 w' w.heap.size 99 (.slice A l.length c) l/\Below w.heap.size w w'
def PlRel1(W:World)(l:List Rg)(S:Nat->Bool)(go:Nat)(m:Nat)(i:Value)(wr:World):Prop:=
 ∃k:Nat,k+m=l.length/\i=.int .i64 k/\wr.heap[go]?=some (.cells (bArr (fullL l S) k) 4 (0,0))/\Below W.heap.size W wr
def PlRel2(W:World)(l:List Rg)(S:Nat->Bool)(go:Nat)(m:Nat)(out i:Value)(wr:World):Prop:=
 ∃k:Nat,k+m=l.length/\i=.int .i64 k/\wr.heap[go]?=some (.cells (bArr (fullL l S) l.length) 4 (0,0))/\zAs encA 2 wr W.heap.size 99 out (gathA l (zAE l S) k)/\Below W.heap.size W wr
theorem plainO_c(A As:Option Addr)(c r1 r2 g1 g2:Nat)(AL:Option Addr)(cL cs:Nat)(l:List Rg)(S:Nat->Bool)(w:World)(g:GoodR l)(h:WR w A r1 r2 g1 g2 AL l)(h2:Rd1 Value.bool w As ((zAf l).map S)): Calls Tryz.prog 98 #[wv A c r1 r2 g1 g2 AL cL l,.slice As ((zAf l).map S).length cs] w (GivesAo (zAN l S) w):=by
 unfold wv;have hn:=g.len
 have hil:((zAf l).map S).length<=200:=by
  rw[dE];exact dC (leafTo_le l l.length) hn
 have hmk:=zCG _ _ elBool l.length za za rfl;generalize hM:(zAf l).map S=M at *;have HM:=zq hM;clear hM
 go_enter Tryz.func98,Tryz.ntmps98;go_wp2;clear hmk;generalize hW0:w.alloc (.cells #[.slice A l.length c,.map (some r1),.slice AL (zBF l (fun i=>!zAB l i) l.length).length cL,.map (some r2),.slice (some ⟨g1,0,none⟩) l.length l.length,.slice (some ⟨g2,0,none⟩) l.length l.length] 103)=W0;have hW0s:W0.heap.size=w.heap.size+1:=by rw[<-hW0];simp
 have hW0b:Below w.heap.size w W0:=by rw[<-hW0];exact(aJ _ _).alloc (aE _) _
 have hWr:=aK w (.cells #[.slice A l.length c,.map (some r1),.slice AL (zBF l (fun i=>!zAB l i) l.length).length cL,.map (some r2),.slice (some ⟨g1,0,none⟩) l.length l.length,.slice (some ⟨g2,0,none⟩) l.length l.length] 103);rw[hW0]at hWr;clear hW0;generalize hW:W0.alloc (.cells #[.slice As M.length cs] 108)=W;have hWs:W.heap.size=w.heap.size+1+1:=by rw[<-hW];simp[hW0s]
 have hWb0:Below W0.heap.size W0 W:=zu;have hWb:Below w.heap.size w W:=zAa hW0b hWb0;have hWr2:W.heap[w.heap.size]?=_:=(hWb0.block w.heap.size za).trans hWr;have hW0':W.cell? ⟨w.heap.size,0,none⟩=some (.slice A l.length c):=by rw[aX _ w.heap.size 0 _ _ _ hWr2];rfl
 have hW4:W.cell? ⟨w.heap.size,4,none⟩=some (.slice (some ⟨g1,0,none⟩) l.length l.length):=by rw[aX _ w.heap.size 4 _ _ _ hWr2];rfl
 have hWset:W.cell? ⟨w.heap.size+1,0,none⟩=some (.slice As M.length cs):=by
  rw[<-hW,<-hW0s,aX _ W0.heap.size 0 _ _ _ (aK _ _)];rfl
 have hwr:=h.below hWb;have h2':=h2.below hWb;have HWR:=zq hwr;have HWb:=zq hWb;have hwW:w.heap.size<W.heap.size:=za;have hwW1:w.heap.size+1<W.heap.size:=za;have hg1W:=hwr.h1;have hg2W:=hwr.h2;clear hW hWr hWr2 hWb0 hW0b hWb hwr h h2 hW0s W0;rw[<-hWs]
 have hp0:(W.alloc (.cells (Array.replicate l.length (.bool false)) 4)).heap[W.heap.size]?=some (.cells (bArr (fullL l S) 0) 4 (0,0)):=by
  rw[<-bArr_0,fullL_len];exact aK _ _
 have HP0:=zq hp0;clear hp0 hWs;have hmf:∀(fn:Fn)(first cap:Array Value)(w:World),(Instr.makeFunc fn first cap).run Tryz.prog w=.ok (.func fn first cap) w:=fun _ _ _ _=>rfl
 go_loopg[18] l.length (PlRel1 W l S W.heap.size)
 case atStart=>exact⟨0,za,rfl,HP0.o,(aJ _ _).alloc (aE _) _⟩
 clear HP0
 case round =>
  obtain⟨k,hk,rfl,hrow,hbel⟩:=hrel;have HK:=zq hk;have HP:=zq hrow;have HB:=zq hbel;have hk1:k<=l.length:=za;have hws:w.heap.size<wr.heap.size:=aB hwW hbel.size;have hws1:w.heap.size+1<wr.heap.size:=aB hwW1 hbel.size;have hWl:W.heap.size<wr.heap.size:=zAh hrow;have hs0:=(hbel.cell hwW).trans hW0';have hs4:=(hbel.cell hwW).trans hW4;clear hk hrow hbel
  by_cases hlt:k<l.length
  ·obtain⟨Ai,ci,hci,hrd⟩:=HWR.o.bl k hlt
   have hcb:wr.cell? ⟨g2,k,none⟩=some (.slice Ai (zAQ l l.length k).length ci):=(HB.o.cell hg2W).trans hci;have hss:wr.cell? ⟨w.heap.size+1,0,none⟩=some (.slice As M.length cs):=(HB.o.cell hwW1).trans hWset;have hrd1:=hrd.below HB.o;have hset1:=h2'.below HB.o;have hbl:=belowK_le l l.length k;have hbl2:(zAQ l l.length k).length<=200:=za;have hlt2:=below_lt l S k;rw[HM.o]at hlt2;have hg2r:g2<wr.heap.size:=aB hg2W HB.o.size;have HBO:=zq (below_off l S k);have HBS:=zq (bArr_set (fullL l S) (k:=k) (by rw[fullL_len];exact hlt))
   have hco:wr.cell? ⟨W.heap.size,k,none⟩=some (.bool false):=by
    rw[aX _ W.heap.size k _ _ _ HP.o,zCr _ _ (by rw[fullL_len];exact hlt)];simp
   have hfo:=cU wr W.heap.size k _ _ HP.o;(go_wp2_with fail);refine(containsFunc_c Ai As ci cs (w.heap.size+1) (zAQ l l.length k) M wr hrd1 hset1 hss hbl2 hil hlt2).mono ?_;rintro e w1⟨rfl,rfl⟩;clear hrd hrd1 hset1 hci hlt2 hss hcb;go_wp2
   go_roundg (gk-1)
   case measure=>have:=HK.o;omega
   case rel =>
    refine⟨k+1,zh,zi,?_,HB.o.setCell (p:=⟨W.heap.size,k,none⟩) (aE _) _⟩
    have e1:=HBO.o;rw[HM.o]at e1;rw[e1];have e2:=HBS.o;have e3:(fullL l S)[k]'(by rw[fullL_len];exact hlt)=fullP l S k:=by simp[fullL]
    rw[e3]at e2;rw[<-e2];exact eC _ W.heap.size k _ _ _ HP.o
  ·obtain rfl:k=l.length:=by omega
   clear HK hk1 hlt;go_wp2;clear hs0 hs4 hmf hWset h2'
   go_loopg[8,34] l.length (PlRel2 W l S W.heap.size)
   case atStart=>exact⟨0,za,rfl,HP.o,zAs.nil _ _ _ _ _,HB.o⟩
   clear HP HB hws hws1 hWl
   case round =>
    obtain⟨k,hk,rfl,hrow,hown,hbel⟩:=hrel;have HK:=zq hk;have HP:=zq hrow;have HB:=zq hbel;have hk1:k<=l.length:=za;have hws:w.heap.size<wr.heap.size:=aB hwW hbel.size;have hWl:W.heap.size<wr.heap.size:=zAh hrow;have hg1r:g1<wr.heap.size:=aB hg1W hbel.size;have hs4:=(hbel.cell hwW).trans hW4;clear hk hrow hbel
    by_cases hlt:k<l.length
    ·obtain⟨b,o,rfl,hb,hc⟩:=HWR.o.rg.at_ za
     have hbr:b<wr.heap.size:=aB hb HB.o.size;have hc0:wr.cell? ⟨b,o+k*2,none⟩=some (.string (l[k]).nm):=(HB.o.cell hb).trans (hc k hlt).1;have hc1:wr.cell? ⟨b,o+k*2+1,none⟩=some (.string (l[k]).par):=(HB.o.cell hb).trans (hc k hlt).2;have hcu:wr.cell? ⟨g1,k,none⟩=some (.int .i64 (upI l k)):=(HB.o.cell hg1W).trans (HWR.o.up k hlt)
     have hfull:∀j,j<l.length->wr.cell? ⟨W.heap.size,j,none⟩=some (.bool (fullP l S j)):=fun j hj=>by
      rw[aX _ W.heap.size j _ _ _ HP.o,zCr _ _ (by rw[fullL_len];exact hj)];simp[fullL,hj]
     have hck:=hfull k hlt;have HFU:=zq hfull;have hgl:=gathA_le l (zAE l S) k;have hWle:W.heap.size<=wr.heap.size:=Nat.le_of_lt hWl;clear hc hfull
     have keep3:∀{w3:World}{v:Value},((wr.alloc (.cells #[.string (l[k]).nm,.string (l[k]).par] 97)).alloc (.cells #[.string (l[k]).nm,.bool false] 99)).grownBy w3 v.ownBlock->zAs encA 2 wr W.heap.size 99 v (gathA l (zAE l S) k)->w3.heap[W.heap.size]?=some (.cells (bArr (fullL l S) l.length) 4 (0,0)):=fun hg3 hown =>
      (hg3.block _ (zAh (zAF (zAF HP.o))) fun e2=>by
       obtain⟨_,cs,hcs⟩:=zAM hown e2.symm;exact zAA HP.o hcs zc rfl).trans (zAF (zAF HP.o))
     have hnew:((wr.alloc (.cells #[.string (l[k]).nm,.string (l[k]).par] 97)).alloc (.cells #[.string (l[k]).nm,.bool false] 99)).heap[wr.heap.size+1]?=some (.cells (encA ⟨zCg l k,false⟩).toArray 99 (0,0)):=by
      have:=aK (wr.alloc (.cells #[.string (l[k]).nm,.string (l[k]).par] 97)) (.cells #[.string (l[k]).nm,.bool false] 99);rw[show(wr.alloc (.cells #[.string (l[k]).nm,.string (l[k]).par] 97)).heap.size=wr.heap.size+1 by simp]at this;rw[zAH hlt];exact this
     have HNEW:=zq hnew;clear hnew
     cases hf:fullP l S k with
     |false =>
       rw[hf]at hck;have HPT:Hid (zAE l S k=false):=by show _=_;simp[zAE,hf]
       have HO:=zq hown;clear hf keep3 hown;exact ta1
     |true =>
      rw[hf]at hck
      cases hu:up l k with
      |none =>
       have HPT:Hid (zAE l S k=true):=by show _=_;simp[zAE,hf,hu]
       have hui:upI l k=-1:=by rw[upI,hu]
       rw[hui]at hcu;clear hf hu hui;exact taf
      |some j =>
       have hj:=(up_lt hu).2;have hui:upI l k=(j:Int):=by rw[upI,hu]
       rw[hui]at hcu;have hcj:=HFU.o j hj;have hj0:decide ((j:Int)<0)=false:=zd;have hj1:(0:Int)<=(j:Int):=za;have hj2:(j:Int)<(l.length:Int):=za
       cases hfj:fullP l S j with
       |false =>
        rw[hfj]at hcj;have HPT:Hid (zAE l S k=true):=by show _=_;simp[zAE,hf,hu,hfj]
        clear hf hu hui hfj;exact taf
       |true =>
        rw[hfj]at hcj;have HPT:Hid (zAE l S k=false):=by show _=_;simp[zAE,hf,hu,hfj]
        have HO:=zq hown;clear hf hu hui hfj keep3 hown;exact ta1
    ·have hke:k=l.length:=by omega
     have HKE:=zq hke;clear hke;obtain⟨A',c',rfl,hrd⟩:=hown.rd2;go_wp2;go_ret
     have e:gathA l (zAE l S) k=zAN l S:=by rw[HKE.o];rfl
     rw[e]at hown ⊢;exact⟨A',c',rfl,zCE hown HWb.o.size,zAa HWb.o HB.o⟩
end Go.Proofs.YtbbchlpccgkikaaGreatDoor
