/- Parts of the proof, joined: Classes of leaves: their signs plainly, their rows in memory. Package . -/
import Derived.Test.YtieoifkdobcpiaaGreatDoorSg37
set_option maxRecDepth 100000
set_option maxHeartbeats 8000000
namespace Go.Proofs.YtieoifkdobcpiaaGreatDoor
open Go.RowKit Dw
def sgL (rs:List Rg) (th:BA) (i:Nat) (ds:List De):List UInt8:=ds.flatMap fun d=>if zAj d.kd=true∧zCj th d=true then [if lies rs d.ar i=true then 49 else 48] else []
section
variable {rs:List Rg} {th:BA} {i j:Nat} {ds:List De}
theorem sgL_succ {k:Nat} (h:k<ds.length):sgL rs th i (ds.take (k+1))=sgL rs th i (ds.take k)++(if zAj ds[k].kd=true∧zCj th ds[k]=true then [if lies rs ds[k].ar i=true then 49 else 48] else []):=by
 unfold sgL;rw [bF h,List.flatMap_append];simp
theorem sgL_len:(ds:List De)→(sgL rs th i ds).length≤ds.length
 | []=>aC _
 | d::ds=>by
  have ih:=sgL_len ds;unfold sgL at ih ⊢;rw [aM,dC,aR]
  split<;>simp only [aR,dP]<;>omega
theorem sgL_same:(ds:List De)→sgL rs th i ds=sgL rs th j ds→∀ d∈ds,zAj d.kd=true→zCj th d=true→lies rs d.ar i=lies rs d.ar j
 | [],_,d,hd,_,_=>by cases hd
 | a::ds,h,d,hd,hg,hc=>by
  unfold sgL at h;rw [aM,aM] at h;have h2:=List.append_inj h (by split<;>rfl)
  rcases List.mem_cons.1 hd with rfl | hd
  ·have h1:=h2.1
   simp only [hg,hc,and_self,dR,dU,and_true] at h1
   cases h3:lies rs d.ar i<;>cases h4:lies rs d.ar j<;>rw [h3,h4] at h1<;>first | rfl | (exact absurd h1 zc)
  ·exact sgL_same ds h2.2 d hd hg hc
end
def clsF (sg:Nat→BA) (H:List Nat) (s:BA):Option Value:=(H.findIdx? fun h=>decide (sg h=s)).map fun j:Nat=>Value.int .i64 (j:Int)
theorem clsF_new {sg:Nat→BA} {H:List Nat} {k:Nat} (h:clsF sg H (sg k)=none):(fun s=>if s=sg k then some (Value.int .i64 (H.length:Int)) else clsF sg H s)=clsF sg (H++[k]):=by
 funext s
 unfold clsF at h ⊢;rw [List.findIdx?_append]
 by_cases hs:s=sg k
 ·subst hs
  rw [aF rfl,Option.map_eq_none_iff.1 h];simp
 ·rw [aD hs]
  have:[k].findIdx? (fun h=>decide (sg h=s))=none:=by simp;exact fun e=>hs e.symm
  rw [this];simp
theorem clsF_some {sg:Nat→BA} {H:List Nat} {s:BA} {v:Value} (h:clsF sg H s=some v):∃ j,∃ hj:j<H.length,v = .int .i64 (j:Int)∧sg H[j]=s:=by
 unfold clsF at h;obtain ⟨j,hj,rfl⟩:=Option.map_eq_some_iff.1 h;obtain ⟨h1,h2,_⟩:=List.findIdx?_eq_some_iff_getElem.1 hj;exact ⟨j,h1,rfl,eT h2⟩
abbrev eV:Value→List Value:=fun x=>[x]
theorem flatV (l:List Value):l.flatMap eV=l:=by
 induction l with
 | nil=>rfl
 | cons a t ih=>rw [aM,ih];rfl
structure ClsS (W:World) (L r:Nat) (F:BA→Option Value) (v:Value) (vs:List Value) (R:Nat→List Int) (w:World):Prop where
 own:zAE eV 1 w W.heap.size 27 v vs
 rows:RowsI w W.heap.size L vs.length vs.toArray R
 map:zAq Value.string w r F
 rlo:W.heap.size≤r
 llo:L<W.heap.size
 bel:Below W.heap.size W w
section
variable {W w w':World} {L r:Nat} {F:BA→Option Value} {v v':Value} {vs:List Value} {R:Nat→List Int}
theorem ClsS.below (h:ClsS W L r F v vs R w) (hb:Below w.heap.size w w'):ClsS W L r F v vs R w' :=
 ⟨h.own.below hb,h.rows.keepT fun g _ hg=>hb.block g (zAf hg),h.map.below hb,h.rlo,h.llo,zAa h.bel hb⟩
theorem ClsS.upd (h:ClsS W L r F v vs R w) {F':BA→Option Value} (hm:zAq Value.string w' r F') (hg:w.grownBy w' (some r)):ClsS W L r F' v vs R w' :=
 ⟨h.own.grown hg (own_ne_mapJ h.own h.map),h.rows.keepT fun g cs hc=>hg.block g (zAf hc) fun e=>zAg h.map hc (eY e),hm,h.rlo,h.llo,h.bel.grown hg h.bel.size fun k hk=>by
  injection hk with hk;rw [←hk];exact h.rlo⟩
theorem rowsI_snoc {B g1:Nat} (h:RowsI w B g1 vs.length vs.toArray R):RowsI w B g1 (vs++[zAk]).length (vs++[zAk]).toArray (fun x=>if x=vs.length then [] else R x):=by
 have hget:∀ (x:Nat) (u:Value),(vs++[zAk]).toArray[x]?=some u→(x=vs.length∧u=zAk)∨(x≠vs.length∧vs.toArray[x]?=some u):=fun x u hu=>by
  rw [List.getElem?_toArray] at hu
  by_cases e:x<vs.length
  ·rw [List.getElem?_append_left e] at hu
   exact .inr ⟨za,by rw [List.getElem?_toArray];exact hu⟩
  ·rw [List.getElem?_append_right za] at hu
   obtain ⟨h1,h2⟩:=List.getElem?_eq_some_iff.1 hu;have:x=vs.length:=by simp at h1;omega
   subst this;exact .inl ⟨rfl,qp⟩
 refine ⟨zd,fun x u hu=>?_,fun x u hu=>?_,fun x y u t hxy hu ht=>?_⟩
 ·rcases hget x u hu with ⟨rfl,rfl⟩ | ⟨hne,hu⟩
  ·rw [aF rfl];exact zAE.nil _ _ _ _ _
  ·rw [aD hne];exact h.own x u hu
 ·rcases hget x u hu with ⟨rfl,rfl⟩ | ⟨hne,hu⟩
  ·simp [Value.ownBlock]
  ·exact h.ne1 x u hu
 ·rcases hget x u hu with ⟨rfl,rfl⟩ | ⟨hne,hu⟩
  ·exact .inl rfl
  ·rcases hget y t ht with ⟨rfl,rfl⟩ | ⟨hne2,ht⟩
   ·cases hb:u.ownBlock with
    | none=>exact .inl rfl
    | some q=>exact .inr (by simp [Value.ownBlock])
   ·exact h.sep x y u t hxy hu ht
theorem ClsS.snoc (h:ClsS W L r F v vs R w) (ho:zAE eV 1 w' W.heap.size 27 v' (vs++[zAk])) (hg:w.grownBy w' v.ownBlock):ClsS W L r F v' (vs++[zAk]) (fun x=>if x=vs.length then [] else R x) w' :=
 ⟨ho,rowsI_snoc (h.rows.keepT fun g cs hc=>hg.block g (zAf hc) fun e=>by
   obtain ⟨_,cs2,hc2⟩:=zAR h.own e.symm;exact zAA hc hc2 zc rfl),
  h.map.keep (hg.block r h.map.lt fun e=>by
   obtain ⟨_,cs2,hc2⟩:=zAR h.own e.symm;exact zAg h.map hc2 rfl),h.rlo,h.llo,h.bel.grown hg h.bel.size (own_base h.own)⟩
theorem ClsS.put {g c j:Nat} {u u':Value} {m:Int} (h:ClsS W L r F (.slice (some ⟨g,0,none⟩) vs.length c) vs R w) (hj:vs[j]?=some u) (hg:w.grownBy w' u.ownBlock) (ho:zAE encI 1 w' W.heap.size 3 u' (R j++[m]))
  (hat:u'.ownBlock=u.ownBlock∨u'.ownBlock=some w.heap.size):ClsS W L r F (.slice (some ⟨g,0,none⟩) vs.length c) (vs.set j u') (fun x=>if x=j then R j++[m] else R x) (w'.setCell ⟨g,j,none⟩ u'):=by
 have hjA:vs.toArray[j]?=some u:=by rw [List.getElem?_toArray];exact hj
 have hu:=h.rows.own j u hjA;have hrow:=h.rows.push hjA (cY h.llo h.bel.size) hg ho hat;have hown:zAE eV 1 w' W.heap.size 27 (.slice (some ⟨g,0,none⟩) vs.length c) vs:=h.own.grown hg (zDq h.own hu zc);have hb':Below W.heap.size W w':=h.bel.grown hg h.bel.size (own_base hu)
 have hm':zAq Value.string w' r F:=h.map.keep (hg.block r h.map.lt fun e=>by
  obtain ⟨_,cs2,hc2⟩:=zAR hu e.symm;exact zAg h.map hc2 rfl)
 obtain ⟨hlo,cs,hcs⟩:=zAR hown (g:=g) rfl;have hst:=(World.ownsRow.stored (xs:=vs.flatMap eV) hown j u').1;have hfl:=flatV;rw [hfl] at hst;refine ⟨?_,?_,hm'.keep (bY _ _ _ _ (fun e=>zAg hm' hcs e.symm)),h.rlo,h.llo,hb'.setCell hlo _⟩
 ·unfold zAE
  rw [hfl,cQ];exact hst
 ·have:=hrow.keepT (w':=w'.setCell ⟨g,j,none⟩ u') fun q cs2 hc=>bY _ _ _ _ (zAA hc hcs zc)
  rw [cQ,←bW];exact this
end
structure FactsC (sg:Nat→BA) (nl k:Nat) (H:List Nat) (vs:List Value) (R:Nat→List Int):Prop where
 len:vs.length=H.length
 hk:H.length≤k
 lt:∀ h∈H,h<nl
 rl:∀ q,q<H.length→(R q).length≤k
 hd:∀ q (h:q<H.length),(R q).head?=some (H[q]:Int)
 cov:∀ n,n<k→∃ h∈H,sg h=sg n
structure FactsK (sg:Nat→BA) (nl k j:Nat) (H:List Nat) (vs:List Value) (R:Nat→List Int):Prop where
 len:vs.length=H.length
 hj:j<H.length
 hk:H.length≤k+1
 lt:∀ h∈H,h<nl
 rl:∀ q,q<H.length→(R q).length≤k
 hd:∀ q (h:q<H.length),(if q=j then R j++[(k:Int)] else R q).head?=some (H[q]:Int)
 cov:∀ n,n<k+1→∃ h∈H,sg h=sg n
section
variable {sg:Nat→BA} {nl k j:Nat} {H:List Nat} {vs:List Value} {R:Nat→List Int}
theorem FactsC.zero:FactsC sg nl 0 [] [] R:=⟨rfl,aC _,fun _ h=>(List.not_mem_nil h).elim,fun _ h=>absurd h (Nat.not_lt_zero _),fun _ h=>absurd h (Nat.not_lt_zero _),fun _ h=>absurd h (Nat.not_lt_zero _)⟩
theorem FactsC.old (h:FactsC sg nl k H vs R) (hj:j<H.length) (hs:sg H[j]=sg k):FactsK sg nl k j H vs R :=
 ⟨h.len,hj,Nat.le_succ_of_le h.hk,h.lt,h.rl,fun q hq=>by
  by_cases e:q=j
  ·subst e
   rw [aF rfl,List.head?_append,h.hd q hq];rfl
  ·rw [aD e];exact h.hd q hq,fun n hn=>by
  rcases bQ n k with h1 | h1
  ·exact h.cov n h1
  ·obtain rfl:n=k:=by omega
   exact ⟨_,aJ hj,hs⟩⟩
theorem FactsC.new (h:FactsC sg nl k H vs R) (hk:k<nl) (hl:vs.length=H.length):FactsK sg nl k H.length (H++[k]) (vs++[zAk]) (fun x=>if x=vs.length then [] else R x) :=
 ⟨by simp [h.len],zd,by have:=h.hk;simp;omega,fun x hx=>by
  rcases List.mem_append.1 hx with hx | hx
  ·exact h.lt x hx
  ·rw [List.mem_singleton.1 hx];exact hk,fun q hq=>by
  by_cases e:q=vs.length
  ·rw [aF e];simp
  ·rw [aD e];exact h.rl q (by simp at hq;omega),fun q hq=>by
  by_cases e:q=H.length
  ·subst e
   rw [aF rfl,aF hl.symm];simp
  ·have hq2:q<H.length:=by simp at hq;omega
   rw [aD e,aD za,h.hd q hq2,List.getElem_append_left hq2],fun n hn=>by
  rcases bQ n k with h1 | h1
  ·obtain ⟨x,hx,e⟩:=h.cov n h1
   exact ⟨x,List.mem_append_left _ hx,e⟩
  ·obtain rfl:n=k:=by omega
   exact ⟨n,zd,rfl⟩⟩
theorem FactsK.done (h:FactsK sg nl k j H vs R) (u:Value):FactsC sg nl (k+1) H (vs.set j u) (fun x=>if x=j then R j++[(k:Int)] else R x) :=
 ⟨by rw [cQ];exact h.len,h.hk,h.lt,fun q hq=>by
  by_cases e:q=j
  ·rw [aF e,dC,List.length_singleton];have:=h.rl j h.hj;omega
  ·rw [aD e];have:=h.rl q hq;omega,h.hd,h.cov⟩
end
def ClsIs (w:World) (v:Value) (H:List Nat):Prop:=∃ A c,v = .slice A H.length c∧(0<H.length→∃ g,A=some ⟨g,0,none⟩∧∀ j (h:j<H.length),∃ gj nj cj,w.cell? ⟨g,j,none⟩=some (.slice (some ⟨gj,0,none⟩) nj cj)∧0<nj∧w.cell? ⟨gj,0,none⟩=some (.int .i64 (H[j]:Int)))
theorem ClsIs.below {w w':World} {v:Value} {H:List Nat} (h:ClsIs w v H) (hb:Below w.heap.size w w'):ClsIs w' v H:=by
 obtain ⟨A,c,hv,hr⟩:=h;refine ⟨A,c,hv,fun h0=>?_⟩
 obtain ⟨g,hA,hc⟩:=hr h0;refine ⟨g,hA,fun j hj=>?_⟩
 obtain ⟨gj,nj,cj,h1,h2,h3⟩:=hc j hj;exact ⟨gj,nj,cj,zAs hb h1,h2,zAs hb h3⟩
theorem ClsS.is {W w:World} {L r:Nat} {F:BA→Option Value} {v:Value} {vs:List Value} {R:Nat→List Int} {sg:Nat→BA} {nl k:Nat} {H:List Nat} (h:ClsS W L r F v vs R w) (hf:FactsC sg nl k H vs R):ClsIs w v H:=by
 obtain ⟨A,c,rfl,hr⟩:=h.own.rdk;refine ⟨A,c,by rw [hf.len],fun h0=>?_⟩
 obtain ⟨g,cap,hv⟩:=own_some h.own (by rw [hf.len];exact h0)
 injection hv with hv _ _
 subst hv;refine ⟨g,rfl,fun j hj=>?_⟩
 have hjv:j<vs.length:=by rw [hf.len];exact hj
 have hown:=h.rows.own j vs[j] (by rw [List.getElem?_toArray];exact List.getElem?_eq_getElem hjv)
 have hhd:=hf.hd j hj
 have h0:0<(R j).length:=by
  cases hR:R j with
  | nil=>rw [hR] at hhd;cases hhd
  | cons _ _=>simp
 obtain ⟨gj,cj,hvj⟩:=own_some hown h0;refine ⟨gj,(R j).length,cj,?_,h0,?_⟩
 ·rw [dE (xs:=vs.flatMap eV) h.own j za,flatV,List.getElem?_eq_getElem hjv,hvj]
 ·rw [hvj] at hown
  rw [dE (xs:=(R j).flatMap encI) hown 0 za,flat1 (f:=fun z:Int=>Value.int .i64 z),List.getElem?_map,←List.head?_eq_getElem?,hhd]
  rfl
theorem sumF_perm {a b:List BA} (f:zBa) (h:a.Perm b):zCi a f=zCi b f:=by
 induction h with
 | nil=>rfl
 | cons x _ ih=>rw [zAS,zAS,ih]
 | swap x y l=>rw [zAS,zAS,zAS,zAS];grind
 | trans _ _ h1 h2=>exact h1.trans h2
def ToR (w:World) (g s it:Nat) (f:zBa) (L:List (BA×Value)) (tot:Rat) (M:Nat) (m:Nat) (wr:World):Prop :=
 ∃ (R:List (BA×Value)) (q:Rat) (A:Option Addr) (c:Nat) (A2:Option Addr) (c2:Nat),R.length=m∧zAU Value.string wr it g L R∧q+zCi (R.map (·.1)) f=tot∧0≤q∧q.den∣M ∧
  Bx wr s (raC A c q.num.natAbs A2 c2 q.den) 89∧Nt wr A c q.num.natAbs∧Nt wr A2 c2 q.den∧Bx wr w.heap.size zBx 89∧Below w.heap.size w wr
theorem pr_far {w:World} {it g:Nat} {L R:List (BA×Value)} (h:zAU Value.string w it g L R) {p:Addr} (h1:it≠p.block) (h2:g≠p.block) (v:Value):zAU Value.string (w.setCell p v) it g L R :=
 h.keep (bY w p v g h2) (bY w p v it h1)
theorem Nt.iter {w w':World} {A:Option Addr} {c n it g:Nat} {L R:List (BA×Value)} (h:Nt w A c n) (hp:zAU Value.string w it g L R) (hg:w.grownBy w' (some it)):Nt w' A c n:=h.grown hg fun k cs e hk e2=>by
 injection e2 with e2
 subst e2;obtain ⟨es,clk,since,c0,seen,_,_,_,_,_,h6,_⟩:=hp
 rcases hk with hk | ⟨o,x,hk⟩
 ·rw [h6] at hk;cases hk
 ·rw [no_iter_cell h6 o] at hk;cases hk
theorem Bx.iter {w w':World} {b it g:Nat} {cs:Array Value} {T:TypeId} {L R:List (BA×Value)} (h:Bx w b cs T) (hp:zAU Value.string w it g L R) (hg:w.grownBy w' (some it)):Bx w' b cs T :=
 (hg.block b h.lt fun e=>by
  injection e with e
  subst e;obtain ⟨es,clk,since,c0,seen,_,_,_,_,_,h6,_⟩:=hp;unfold Bx at h;rw [h6] at h;cases h).trans h
theorem total_c (g:Nat) (K:List BA) (f:zBa) (M:Nat) (w:World) (hp:zAw w g f) (hk:HoldB K M f) (hM:SzN 100000000 M):Calls Tryz.prog 32 #[.map (some g)] w (zCx (zCi K f) w):=by
 have hpm:=hp;obtain ⟨L,h1,h2,h3⟩:=hp;have hgl:=h1.lt;have hLn:=h1.nodup
 have hLm:∀ p,p∈L.map (·.1)↔f p≠0:=fun p=>by
  rw [h2,List.mem_map]
  constructor
  ·rintro ⟨x,hx,rfl⟩;exact ⟨x.2,hx⟩
  ·rintro ⟨v,hv⟩;exact ⟨_,hv,rfl⟩
 have HSUM:Hid (zCi (L.map (·.1)) f=zCi K f):=sum_mono hLn hk.nd ⟨hk.ok.pos,fun p hp=>eQ fun hn=>hp ((hLm p).2 hn)⟩ hk.ok
 have HK:=zq hk;have HLE:Hid (zCi K f≤1):=hk.sum;have HSZ:=zq hM;have HH3:=zq h3;have HZ:Hid (Bx (w.alloc (.cells zBx 89)) w.heap.size zBx 89):=Bx.new _ _ _;have HB:Hid (Below w.heap.size w (w.alloc (.cells zBx 89))):=(aN _ _).alloc (aC _) _;obtain ⟨W,hW⟩:∃ W,W=w.alloc (.cells zBx 89):=⟨_,rfl⟩;rw [←hW] at HZ HB;have HH1:=zq h1;generalize zCi K f=tot at *;have hwW:w.heap.size<W.heap.size:=HZ.o.lt;have HWH:Hid (∀ W,Calls Tryz.prog 34 #[.int .i64 0] W (zCb false 0 1 W)):=fun W=>Whole_c 0 W za
 clear hpm h1 h2 h3 hLn hLm hk hM
 go_enter Tryz.func32,Tryz.ntmps32
 go_upto_region 1 with fail
 rw [←hW];clear hW
 go_wp2_with fail
 with_reducible refine (HWH.o _).mono ?_
 rintro e w2 ⟨A,c,A2,c2,rfl,n1,n2,hb2⟩;have HB2:=zq (zAa HB.o hb2);have hs2:W.heap.size≤w2.heap.size:=hb2.size;have HBA:Hid (Below w2.heap.size w2 (w2.alloc (.cells (raC A c 0 A2 c2 1) 89))):=(aN _ _).alloc (aC _) _;have HZ2:=zq (HZ.o.below hb2);have HS3:Hid (Bx (w2.alloc (.cells (raC A c 0 A2 c2 1) 89)) w2.heap.size (raC A c 0 A2 c2 1) 89):=Bx.new _ _ _;have HN1:=zq (n1.below HBA.o);have HN2:=zq (n2.below HBA.o);go_upto_region 2 with fail
 obtain ⟨w3,hw3⟩:∃ w3,w3=w2.alloc (.cells (raC A c 0 A2 c2 1) 89):=⟨_,rfl⟩;rw [←hw3] at HBA HS3 HN1 HN2 ⊢;clear hb2 n1 n2 hw3 HB HZ;have HB3:=zq (zAa HB2.o HBA.o);have HZ3:=zq (HZ2.o.below HBA.o);have hs3:w2.heap.size<w3.heap.size:=HS3.o.lt;obtain ⟨o,hrun,hpr⟩:=zAU.start (P:=Tryz.prog) tMapP (HH1.o.below HB3.o);have HPR:=zq hpr;have hba:Below w3.heap.size w3 (w3.alloc o):=(aN _ _).alloc (aC _) _;have HBB:=zq hba;clear hpr hba;go_wp2;clear hrun
 go_loopg [] L.length (ToR w g w2.heap.size w3.heap.size f L tot M)
 case atStart =>
  refine ⟨L,0,A,c,A2,c2,rfl,HPR.o,?_,zc,Nat.one_dvd _,HS3.o.below HBB.o,HN1.o.below HBB.o,HN2.o.below HBB.o,HZ3.o.below HBB.o,zAa HB3.o HBB.o⟩
  rw [HSUM.o];grind
 clear HPR HBB HN1 HN2 HS3 HZ3 HBA HB2 HZ2 HB3 HH1
 case round =>
  obtain ⟨R,q,A3,c3,A4,c4,hm,hpr,hq,hq0,hqd,hs,n1,n2,hz,hb⟩:=hrel;have HM:=zq hm;have HQ:=zq hq;have HQ0:=zq hq0;have HQD:=zq hqd;have HS:=zq hs;have H1:=zq n1;have H2:=zq n2;have HZ:=zq hz;have HB:=zq hb;have HPR:=zq hpr;clear hm hpr hq hq0 hqd hs n1 n2 hz hb
  rcases zAU.next (P:=Tryz.prog) HPR.o str_inj za 0 with ⟨hR,hnx⟩ | ⟨x,R',w',hperm,hxL,hnx,hen,hpr',hg',hs'⟩
  ·have HE:Hid (q=tot):=by
    show _=_
    rw [←HQ.o,hR,List.map_nil,sumF_nil];grind
   obtain ⟨s0,s1,s2⟩:=HS.o.t;have sl:=HS.o.lt;have zf:=HZ.o.frozen;have zl:=HZ.o.lt;obtain ⟨z0,z1,z2⟩:=HZ.o.t;clear hR HQ HPR;go_wp2;refine dL (v:=raV false A3 c3 q.num.natAbs A4 c4 q.den) (by simp [results,Tryz.results32,go_sem,z0,z1,z2]) rfl ?_
   unfold zCx;rw [←HE.o];exact ⟨A3,c3,A4,c4,rfl,H1.o.setR HZ.o _ _ _,H2.o.setR HZ.o _ _ _,((HB.o.setCell zd _).setCell zd _).setCell zd _⟩
  ·obtain ⟨p,v⟩:=x
   obtain ⟨A5,c5,A6,c6,e,n5,n6⟩:=HH3.o p v hxL;subst e;have HB1:=zq (zBp HB.o HB.o.size hg' (show w.heap.size≤w3.heap.size by omega))
   have HPR1:=zq hpr';have HPM:=zq hperm;have HS1:=zq (HS.o.iter HPR.o hg');have HZ1:=zq (HZ.o.iter HPR.o hg');have H11:=zq (H1.o.iter HPR.o hg');have H21:=zq (H2.o.iter HPR.o hg');have N5:=zq (n5.below HB1.o);have N6:=zq (n6.below HB1.o);have hba:Below w'.heap.size w' (w'.alloc (.cells (raC A5 c5 (f p).num.natAbs A6 c6 (f p).den) 89)):=(aN _ _).alloc (aC _) _;have HXP:Hid (Bx (w'.alloc (.cells (raC A5 c5 (f p).num.natAbs A6 c6 (f p).den) 89)) wr.heap.size (raC A5 c5 (f p).num.natAbs A6 c6 (f p).den) 89):=by show Bx _ _ _ _;rw [←hs'];exact Bx.new _ _ _
   have hq1:q≤1:=by
    have h1:=HQ.o;have h2:=sum_ge (N:=R.map (·.1)) HK.o.ok.pos;have h3:=HLE.o
    grind
   have HQZ:Hid (SzQ 100000000 q):=szQ_le HQ0.o hq1 HQD.o HK.o.nz HSZ.o;have hw':w'.heap.size=wr.heap.size:=hs';clear hperm hxL hpr' hg' hs' n5 n6 HS HZ H1 H2 HPR HB hq1;go_upto_region 5 with fail
   obtain ⟨w4,hw4⟩:∃ w4,w4=w'.alloc (.cells (raC A5 c5 (f p).num.natAbs A6 c6 (f p).den) 89):=⟨_,rfl⟩;rw [←hw4] at hba HXP ⊢;clear hw4;have HS4:=zq (HS1.o.below hba);have HZ4:=zq (HZ1.o.below hba);have HB4:=zq (zAa HB1.o hba);have HP4:=zq (HPR1.o.below hba)
   have HAD:Hid (Calls Tryz.prog 75 #[raV false A3 c3 q.num.natAbs A4 c4 q.den,raV false A5 c5 (f p).num.natAbs A6 c6 (f p).den] w4 (zCx (q+f p) w4)) :=
    AddQ_c A3 A4 A5 A6 c3 c4 c5 c6 q (f p) w4 (H11.o.below hba) (H21.o.below hba) (N5.out.below hba) (N6.out.below hba) HQ0.o (HK.o.ok.pos p) HQZ.o (HK.o.sz HSZ.o p)
   obtain ⟨s0,s1,s2⟩:=HS4.o.t;obtain ⟨x0,x1,x2⟩:=HXP.o.t;clear hba HS1 HZ1 HB1 HPR1 H11 H21 N5 N6
   go_wp2_with fail
   with_reducible refine HAD.o.mono ?_
   rintro e w5 ⟨A7,c7,A8,c8,rfl,h7,h8,hb5⟩;have HS5:=zq (HS4.o.below hb5);have HZ5:=zq (HZ4.o.below hb5);have HB5:=zq (zAa HB4.o hb5);have HP5:=zq (HP4.o.below hb5);have H7:=zq h7;have H8:=zq h8;clear hb5 h7 h8 s0 s1 s2 x0 x1 x2 HAD HXP HS4 HZ4 HB4 HP4;obtain ⟨s0,s1,s2⟩:=HS5.o.t;have sf:=HS5.o.frozen;have sl:=HS5.o.lt;go_wp2
   go_roundg R'.length
   case measure=>have h1:=HPM.o.length_eq;have h2:=HM.o;rw [aR] at h1;omega
   case rel =>
    have e1:zCi (R.map (·.1)) f=f p+zCi (R'.map (·.1)) f:=by
     rw [sumF_perm f (HPM.o.map (·.1)),dT,zAS]
    refine ⟨R',q+f p,A7,c7,A8,c8,rfl,pr_far (pr_far (pr_far HP5.o ze ze _) ze ze _) ze ze _,?_,?_,den_add HK.o.nz HQD.o (HK.o.den p),((HS5.o.set 0 _).set 1 _).set 2 _,?_,?_,((HZ5.o.far ze _).far ze _).far ze _,?_⟩
    ·have:=HQ.o;rw [e1] at this;grind
    ·have h1:=HQ0.o;have h2:=HK.o.ok.pos p;grind
    ·exact H7.o.set3 s0 s1 s2 (nb_ _) (ns_ _ _ _) (ns_ _ _ _) _ _ _
    ·exact H8.o.set3 s0 s1 s2 (nb_ _) (ns_ _ _ _) (ns_ _ _ _) _ _ _
    ·exact ((HB5.o.setCell ze _).setCell ze _).setCell ze _
abbrev bfV (p:Bool×Int):Value:=.tuple #[.bool p.1,.int .i64 p.2]
section
variable {rs:List Rg} {us:List BA} {ds:List De} {th party pl use:BA} {day:Int}
theorem myF_chk (h:zBt rs us ds≠0):mayA rs us ds th party pl use day=(false,zBt rs us ds):=by unfold mayA;rw [aF h]
theorem myF_nm (h:zBt rs us ds=0) (h2:(zAT th&&zAT party)=false):mayA rs us ds th party pl use day=(false,5):=by
 unfold mayA;rw [aD (show ¬ (zBt rs us ds≠0) by rw [h];simp),aF h2]
theorem myF_sp (h:zBt rs us ds=0) (h2:(zAT th&&zAT party)=true) (h3:zBz rs us pl use day≠0):mayA rs us ds th party pl use day=(false,zBz rs us pl use day):=by
 unfold mayA;rw [aD (show ¬ (zBt rs us ds≠0) by rw [h];simp),aD (show ¬ ((zAT th&&zAT party)=false) by rw [h2];simp)]
 unfold zBz at h3 ⊢
 split
 ·rfl
 ·next h4 =>
  rw [aD h4] at h3
  split
  ·rfl
  ·next h5=>rw [aD h5] at h3;exact absurd rfl h3
theorem myF_at (h:zBt rs us ds=0) (h2:(zAT th&&zAT party)=true) (h3:zBz rs us pl use day=0):mayA rs us ds th party pl use day =
  if zBM rs ds ((idx rs pl).getD 0) th use day ds.length=true then (false,2) else (mayW rs ds ((idx rs pl).getD 0) th party use day,0):=by
 unfold mayA;rw [aD (show ¬ (zBt rs us ds≠0) by rw [h];simp),aD (show ¬ ((zAT th&&zAT party)=false) by rw [h2];simp)]
 unfold zBz at h3
 split
 ·next h4=>rw [aF h4] at h3;cases h3
 ·next h4 =>
  rw [aD h4] at h3
  split
  ·next h5=>rw [aF h5] at h3;cases h3
  ·rfl
end
theorem one_iff {q:Rat} (h:0≤q):q.num.natAbs=q.den↔q=1:=by
 constructor
 ·intro e
  have hr:=q.reduced;rw [e] at hr;have hd:q.den=1:=by simpa using hr
  have hn:=abs_num h;rw [e,hd] at hn;exact Rat.ext (by rw [←hn];rfl) (by rw [hd];rfl)
 ·intro e
  rw [e];rfl
theorem cmp_one {q:Rat} (h:0≤q):(cmpN (q.num.natAbs*1) (1*q.den)=0)↔q=1:=by
 rw [bS,Nat.one_mul,←one_iff h]
 rcases Nat.lt_trichotomy q.num.natAbs q.den with h1 | h1 | h1
 ·rw [zCy h1];constructor
  ·intro e;cases e
  ·intro e;omega
 ·rw [zDo h1];exact ⟨fun _=>h1,fun _=>rfl⟩
 ·rw [zCF h1];constructor
  ·intro e;cases e
  ·intro e;omega
theorem parts_count {w:World} {g:Nat} {f:zBa} {K:List BA} (h:zAw w g f) (hk:HoldOk K f):∃ (es:Array MapEntry) (clk:Nat),w.heap[g]?=some (.map es clk)∧(es.size=0↔holL K f=[]):=by
 obtain ⟨L,⟨es,clk,h1,h2,_⟩,h3,_⟩:=h;refine ⟨es,clk,h1,?_⟩
 have hlen:es.size=L.length:=by have:=bA List.length h2;simpa using this
 rw [hlen]
 constructor
 ·intro hl
  have:L=[]:=dD hl;subst this;refine List.eq_nil_iff_forall_not_mem.2 fun p hp=>?_
  obtain ⟨v,hv⟩:=(h3 p).1 ((holL_mem hk).1 hp)
  cases hv
 ·intro hh
  refine eQ fun hn=>?_
  obtain ⟨x,hx⟩:=List.exists_mem_of_length_pos (Nat.pos_of_ne_zero hn);have:=(holL_mem hk).2 ((h3 x.1).2 ⟨x.2,hx⟩);rw [hh] at this
  cases this
theorem run_len_map {w:World} {g:Nat} {es:Array MapEntry} {clk:Nat} (h:w.heap[g]?=some (.map es clk)) (ty:TypeId):(Builtin.len_ #[80] ty #[.map (some g)]).run Tryz.prog w = .ok (.int .i64 (es.size:Int)) w:=by
 simp [Builtin.len_,run_underlying tMapP,getObj,Sem.run,h,goInt]
def MyLR (W:World) (P:List BA) (F:BA→Bool) (m:Nat) (iv:Value) (wr:World):Prop :=
 ∃ j:Nat,j+m=P.length∧iv = .int .i64 (j:Nat)∧(P.take j).all F=true∧Below W.heap.size W wr
theorem May_c (RA:Option Addr) (rc:Nat) (rs:List Rg) (UA:Option Addr) (uc:Nat) (us:List BA) (DA:Option Addr) (dc:Nat) (ds:List De) (th party pl use:BA) (day:Int) (w:World)
  (hr:Rgs w RA rs) (hu:Strs w UA us) (hd:Des w DA ds) (hz:∀ i (h:i<rs.length),(rs[i]).nm.size≤9223372036854775807) (hz2:∀ i (h:i<us.length),(us[i]).size≤9223372036854775807) (hdc:ds.length≤dc)
  (hth:th.size≤9223372036854775807) (hpa:party.size≤9223372036854775807) :
  Calls Tryz.prog 12 #[.agg (tiC RA rc rs UA uc us DA dc ds),.string th,.string party,.string pl,.string use,.int .i64 day] w (zAe (bfV (mayA rs us ds th party pl use day)) w):=by
 generalize hres:mayA rs us ds th party pl use day=res;have HR:=zq hres;clear hres;have HX:Hid (Bx (w.alloc (.cells (tiC RA rc rs UA uc us DA dc ds) 26)) w.heap.size (tiC RA rc rs UA uc us DA dc ds) 26):=Bx.new _ _ _;have HB:Hid (Below w.heap.size w (w.alloc (.cells (tiC RA rc rs UA uc us DA dc ds) 26))):=(aN _ _).alloc (aC _) _;obtain ⟨W,hW⟩:∃ W,W=w.alloc (.cells (tiC RA rc rs UA uc us DA dc ds) 26):=⟨_,rfl⟩;rw [←hW] at HX HB;have hba:Below W.heap.size W (W.alloc (.cells #[.string th,.string party] 9)):=(aN _ _).alloc (aC _) _;have hbb:Below w.heap.size w (W.alloc (.cells #[.string th,.string party] 9)):=zAa HB.o hba;have HX1:=zq (HX.o.below hba)
 have HOP:Hid (Calls Tryz.prog 24 #[.agg (tiC RA rc rs UA uc us DA dc ds),.slice (some ⟨W.heap.size,0,none⟩) 2 2] (W.alloc (.cells #[.string th,.string party] 9)) (GivesOp (zCA rs us ds [th,party]) RA rc rs UA uc us DA dc ds (W.alloc (.cells #[.string th,.string party] 9)))) :=
  open_c RA rc rs UA uc us DA dc ds (some ⟨W.heap.size,0,none⟩) 2 [th,party] _ (hr.below hbb) (hu.below hbb) (hd.below hbb) hz hz2 (strs2 W th party) (fun i h=>by
   match i,h with
   | 0,_=>exact hth
   | 1,_=>exact hpa) zd hdc
 have HBB:=zq hbb;have HDw:=zq hd;have HUw:=zq hu;clear hr hu hd hba hbb
 go_enter Tryz.func12,Tryz.ntmps12
 go_upto_region 1 with fail
 rw [←hW];clear hW
 iterate 2 go_step
 refine eW _ _ zj w.heap.size 0 zj (tiC RA rc rs UA uc us DA dc ds).toList _ (zDh HX.o) Tryz.underlying26 rfl zb ?_
 go_wp2_with fail
 with_reducible refine HOP.o.mono ?_
 rintro e w1 ⟨P,rfl,hb1,hp0,hp1⟩;have HB1:=zq (zAa HBB.o hb1);have HX2:=zq (HX1.o.below hb1);have HP0:=zq hp0;have HP1:=zq hp1;clear hb1 hp0 hp1 HOP HX HX1 HB HBB
 by_cases hc:zBt rs us ds=0
 case neg =>
  have hof:zCA rs us ds [th,party]=zBt rs us ds:=by unfold zCA;rw [aF hc]
  have hcb:(zBt rs us ds != 0)=true:=by simpa using hc
  have HS:Hid (res=(false,zBt rs us ds)):=by show _=_;rw [←HR.o,myF_chk hc]
  rw [hof];clear hc hof HP0 HP1;go_wp2;go_ret2
  exact zAe.mk (by first | (rw [HS.o];rfl) | rw [HS.o]) HB1.o
 cases hnm:zAT th&&zAT party with
 | false =>
  have hof:zCA rs us ds [th,party]=5:=by
   unfold zCA;rw [aD (show ¬ (zBt rs us ds≠0) by rw [hc];simp),aD]
   simpa using hnm
  have HS:Hid (res=(false,5)):=by show _=_;rw [←HR.o,myF_nm hc hnm]
  rw [hof];clear hc hof HP0 HP1 hnm;go_wp2;go_ret2
  exact zAe.mk (by first | (rw [HS.o];rfl) | rw [HS.o]) HB1.o
 | true =>
  have hof:zCA rs us ds [th,party]=0:=by
   unfold zCA;rw [aD (show ¬ (zBt rs us ds≠0) by rw [hc];simp),aF]
   simpa using hnm
  have HC:=zq hc;have HNM:=zq hnm;rw [hof];obtain ⟨L,rfl,hlg⟩:=HP1.o hof;obtain ⟨hcr,hul,hdl⟩:=zBP HC.o;have HSC:=zq (spot_c RA rc rs UA uc us DA dc ds L pl use day w1 (good_of hcr) hlg (HUw.o.below HB1.o) hul);have HLG:=zq hlg;clear hc hnm hof HP0 HP1 hlg hcr
  go_wp2_with fail
  with_reducible refine HSC.o.mono ?_
  rintro e w2 ⟨hb2,hsp⟩;have HB2:=zq (zAa HB1.o hb2);have HL2:=zq (HLG.o.below hb2);have HX3:=zq (HX2.o.below hb2);clear hb2 HSC HLG HB1 HX2
  rcases hsp with ⟨hs0,rfl⟩ | ⟨hs0,n,hn,rfl⟩
  ·have HS:Hid (res=(false,zBz rs us pl use day)):=by show _=_;rw [←HR.o,myF_sp HC.o HNM.o hs0]
   have hcb:(zBz rs us pl use day != 0)=true:=by simpa using hs0
   have hba:Below w2.heap.size w2 (w2.alloc (.cells zSpot 76)):=(aN _ _).alloc (aC _) _;have HB3:=zq (zAa HB2.o hba);clear hs0 hba;go_wp2;go_ret2
   exact zAe.mk (by first | (rw [HS.o];rfl) | rw [HS.o]) HB3.o
  ·have HS:=zq (myF_at HC.o HNM.o hs0)
   rw [HR.o] at HS;have hba:Below w2.heap.size w2 (w2.alloc (.cells (zCP n use day) 76)):=(aN _ _).alloc (aC _) _;have HX4:Hid (Bx (w2.alloc (.cells (zCP n use day) 76)) w2.heap.size (zCP n use day) 76):=Bx.new _ _ _;have HL3:=zq (HL2.o.below hba);have HB3:=zq (zAa HB2.o hba);have HX5:=zq (HX3.o.below hba);obtain ⟨w3,hw3⟩:∃ w3,w3=w2.alloc (.cells (zCP n use day) 76):=⟨_,rfl⟩;rw [←hw3] at HX4 HL3 HB3 HX5;obtain ⟨i,hi⟩:∃ i,i=(idx rs pl).getD 0:=⟨_,rfl⟩;rw [←hi] at HS hn;have hus:∀ d∈ds,d.us.length≤1000000:=fun d hd=>cU (short_of HC.o d hd).2 zc
   have HPT:=zq (parts_c RA rc rs UA uc us DA dc ds L n i ds.length use day th true w3 HL3.o (HDw.o.below HB3.o) HC.o hn (aC _) hdc hus);rw [Bool.true_and] at HPT;have HKS:=zq (zBC HC.o i th use day ds.length);have HKL:=zq (keys_len HC.o i th use day ds.length (aC _));obtain ⟨M,hMb,hM⟩:=zCJ HC.o i th use day ds.length (aC _);have HMB:=zq hMb;have HMZ:Hid (SzN 100000000 M):=(szN_of hM).le za
   have HMY:Hid (∀ (ho:BA) (u:World),Below w3.heap.size w3 u→Calls Tryz.prog 36 #[.pointer (some ⟨L,0,none⟩),.string th,.string party,.string ho,.agg (zCP n use day)] u (zAe (.bool (mayF rs ds i use day th party ho)) u)):=fun ho u hu =>
    may_c RA rc rs UA uc us DA dc ds L n i use day th party ho u (HL3.o.below hu) (HDw.o.below (zAa HB3.o hu)) hn hus hdl
   clear hs0 hba hn hi hMb hM hus;go_upto_region 7 with fail
   rw [←hw3];clear hw3 HL2 HB2 HX3;obtain ⟨x0,x1,x2⟩:=HX4.o.t;have hsx:=HX4.o.lt;have t2:=HX5.o.c 2 rfl;have hst:=HX5.o.lt
   go_wp2_with fail
   with_reducible refine HPT.o.mono ?_
   rintro e w4 ⟨hb4,hbad,hok⟩;have HB4:=zq (zAa HB3.o hb4);have HW4:=zq hb4;have HX6:=zq (HX4.o.below hb4);clear hb4 x0 x1 x2 hsx t2 hst HX4
   cases hlo:zBM rs ds i th use day ds.length with
   | true =>
    have he:=hbad hlo;subst he;have HS2:Hid (res=(false,2)):=by show _=_;rw [HS.o,aF hlo]
    clear hlo hbad hok;go_wp2;go_ret2
    exact zAe.mk (by first | (rw [HS2.o];rfl) | rw [HS2.o]) HB4.o
   | false =>
    obtain ⟨g,rfl,hpm⟩:=hok hlo;have HS2:Hid (res=(mayW rs ds i th party use day,0)):=by show _=_;rw [HS.o,aD (by rw [hlo];simp)]
    obtain ⟨es,clk,hes,hez⟩:=parts_count hpm HKS.o.2.1;have HTO:=zq (total_c g _ _ M w4 hpm HMB.o HMZ.o);have HSZ:Hid (SzQ 100000000 (zCi (zBr rs ds i th use day ds.length) (zAp rs ds i th use day ds.length))):=szQ_le (sum_ge HMB.o.ok.pos) HMB.o.sum (sumF_den HMB.o.nz HMB.o.den _) HMB.o.nz HMZ.o;have HPM:=zq hpm;clear hlo hbad hok hpm HPT HMB HMZ;unfold mayW at HS2;obtain ⟨K,hK⟩:∃ K,K=zBr rs ds i th use day ds.length:=⟨_,rfl⟩;obtain ⟨f,hf⟩:∃ f,f=zAp rs ds i th use day ds.length:=⟨_,rfl⟩;rw [←hK,←hf] at HKS HTO HS2 hez HSZ;rw [←hK] at HKL;rw [←hf] at HPM;rw [←HKS.o.2.2] at HS2;clear hK hf;have hlen:=run_len_map hes
    by_cases hL0:es.size=0
    ·have HS3:Hid (res=(false,0)):=by
      show _=_
      rw [HS2.o];have hs:zCi K f=0:=by rw [←sumF_holL,hez.1 hL0];rfl
      rw [hs]
      rfl
     rw [hL0] at hlen;go_wp2;go_ret2
     exact zAe.mk qc HB4.o
    ·have hln:((es.size:Int) == 0)=false:=by rw [beq_eq_false_iff_ne];intro h;exact hL0 za
     have HS0:Hid (0≤zCi K f):=sum_ge HKS.o.2.1.pos;obtain ⟨S,hS⟩:∃ S,S=zCi K f:=⟨_,rfl⟩;rw [←hS] at HTO HSZ HS2 HS0;clear hez hS hL0 hes
     go_wp2_with fail
     with_reducible refine HTO.o.mono ?_
     rintro e w5 ⟨A5,c5,A6,c6,rfl,h5,h6,hb5⟩;have HB5:=zq (zAa HB4.o hb5);have HW5:=zq (zAa HW4.o hb5);have HX7:=zq (HX6.o.below hb5);have HP5:=zq (HPM.o.below hb5);have H5:=zq h5;have H6:=zq h6;clear hb5 h5 h6 hlen hln HTO HB4 HW4 HX6 HPM
     go_wp2_with fail
     with_reducible refine (whole1_c _).mono ?_
     rintro e w6 ⟨A7,c7,A8,c8,rfl,h7,h8,hb6⟩;have HCM:=zq (RCmp_c A5 A6 A7 A8 c5 c6 c7 c8 S.num.natAbs S.den 1 1 w6 (H5.o.below hb6) (H6.o.below hb6) h7 h8 HSZ.o.1.1 HSZ.o.2.1 zc zc);have HB6:=zq (zAa HB5.o hb6);have HW6:=zq (zAa HW5.o hb6);have HX8:=zq (HX7.o.below hb6);have HP6:=zq (HP5.o.below hb6);clear hb6 h7 h8 H5 H6 HB5 HW5 HX7 HP5 HSZ
     go_wp2_with fail
     with_reducible refine HCM.o.mono ?_
     rintro e w7 ⟨rfl,hb7⟩;have HB7:=zq (zAa HB6.o hb7);have HW7:=zq (zAa HW6.o hb7);have HX9:=zq (HX8.o.below hb7);have HPC:=zq (parties_c g K f w7 (HP6.o.below hb7) HKS.o.1 HKS.o.2.1 HKL.o);clear hb7 HCM HB6 HW6 HX8 HP6
     by_cases hS1:S=1
     case neg =>
      have hzb:(cmpN (S.num.natAbs*1) (1*S.den) != 0)=true:=by simpa using fun h=>hS1 ((cmp_one HS0.o).1 zv)
      have HS3:Hid (res=(false,0)):=by show _=_;rw [HS2.o,cN hS1];rfl
      obtain ⟨z,hz⟩:∃ z,z=cmpN (S.num.natAbs*1) (1*S.den):=⟨_,rfl⟩;rw [←hz] at hzb ⊢;clear hz hS1;go_wp2;go_ret2
      exact zAe.mk qc HB7.o
     rw [(cmp_one HS0.o).2 hS1];rw [cM hS1,Bool.true_and] at HS2;have hpl:(holL K f).length≤1000000:=cU (dK _ _) HKL.o;obtain ⟨PL,hPL⟩:∃ PL,PL=holL K f:=⟨_,rfl⟩;rw [←hPL] at HPC HS2 hpl;clear hPL hS1 HKS HKL HS0
     go_wp2_with fail
     with_reducible refine HPC.o.mono ?_
     rintro e w8 ⟨A9,c9,rfl,hst,hb8⟩;have HB8:=zq (zAa HB7.o hb8);have HW8:=zq (zAa HW7.o hb8);have HXA:=zq (HX9.o.below hb8);have HST:=zq hst;clear hb8 hst HPC HB7 HW7 HX9;go_wp2
     go_loopg [68] PL.length (MyLR w8 PL (fun h=>mayF rs ds i use day th party h))
     case atStart=>exact ⟨0,za,rfl,rfl,aN _ _⟩
     case round =>
      obtain ⟨j,hjm,rfl,hall,hb⟩:=hrel;have HJ:=zq hjm;have HAL:=zq hall;have HBW:=zq hb;clear hjm hall hb
      by_cases hjl:j<PL.length
      ·obtain ⟨b9,o9,hA,hc9⟩:=HST.o za
       subst hA;have c0:=zAs HBW.o (hc9 j hjl)
       have HTK:Hid ((PL.take (j+1)).all (fun h=>mayF rs ds i use day th party h)=mayF rs ds i use day th party PL[j]):=by
        show _=_
        rw [bF hjl,List.all_append,HAL.o];simp
       have HAF:Hid (mayF rs ds i use day th party PL[j]=false→PL.all (fun h=>mayF rs ds i use day th party h)=false):=fun h=>by
        rw [List.all_eq_false];exact ⟨_,aJ hjl,by rw [h];simp⟩
       generalize PL[j]=hp at *;have HMC:=zq (HMY.o hp wr (zAa HW8.o HBW.o));have HXR:=zq (HXA.o.below HBW.o);obtain ⟨x0,x1,x2⟩:=HXR.o.t;have hsx:=HXR.o.lt;clear hc9
       go_wp2_with fail
       with_reducible refine HMC.o.mono ?_
       rintro e w9 ⟨rfl,hb9⟩;have HB9:=zq (zAa HBW.o hb9);clear hb9 HMC c0 x0 x1 x2 hsx HXR
       cases hmf:mayF rs ds i use day th party hp with
       | false =>
        have HS3:Hid (res=(false,0)):=by show _=_;rw [HS2.o,HAF.o hmf]
        clear hmf;go_wp2;go_ret2
        exact zAe.mk qc (zAa HB8.o HB9.o)
       | true =>
        have HT2:Hid ((PL.take (j+1)).all (fun h=>mayF rs ds i use day th party h)=true):=by show _=_;rw [HTK.o,hmf]
        clear hmf;go_wp2
        go_roundg (gk - 1)
        case measure=>have:=HJ.o;omega
        case rel=>exact ⟨j+1,zt,zi,HT2.o,HB9.o⟩
      ·have hje:PL.take j=PL:=cP za
       have HS3:Hid (res=(true,0)):=by show _=_;rw [HS2.o,←hje,HAL.o]
       clear hje;go_wp2;go_ret2
       exact zAe.mk qc (zAa HB8.o HBW.o)
end Go.Proofs.YtieoifkdobcpiaaGreatDoor
namespace Go.Proofs.YtieoifkdobcpiaaGreatDoor
open Dw
def lfI (rs:List Rg) (n:Nat):Nat:=(zAm rs).getD n 0
def chgP (rs:List Rg) (ds:List De) (i:Nat) (use:BA) (day:Int) (th:BA):Prop :=
 (∃ d∈ds,d.kd=3∧d.th=th∧vB rs ds i use (day - 1) d≠vB rs ds i use day d)∨zAp rs ds i th use (day - 1) ds.length≠zAp rs ds i th use day ds.length
structure SameD2 (rs:List Rg) (ds:List De) (i:Nat) (use:BA) (day:Int) (th:BA):Prop where
 lic:∀ d∈ds,∀ p x,zCC rs ds i use (day - 1) th p x d=zCC rs ds i use day th p x d
 parts:zAp rs ds i th use (day - 1) ds.length=zAp rs ds i th use day ds.length
section
variable {rs:List Rg} {us:List BA} {ds:List De} {i j k:Nat} {th use pl party:BA} {day:Int} {d:De}
theorem vB_lies (h:lies rs d.ar i=lies rs d.ar j):vB rs ds i use day d=vB rs ds j use day d:=by unfold vB;rw [h]
theorem conc_th (h1:d.th=th) (h2:d.kd≠4):zCj th d=true:=by unfold zCj;rw [cM h1,cN h2];simp
theorem movB_sg (hs:sgL rs th i ds=sgL rs th j ds) (hd:d∈ds):zCO rs ds i th use day d=zCO rs ds j th use day d:=by
 unfold zCO
 by_cases h1:d.kd=2
 ·rw [aF h1,aF h1]
  by_cases h2:d.th=th
  ·rw [vB_lies (sgL_same ds hs d hd (by rw [h1];rfl) (conc_th h2 (by rw [h1];decide)))]
  ·rw [cN h2];rfl
 ·rw [aD h1,aD h1]
theorem parts_sg (hs:sgL rs th i ds=sgL rs th j ds) (n:Nat):zAp rs ds i th use day n=zAp rs ds j th use day n :=
 parts_congr (fun _ _=>rfl) (fun _ hd=>movB_sg hs hd) n
theorem chg_sg (hs:sgL rs th i ds=sgL rs th j ds):chgP rs ds i use day th→chgP rs ds j use day th:=by
 rintro (⟨d,hd,h3,ht,hv⟩ | hp)
 ·have hl:=sgL_same ds hs d hd (by rw [h3];rfl) (conc_th ht (by rw [h3];decide))
  exact .inl ⟨d,hd,h3,ht,by rwa [←vB_lies hl,←vB_lies hl]⟩
 ·exact .inr (by rwa [←parts_sg hs,←parts_sg hs])
theorem same_edge (h:edgeB th ds day=false):SameD2 rs ds i use day th :=
 ⟨fun _ hd _ _=>licB_day hd h,parts_congr (fun _ hd=>orgB_day hd h) (fun _ hd=>movB_day hd h) _⟩
theorem same_no (h:¬ chgP rs ds i use day th):SameD2 rs ds i use day th:=by
 refine ⟨fun d hd p x=>?_,eQ fun hn=>h (.inr hn)⟩
 unfold zCC
 by_cases h1:d.kd=3
 ·by_cases h2:d.th=th
  ·have hv:vB rs ds i use (day - 1) d=vB rs ds i use day d:=eQ fun hn=>h (.inl ⟨d,hd,h1,h2,hn⟩)
   rw [hv]
  ·rw [cN h2];simp
 ·rw [cN h1];simp
theorem SameD2.hol (h:SameD2 rs ds i use day th) (hc:zBt rs us ds=0) :
  holL (zBr rs ds i th use (day - 1) ds.length) (zAp rs ds i th use (day - 1) ds.length)=holL (zBr rs ds i th use day ds.length) (zAp rs ds i th use day ds.length):=by
 obtain ⟨a1,a2,_⟩:=zBC hc i th use (day - 1) ds.length;obtain ⟨b1,b2,_⟩:=zBC hc i th use day ds.length;rw [h.parts] at a2 ⊢;exact holL_uniq a1 b1 a2 b2
theorem SameD2.may (h:SameD2 rs ds i use day th) (hc:zBt rs us ds=0):mayW rs ds i th party use (day - 1)=mayW rs ds i th party use day:=by
 obtain ⟨_,_,a3⟩:=zBC hc i th use (day - 1) ds.length;obtain ⟨_,_,b3⟩:=zBC hc i th use day ds.length;have hh:=h.hol hc
 have e:zCi (zBr rs ds i th use (day - 1) ds.length) (zAp rs ds i th use (day - 1) ds.length)=zCi (zBr rs ds i th use day ds.length) (zAp rs ds i th use day ds.length):=by
  have e1:=sumF_holL (K:=zBr rs ds i th use (day - 1) ds.length) (f:=zAp rs ds i th use (day - 1) ds.length);have e2:=sumF_holL (K:=zBr rs ds i th use day ds.length) (f:=zAp rs ds i th use day ds.length);rw [←e1,←e2,hh,h.parts]
 unfold mayW;rw [←a3,←b3,e,hh]
 congr 2
 funext ho
 exact may_congr h.lic party ho
theorem edL_mem {x:Int}:x∈edL th ds ds.length↔x=0∨x=200001∨edgeB th ds x=true:=by
 unfold edL edgeB;rw [bO,List.mem_cons,List.mem_cons,List.mem_flatMap,eF];refine or_congr Iff.rfl (or_congr Iff.rfl ⟨?_,?_⟩)
 ·rintro ⟨d,hd,hx⟩
  cases hc:zCj th d with
  | false=>rw [hc] at hx;simp at hx
  | true =>
   rw [hc,aF rfl] at hx;exact ⟨d,hd,by rw [hc,Bool.true_and,eF];exact ⟨x,hx,cM rfl⟩⟩
 ·rintro ⟨d,hd,h⟩
  rw [dG,eF] at h;obtain ⟨hc,n,hn,e⟩:=h;have e:=eT e;subst e;exact ⟨d,hd,by rw [aF hc];exact hn⟩
def ToldP (rs:List Rg) (us:List BA) (ds:List De) (th:BA) (x:Int):Prop :=
 1≤x∧x≤200000∧x∈edL th ds ds.length∧∃ n,n<(zAm rs).length∧∃ u∈us,chgP rs ds (lfI rs n) u x th
theorem dayB_iff:zCM day=true↔0≤day∧day≤200000:=by unfold zCM;simp
theorem same_told (g:GoodR rs) (h:¬ ToldP rs us ds th day) (h1:1≤day) (hs:zBz rs us pl use day=0):SameD2 rs ds ((idx rs pl).getD 0) use day th:=by
 unfold zBz at hs
 cases hlu:leafB rs pl&&memS us use with
 | false=>rw [hlu] at hs;simp at hs
 | true =>
  rw [hlu] at hs
  cases hdy:zCM day with
  | false=>rw [hdy] at hs;simp at hs
  | true =>
   rw [dG] at hlu;obtain ⟨_,d2⟩:=dayB_iff.1 hdy;obtain ⟨i,n,hi,hnm,_,hn⟩:=leaf_at g hlu.1;have hidx:(idx rs pl).getD 0=i:=by rw [←hnm,g.inc.idx hi];rfl
   rw [hidx]
   cases he:edgeB th ds day with
   | false=>exact same_edge he
   | true =>
    refine same_no fun hc=>h ⟨h1,d2,edL_mem.2 (.inr (.inr he)),n,(List.getElem?_eq_some_iff.1 hn).1,use,?_,?_⟩
    ·exact zBR.1 hlu.2
    ·have:lfI rs n=i:=by unfold lfI;rw [List.getD_eq_getElem?_getD,hn];rfl
     rw [this];exact hc
end
theorem told_law {rs:List Rg} {us:List BA} {ds:List De} {th use pl party:BA} {day:Int} (hc:zBt rs us ds=0) (hn:zAT th=true) (h:¬ ToldP rs us ds th day) (h1:1≤day)
  (ha:(zBe rs us ds th pl use (day - 1)).2=0) (hb:(zBe rs us ds th pl use day).2=0) :
  zBe rs us ds th pl use (day - 1)=zBe rs us ds th pl use day∧mayA rs us ds th party pl use (day - 1)=mayA rs us ds th party pl use day:=by
 by_cases sa:zBz rs us pl use (day - 1)=0
 case neg=>rw [srF_sp hc hn sa] at ha;exact absurd ha sa
 by_cases sb:zBz rs us pl use day=0
 case neg=>rw [srF_sp hc hn sb] at hb;exact absurd hb sb
 obtain ⟨hcr,_,_⟩:=zBP hc;have hs:=same_told (good_of hcr) h h1 sb;have hh:=hs.hol hc;rw [srF_at hc hn sa] at ha ⊢;rw [srF_at hc hn sb] at hb ⊢
 cases la:zBM rs ds ((idx rs pl).getD 0) th use (day - 1) ds.length with
 | true=>rw [la,aF rfl] at ha;cases ha
 | false =>
  cases lb:zBM rs ds ((idx rs pl).getD 0) th use day ds.length with
  | true=>rw [lb,aF rfl] at hb;cases hb
  | false =>
   refine ⟨by rw [aD zd,aD zd,hh,hs.parts],?_⟩
   cases hp:zAT th&&zAT party with
   | false=>rw [myF_nm hc hp,myF_nm hc hp]
   | true=>rw [myF_at hc hp sa,myF_at hc hp sb,la,lb,aD zd,aD zd,hs.may hc]
theorem told_err {rs:List Rg} {us:List BA} {ds:List De} {th use pl:BA} {day:Int} (hc:zBt rs us ds=0) (hn:zAT th=true) (h1:1≤day)
  (h:(zBe rs us ds th pl use (day - 1)).2≠0∨(zBe rs us ds th pl use day).2≠0) :
  (zBe rs us ds th pl use (day - 1)).2=(zBe rs us ds th pl use day).2∨(zBe rs us ds th pl use (day - 1)).2=2∨(zBe rs us ds th pl use day).2=2∨day=200001:=by
 by_cases hd:day=200001
 ·exact .inr (.inr (.inr hd))
 have hdd:zCM (day - 1)=zCM day:=by
  rw [aA,dayB_iff,dayB_iff];omega
 have hss:zBz rs us pl use (day - 1)=zBz rs us pl use day:=by unfold zBz;rw [hdd]
 by_cases sb:zBz rs us pl use day=0
 ·have sa:zBz rs us pl use (day - 1)=0:=by rw [hss];exact sb
  rw [srF_at hc hn sa,srF_at hc hn sb] at h ⊢
  cases la:zBM rs ds ((idx rs pl).getD 0) th use (day - 1) ds.length with
  | true=>exact .inr (.inl zd)
  | false =>
   cases lb:zBM rs ds ((idx rs pl).getD 0) th use day ds.length with
   | true=>exact .inr (.inr (.inl zd))
   | false=>rw [la,lb] at h;simp at h
 ·have sa:zBz rs us pl use (day - 1)≠0:=by rw [hss];exact sb
  rw [srF_sp hc hn sa,srF_sp hc hn sb,hss];exact .inl rfl
open Go.RowKit Dw
abbrev sigB (rs:List Rg) (th:BA) (ds:List De) (n:Nat):BA:=⟨(sgL rs th (lfI rs n) ds).toArray⟩
def GivesCls (rs:List Rg) (th:BA) (ds:List De) (w:World) (e:Ending) (w':World):Prop :=
 ∃ (v:Value) (H:List Nat),e = .returned v∧ClsIs w' v H∧H.length≤(zAm rs).length∧(∀ h∈H,h<(zAm rs).length)∧(∀ n,n<(zAm rs).length→∃ h∈H,sgL rs th (lfI rs h) ds=sgL rs th (lfI rs n) ds)∧Below w.heap.size w w'
def ClR (W:World) (L:Nat) (rs:List Rg) (th:BA) (ds:List De) (nl m:Nat) (ov iv:Value) (wr:World):Prop :=
 ∃ (k:Nat) (v:Value) (vs:List Value) (H:List Nat) (R:Nat→List Int),v=ov∧k+m=nl∧iv = .int .i64 (k:Nat)∧ClsS W L W.heap.size (clsF (sigB rs th ds) H) v vs R wr∧FactsC (sigB rs th ds) nl k H vs R
def SgR (W:World) (rs:List Rg) (th:BA) (ds:List De) (i m:Nat) (ov iv:Value) (wr:World):Prop :=
 ∃ (j:Nat) (v:Value),v=ov∧j+m=ds.length∧iv = .int .i64 (j:Nat)∧OwnB wr W.heap.size v (sgL rs th i (ds.take j))∧Below W.heap.size W wr
theorem conv_nil (w:World):(convert 131 9 (.slice none 0 0)).run Tryz.prog w = .ok (.string ⟨#[]⟩) w:=zb
theorem conv_own {w:World} {B:Nat} {v:Value} {l:List UInt8} (h:OwnB w B v l):(convert 131 9 v).run Tryz.prog w = .ok (.string ⟨l.toArray⟩) w:=by
 rcases h.2 with ⟨rfl,hn⟩ | ⟨g,cap,cur,rfl,_⟩
 ·have:l=[]:=List.length_eq_zero_iff.1 hn
  subst this;exact conv_nil w
 ·exact run_convert_bytes_back (P:=Tryz.prog) w 131 9 5 ⟨g,0,none⟩ cap l Tryz.underlying131 Tryz.underlying5 Tryz.underlying9 (fun q hq=>by
   rw [addN,aK];exact (h.get rfl q hq).1)
theorem insM_cons {rs:List Rg} {d:De} {N:List Bool} (h:insM rs d=true::N):zAj d.kd=true:=by
 unfold insM at h
 cases hg:zAj d.kd with
 | true=>rfl
 | false=>rw [aD (by rw [hg];simp)] at h;cases h
theorem classes_c (RA:Option Addr) (rc:Nat) (rs:List Rg) (UA:Option Addr) (uc:Nat) (us:List BA) (DA:Option Addr) (dc:Nat) (ds:List De) (L:Nat) (th:BA) (w:World)
  (hl:LgIs RA rc rs UA uc us DA dc ds w L) (hd:Des w DA ds) (hdl:ds.length≤200) (hnl:(zAm rs).length≤200) :
  Calls Tryz.prog 25 #[.pointer (some ⟨L,0,none⟩),.string th] w (GivesCls rs th ds w):=by
 have HLG:=zq hl;have HD:=zq hd;clear hl hd;obtain ⟨r1,r2,g1,g2,AL,cL,vr,vi,ins,base,hlx,_,_,hin,hin2,hin3⟩:=HLG.o;have HIN:=zq hin;have HIN2:=zq hin2;have HIN3:=zq hin3;have HLX:=zq hlx;clear hlx hin hin2 hin3;have hLs:L<w.heap.size:=HLX.o.lt;have HB0:Hid (Below w.heap.size w (w.alloc (.map #[] 0))):=(aN _ _).alloc (aC _) _
 have HC0:Hid (ClsS w L w.heap.size (clsF (sigB rs th ds) []) (.slice none 0 0) [] (fun _=>[]) (w.alloc (.map #[] 0))) :=
  ⟨zAE.nil _ _ _ _ _,RowsI.nil _ _ _ 0,zAq.new _ _,aC _,hLs,HB0.o⟩
 obtain ⟨W,hW⟩:∃ W,W=w.alloc (.map #[] 0):=⟨_,rfl⟩;rw [←hW] at HC0 HB0;have l5:W.cell? ⟨L,5,none⟩=some (.slice AL (zBW rs (fun i=>!zAB rs i) rs.length).length cL):=(HLX.o.below HB0.o).c 5 rfl
 have hsl:L<W.heap.size:=cY hLs HB0.o.size;have hmm:=@run_makeMap Tryz.prog
 go_enter Tryz.func25,Tryz.ntmps25
 go_upto_region 2 with fail
 rw [←hW];clear hW;obtain ⟨nl,hnle⟩:∃ nl,nl=(zBW rs (fun i=>!zAB rs i) rs.length).length:=⟨_,rfl⟩
 rw [←hnle] at l5;have HNL:Hid (nl=(zAm rs).length):=by show _=_;rw [hnle];unfold zBW zAm;rw [cW]
 have hn2:nl≤200:=by rw [HNL.o];exact hnl
 clear hnle hmm
 go_wp2_with fail
 go_loopg [6,20] nl (ClR w L rs th ds nl)
 case atStart=>exact ⟨0,_,[],[],fun _=>[],rfl,za,rfl,HC0.o,FactsC.zero⟩
 clear l5 hsl HC0 HB0
 case round =>
  obtain ⟨k,v,vs,H,R,rfl,hkm,rfl,hcs,hf⟩:=hrel;have HK:=zq hkm;have HCS:=zq hcs;have HF:=zq hf;clear hkm hcs hf
  by_cases hlt:k<nl
  ·have hsl:L<wr.heap.size:=cY hLs HCS.o.bel.size
   obtain ⟨Ai,ci,hvi,hri⟩:=HIN.o.rdk;subst hvi;have l10:wr.cell? ⟨L,10,none⟩=some (.slice Ai ins.length ci):=(HLX.o.below HCS.o.bel).c 10 rfl;have hil:ins.length=ds.length:=by have:=bA List.length HIN2.o;simpa using this
   rw [hil] at l10;have HIL:=zq hil
   have HI:Hid ((zAm rs)[k]?=some (lfI rs k)):=by
    show _=_
    unfold lfI;rw [List.getD_eq_getElem?_getD,List.getElem?_eq_getElem (by rw [←HNL.o];exact hlt)];rfl
   obtain ⟨i,hi⟩:∃ i,i=lfI rs k:=⟨_,rfl⟩;have HIE:=zq hi;rw [←hi] at HI;clear hri hil hi
   go_wp2_with fail
   rename World=>w1
   go_loopg [8,28] ds.length (SgR w1 rs th ds i)
   case atStart=>exact ⟨0,_,rfl,za,rfl,zAE.nil _ _ _ _ _,aN _ _⟩
   clear l10 hsl
   case round =>
    obtain ⟨j,sv,rfl,hjm,rfl,hsv,hbj⟩:=hrel;have HJ:=zq hjm;have HSV:=zq hsv;have HBJ:=zq hbj;have HBW:=zq (HCS.o.below hbj).bel;have hsl2:(sgL rs th i (ds.take j)).length≤200:=cU (sgL_len _) (cU (by rw [bG];omega) hdl)
    clear hjm hsv hbj
    by_cases hltj:j<ds.length
    ·obtain ⟨ib,io,icap,x,hvi,ci0,hix⟩:=in_at HIN.o HIN2.o HIN3.o hltj
     injection hvi with hAi _ hci
     subst hAi;subst hci;obtain ⟨d,hdd⟩:∃ d,ds[j]=d:=⟨_,rfl⟩;have HSS:=zq (sgL_succ (rs:=rs) (th:=th) (i:=i) hltj);have HCN:=zq (fun (u:World) (hu:Below w.heap.size w u)=>concerns_c RA rc rs UA uc us DA dc ds L j th u (HLG.o.below hu) (HD.o.below hu) hltj)
     rw [hdd] at hix HSS HCN;have k0:=zAs HBW.o ci0;clear ci0 hdd
     cases hgv:zAj d.kd with
     | false =>
      have hxn:x = .slice none 0 0:=by
       rcases hix with ⟨h,_⟩ | ⟨_,_,_,hM,_⟩
       ·exact h
       ·rw [insM_cons hM] at hgv;cases hgv
      subst hxn
      have HN:Hid (OwnB wr w1.heap.size sv (sgL rs th i (ds.take (j+1)))):=by
       show zAE _ _ _ _ _ _ _
       rw [HSS.o,aD (fun h=>by rw [hgv] at h;cases h.1),aE];exact HSV.o
      clear hgv hix;go_wp2
      go_roundg (gk - 1)
      case measure=>have:=HJ.o;omega
      case rel=>exact ⟨j+1,_,rfl,zt,zi,HN.o,HBJ.o⟩
     | true =>
      obtain ⟨go,cg,rfl,hlt2,hgw,hcell⟩:=set_at hgv hix HI.o;have HS0:=zq hcell;have HGV:=zq hgv;generalize (inL rs d.ar).length=gn at *;clear hgv hix hcell hgw
      go_wp2_with fail
      with_reducible refine (HCN.o _ HBW.o).mono ?_
      rintro e w3 ⟨rfl,hb3⟩;have HB3:=zq (zAa HBJ.o hb3);have HSV3:=zq (HSV.o.below hb3);have s0:=zAs hb3 (zAs HBW.o HS0.o);clear hb3 HCN k0
      cases hcb:zCj th d with
      | false =>
       have HN:Hid (OwnB w3 w1.heap.size sv (sgL rs th i (ds.take (j+1)))):=by
        show zAE _ _ _ _ _ _ _
        rw [HSS.o,aD (fun h=>by rw [hcb] at h;cases h.2),aE];exact HSV3.o
       clear hcb;go_wp2
       go_roundg (gk - 1)
       case measure=>have:=HJ.o;omega
       case rel=>exact ⟨j+1,_,rfl,zt,zi,HN.o,HB3.o⟩
      | true =>
       have HS2:Hid (sgL rs th i (ds.take (j+1))=sgL rs th i (ds.take j)++[if lies rs d.ar i=true then 49 else 48]):=by
        show _=_
        rw [HSS.o,aF ⟨HGV.o,hcb⟩]
       have hw3:w1.heap.size≤w3.heap.size:=HB3.o.size;clear hcb
       cases hli:lies rs d.ar i
       all_goals
        rw [hli] at s0;rw [hli] at HS2;simp only [dR,eD,dO] at HS2;clear hli
       ·go_wp2_with (at_builtin;refine zBF _ _ _ elB rfl rfl w1.heap.size sv (sgL rs th i (ds.take j)) rfl (HSV3.o.alloc _) w3.heap.size 1 (48:UInt8) rfl (bZ _ _) rfl zx zm za ze ?_;intro A1 c1 w4 hown4 hg4 hb4 hor4)
        have HO4:Hid (OwnB w4 w1.heap.size (.slice A1 ((sgL rs th i (ds.take j)).length+1) c1) (sgL rs th i (ds.take (j+1)))):=ym;have HB4:=zq ((HB3.o.alloc hw3 _).trans hb4);clear hown4 hg4 hb4 hor4 s0;go_wp2
        go_roundg (gk - 1)
        case measure=>have:=HJ.o;omega
        case rel=>exact ⟨j+1,_,rfl,zt,zi,HO4.o,HB4.o⟩
       ·go_wp2_with (at_builtin;refine zBF _ _ _ elB rfl rfl w1.heap.size sv (sgL rs th i (ds.take j)) rfl (HSV3.o.alloc _) w3.heap.size 1 (49:UInt8) rfl (bZ _ _) rfl zx zm za ze ?_;intro A1 c1 w4 hown4 hg4 hb4 hor4)
        have HO4:Hid (OwnB w4 w1.heap.size (.slice A1 ((sgL rs th i (ds.take j)).length+1) c1) (sgL rs th i (ds.take (j+1)))):=ym;have HB4:=zq ((HB3.o.alloc hw3 _).trans hb4);clear hown4 hg4 hb4 hor4 s0;go_wp2
        go_roundg (gk - 1)
        case measure=>have:=HJ.o;omega
        case rel=>exact ⟨j+1,_,rfl,zt,zi,HO4.o,HB4.o⟩
    ·obtain rfl:j=ds.length:=by have:=HJ.o;omega
     have HSG:Hid (OwnB wr w1.heap.size sv (sgL rs th i ds)):=by have:=HSV.o;rwa [bO] at this
     have HC2:=zq (HCS.o.below HBJ.o);have hcv:=conv_own HSG.o;obtain ⟨sk,hsk⟩:∃ sk,sk=sigB rs th ds k:=⟨_,rfl⟩;rw [show (⟨(sgL rs th i ds).toArray⟩:BA)=sk by rw [hsk,HIE.o]] at hcv
     have hlk:=zAn tMap kStr zInt HC2.o.map sk true;have HSK:=zq hsk;obtain ⟨fo,hfo⟩:∃ fo,fo=clsF (sigB rs th ds) H sk:=⟨_,rfl⟩;rw [←hfo] at hlk;have HFO:=zq hfo;simp only [dR] at hlk;clear hsk hfo HSV HBJ HBW HCS;obtain ⟨Av,cv,hv,_⟩:=HC2.o.own.rdk;subst hv;go_upto_if 60 with fail
     go_cut [6,11] (fun ov jv wx=>∃ (jj:Nat) (vs':List Value) (H':List Nat) (R':Nat→List Int) (v':Value),v'=ov∧jv = .int .i64 (jj:Nat)∧ClsS w L w.heap.size (clsF (sigB rs th ds) H') v' vs' R' wx∧FactsK (sigB rs th ds) nl k jj H' vs' R')
     case first =>
      cases fo with
      | none =>
       obtain ⟨wu,hup,hmu,hgu,hsz⟩:=zAC tMap kStr HC2.o.map sk (.int .i64 (vs.length:Int));clear hsz;have HCU:=zq (HC2.o.upd hmu hgu);have HLEN:=zq HF.o.len;have HONE:Hid (∀ u∈eV zAk,u.oneCell'=true):=fun u hu=>by rw [List.mem_singleton.1 hu];rfl
       have hvl:vs.length≤200:=by rw [HLEN.o];have:=HF.o.hk;omega
       have hwu:w.heap.size≤wu.heap.size:=HCU.o.bel.size;clear hmu hgu hlk
       go_wp2_with (at_builtin;refine zBF _ _ _ elInts rfl rfl w.heap.size (.slice Av vs.length cv) vs rfl (HCU.o.own.alloc _) wu.heap.size 1 zAk rfl (bZ _ _) rfl HONE.o zm za ze ?_;intro A1 c1 w4 hown4 hg4 hb4 hor4)
       have HC4:=zq ((HCU.o.below ((aN _ _).alloc (aC _) _)).snoc hown4 hg4);clear hown4 hg4 hb4 hor4 hup;go_meet;refine ⟨H.length,vs++[zAk],H++[k],_,_,rfl,by rw [HLEN.o],?_,HF.o.new hlt HLEN.o⟩
       have h:=HC4.o;have hn:clsF (sigB rs th ds) H (sigB rs th ds k)=none:=by rw [←HSK.o];exact HFO.o.symm
       rw [←clsF_new hn,←HSK.o,←HLEN.o];exact h
      | some v0 =>
       obtain ⟨jj,hjj,rfl,hsg⟩:=clsF_some HFO.o.symm;clear hlk;go_wp2;go_meet;exact ⟨jj,vs,H,R,_,rfl,rfl,HC2.o,HF.o.old hjj (by rw [hsg,HSK.o])⟩
     case rest =>
      obtain ⟨jj,vs2,H2,R2,v2,rfl,rfl,hc2,hf2⟩:=hcut;have HC:=zq hc2;have HFK:=zq hf2;have hjv:jj<vs2.length:=by rw [hf2.len];exact hf2.hj
      obtain ⟨g,cap,hv⟩:=own_some hc2.own za;subst hv;have hjA:vs2.toArray[jj]?=some vs2[jj]:=by rw [List.getElem?_toArray];exact List.getElem?_eq_getElem hjv
      have HRO:=zq (hc2.rows.own jj _ hjA);have HJA:Hid (vs2[jj]?=some vs2[jj]):=List.getElem?_eq_getElem hjv;have x0:wc.cell? ⟨g,jj,none⟩=some vs2[jj]:=by rw [dE (xs:=vs2.flatMap eV) hc2.own jj za,flatV];exact List.getElem?_eq_getElem hjv
      have HF4:Hid (∀ (o:Obj) (w4:World),(wc.alloc o).grownBy w4 (vs2[jj]).ownBlock→w4.frozen? ⟨g,jj,none⟩=false∧w4.cell? ⟨g,jj,none⟩=some vs2[jj]∧g<w4.heap.size):=fun o w4 hg4=>by
       have h1:zAE eV 1 w4 w.heap.size 27 (.slice (some ⟨g,0,none⟩) vs2.length cap) vs2:=(HC.o.own.alloc o).grown hg4 (zDq (HC.o.own.alloc o) (HRO.o.alloc o) zc);exact ⟨World.ownsRow.frozenAt (xs:=vs2.flatMap eV) h1 jj,by rw [dE (xs:=vs2.flatMap eV) h1 jj za,flatV];exact List.getElem?_eq_getElem hjv,(aO h1 g rfl).2⟩
      obtain ⟨u,hu⟩:∃ u,vs2[jj]=u:=⟨_,rfl⟩;rw [hu] at HRO HJA x0 HF4;clear hjA hu;obtain ⟨Au,cu,hvu,_⟩:=HRO.o.rdk;subst hvu;have hrl:(R2 jj).length≤200:=by have:=hf2.rl jj hf2.hj;omega
      have hwc:w.heap.size≤wc.heap.size:=HC.o.bel.size;clear hc2 hf2
      go_wp2_with (at_builtin;refine zBF _ _ _ elInt rfl rfl w.heap.size (.slice Au (R2 jj).length cu) (R2 jj) rfl (HRO.o.alloc _) wc.heap.size 1 (k:Int) rfl (bZ _ _) rfl zx zm za ze ?_;intro A1 c1 w4 hown4 hg4 hb4 hor4;obtain ⟨f4,z4,hgl4⟩:=HF4.o _ _ hg4)
      have HC5:=zq ((HC.o.below ((aN _ _).alloc (aC _) (.cells #[.int .i64 (k:Int)] 3))).put HJA.o hg4 hown4 hor4);have HF5:=zq (HFK.o.done (.slice A1 ((R2 jj).length+1) c1));have HV5:Hid ((vs2.set jj (.slice A1 ((R2 jj).length+1) c1)).length=vs2.length):=cQ;clear hown4 hg4 hb4 hor4 f4 z4 hgl4 x0
      go_roundg (nl - k - 1)
      case measure=>have:=HK.o;omega
      case rel=>exact ⟨k+1,_,_,H2,_,rfl,zh,zi,HC5.o,HF5.o⟩
  ·obtain rfl:k=nl:=by have:=HK.o;omega
   go_wp2;go_ret
   refine ⟨v,H,rfl,HCS.o.is HF.o,?_,?_,fun n hn=>?_,HCS.o.bel⟩
   ·rw [←HNL.o];exact HF.o.hk
   ·intro h hh;rw [←HNL.o];exact HF.o.lt h hh
   ·obtain ⟨h,hh,e⟩:=HF.o.cov n (by rw [HNL.o];exact hn)
    exact ⟨h,hh,List.toArray_inj (ByteArray.mk.inj e)⟩
theorem nat_eq {p q:Rat} (hp:0≤p) (hq:0≤q):p.num.natAbs*q.den=q.num.natAbs*p.den↔p=q:=by
 constructor
 ·intro e
  calc p=mkRat ((p.num.natAbs:Nat):Int) p.den:=as_q hp
   _=mkRat ((q.num.natAbs:Nat):Int) q.den:=(eR p.den_nz q.den_nz).2 (by exact_mod_cast e)
   _=q:=(as_q hq).symm
 ·rintro rfl;rfl
theorem cmp_zero {p q:Rat} (hp:0≤p) (hq:0≤q):cmpN (p.num.natAbs*q.den) (q.num.natAbs*p.den)=0↔p=q:=by
 rw [←nat_eq hp hq]
 rcases Nat.lt_trichotomy (p.num.natAbs*q.den) (q.num.natAbs*p.den) with h1 | h1 | h1
 ·rw [zCy h1];exact ⟨(fun e=>by cases e),(fun e=>za)⟩
 ·rw [zDo h1];exact ⟨fun _=>h1,fun _=>rfl⟩
 ·rw [zCF h1];exact ⟨(fun e=>by cases e),(fun e=>za)⟩
def GivesIff (p:Prop) (w:World) (e:Ending) (w':World):Prop:=∃ b:Bool,e = .returned (.bool b)∧(b=true↔p)∧Below w.heap.size w w'
section
variable {f1 f2:zBa} {K1 K2:List BA}
theorem keys_len_eq (h1:∀ p,p∈K1↔f1 p≠0) (h2:∀ p,p∈K2↔f2 p≠0) (n1:K1.Nodup) (n2:K2.Nodup) (e:f1=f2):K1.length=K2.length :=
 Nat.le_antisymm (List.Nodup.length_le_of_subset n1 fun p hp=>(h2 p).2 (by rw [←e];exact (h1 p).1 hp)) (List.Nodup.length_le_of_subset n2 fun p hp=>(h1 p).2 (by rw [e];exact (h2 p).1 hp))
theorem same_of_keys (h1:∀ p,p∈K1↔f1 p≠0) (h2:∀ p,p∈K2↔f2 p≠0) (n1:K1.Nodup) (hl:K1.length=K2.length) (h:∀ p∈K1,f1 p=f2 p):f1=f2:=by
 funext p
 by_cases hp:p∈K1
 ·exact h p hp
 ·have e1:f1 p=0:=eQ fun hn=>hp ((h1 p).2 hn)
  refine e1.trans (eQ fun hn=>?_)
  have h3:p∈K2:=(h2 p).2 fun e=>hn e.symm
  have h4:=List.Nodup.length_le_of_subset (List.nodup_cons.2 ⟨hp,n1⟩) (l₂:=K2) fun q hq=>by
   rcases List.mem_cons.1 hq with rfl | hq
   ·exact h3
   ·exact (h2 q).2 (by rw [←h q hq];exact (h1 q).1 hq)
  simp only [aR] at h4;omega
end
def SmR (w:World) (g1 it:Nat) (f1 f2:zBa) (L:List (BA×Value)) (m:Nat) (wr:World):Prop :=
 ∃ R:List (BA×Value),R.length=m∧zAU Value.string wr it g1 L R∧(∀ x∈L,x∈R∨f1 x.1=f2 x.1)∧Below w.heap.size w wr
theorem same_c (g1 g2:Nat) (f1 f2:zBa) (w:World) (hp1:zAw w g1 f1) (hp2:zAw w g2 f2) (hz1:∀ p,SzQ 100000000 (f1 p)) (hz2:∀ p,SzQ 100000000 (f2 p)) (hn1:∀ p,0≤f1 p) (hn2:∀ p,0≤f2 p) :
  Calls Tryz.prog 67 #[.map (some g1),.map (some g2)] w (GivesIff (f1=f2) w):=by
 have HP2:=zq hp2;obtain ⟨L1,h1,h12,h13⟩:=hp1;obtain ⟨L2,h2,h22,_⟩:=hp2
 have HK1:Hid (∀ p,p∈L1.map (·.1)↔f1 p≠0):=fun p=>by
  rw [h12,List.mem_map];exact ⟨fun ⟨x,hx,e⟩=>⟨x.2,by rw [←e];exact hx⟩,fun ⟨v,hv⟩=>⟨_,hv,rfl⟩⟩
 have HK2:Hid (∀ p,p∈L2.map (·.1)↔f2 p≠0):=fun p=>by
  rw [h22,List.mem_map];exact ⟨fun ⟨x,hx,e⟩=>⟨x.2,by rw [←e];exact hx⟩,fun ⟨v,hv⟩=>⟨_,hv,rfl⟩⟩
 have HN1:=zq h1.nodup;have HN2:=zq h2.nodup;have HNV:=zq h13;have HZ1:=zq hz1;have HZ2:=zq hz2;have HP1:=zq hn1;have HPP2:=zq hn2;obtain ⟨o,hrun,hpr⟩:=zAU.start (P:=Tryz.prog) tMapP h1;have HPR:=zq hpr;have HB0:Hid (Below w.heap.size w (w.alloc o)):=(aN _ _).alloc (aC _) _;have hgl:=h1.lt;obtain ⟨es1,clk1,hm1,hl1,_⟩:=h1;obtain ⟨es2,clk2,hm2,hl2,_⟩:=h2;have hlen1:=run_len_map hm1;have hlen2:=run_len_map hm2;have e1:es1.size=L1.length:=by have:=bA List.length hl1;simpa using this
 have e2:es2.size=L2.length:=by have:=bA List.length hl2;simpa using this
 rw [e1] at hlen1;rw [e2] at hlen2;clear h12 h13 h22 hpr hm1 hm2 hl1 hl2 e1 e2 hz1 hz2 hn1 hn2
 by_cases hl:L1.length=L2.length
 case neg =>
  have hb:((L1.length:Int) != (L2.length:Int))=true:=by simpa using fun h=>hl za
  have HF:Hid (f1≠f2):=fun e=>hl (by simpa using keys_len_eq HK1.o HK2.o HN1.o HN2.o e)
  clear hl hrun
  go_enter Tryz.func67,Tryz.ntmps67
  go_wp2;go_ret
  exact ⟨false,rfl,⟨(fun h=>qh),fun h=>absurd h HF.o⟩,aN _ _⟩
 have hb:((L1.length:Int) != (L2.length:Int))=false:=by rw [hl];simp
 have HLL:=zq hl;clear hl
 go_enter Tryz.func67,Tryz.ntmps67
 go_wp2;clear hrun hlen1 hlen2 hb
 go_loopg [] L1.length (SmR w g1 w.heap.size f1 f2 L1)
 case atStart=>exact ⟨L1,rfl,HPR.o,fun x hx=>.inl hx,HB0.o⟩
 clear HPR HB0
 case round =>
  obtain ⟨R,hm,hpr,hall,hb⟩:=hrel;have HM:=zq hm;have HALL:=zq hall;have HB:=zq hb;have HPR:=zq hpr;clear hm hall hb hpr
  rcases zAU.next (P:=Tryz.prog) HPR.o str_inj za 0 with ⟨hR,hnx⟩ | ⟨x,R',w',hperm,hxL,hnx,hen,hpr',hg',hs'⟩
  ·have HF:Hid (f1=f2):=same_of_keys HK1.o HK2.o HN1.o (by simpa using HLL.o) fun p hp=>by
    obtain ⟨x,hx,rfl⟩:=List.mem_map.1 hp
    rcases HALL.o x hx with h | h
    ·rw [hR] at h;cases h
    ·exact h
   clear hR;go_wp2;go_ret
   exact ⟨true,rfl,⟨fun _=>HF.o,fun _=>rfl⟩,HB.o⟩
  ·obtain ⟨p,v⟩:=x
   have HB1:=zq (zBp HB.o HB.o.size hg' (aC _));obtain ⟨A,c,A2,c2,e,n1,n2⟩:=HNV.o p v hxL;subst e;have HPR1:=zq hpr';have HPM:=zq hperm;have HXL:=zq hxL;have hba:Below w'.heap.size w' (w'.alloc (.cells (raC A c (f1 p).num.natAbs A2 c2 (f1 p).den) 89)):=(aN _ _).alloc (aC _) _;have HX4:Hid (Bx (w'.alloc (.cells (raC A c (f1 p).num.natAbs A2 c2 (f1 p).den) 89)) w'.heap.size (raC A c (f1 p).num.natAbs A2 c2 (f1 p).den) 89):=Bx.new _ _ _;have HN5:=zq (n1.below HB1.o);have HN6:=zq (n2.below HB1.o);clear hperm hxL hpr' hg' hs' n1 n2;go_upto_region 6 with fail
   obtain ⟨w4,hw4⟩:∃ w4,w4=w'.alloc (.cells (raC A c (f1 p).num.natAbs A2 c2 (f1 p).den) 89):=⟨_,rfl⟩;rw [←hw4] at hba HX4 ⊢;clear hw4 hnx hen;have HB4:=zq (zAa HB1.o hba);have HB14:=zq hba;obtain ⟨F,hF,hFp⟩:=(HP2.o.below HB4.o).is;have hlk:=zAn tMapP kStr zRatV hF p true;clear hba hF
   rcases hFp p with ⟨h0,hN⟩ | ⟨h0,v,hN,A3,c3,A4,c4,rfl,n3,n4⟩
   ·rw [hN] at hlk
    simp only [dR,dZ,eA] at hlk;have HF:Hid (f1≠f2):=fun e=>(HK1.o p).1 (List.mem_map.2 ⟨_,HXL.o,rfl⟩) (by rw [e];exact h0)
    clear hN hFp h0;go_wp2;go_ret
    exact ⟨false,rfl,⟨(fun h=>qh),fun h=>absurd h HF.o⟩,HB4.o.alloc HB4.o.size _⟩
   ·rw [hN] at hlk
    simp only [dR,eB,eC] at hlk;have hbb:Below w4.heap.size w4 (w4.alloc (.cells (raC A3 c3 (f2 p).num.natAbs A4 c4 (f2 p).den) 89)):=(aN _ _).alloc (aC _) _;have HY5:Hid (Bx (w4.alloc (.cells (raC A3 c3 (f2 p).num.natAbs A4 c4 (f2 p).den) 89)) w4.heap.size (raC A3 c3 (f2 p).num.natAbs A4 c4 (f2 p).den) 89):=Bx.new _ _ _;have HM3:=zq n3;have HM4:=zq n4;clear hN hFp h0 n3 n4;go_upto_region 7 with fail
    obtain ⟨w5,hw5⟩:∃ w5,w5=w4.alloc (.cells (raC A3 c3 (f2 p).num.natAbs A4 c4 (f2 p).den) 89):=⟨_,rfl⟩;rw [←hw5] at hbb HY5 ⊢;clear hw5 hlk;have HX5:=zq (HX4.o.below hbb);have HB5:=zq (zAa HB4.o hbb);have HB15:=zq (zAa HB14.o hbb);have HCM:=zq (RCmp_c A A2 A3 A4 c c2 c3 c4 (f1 p).num.natAbs (f1 p).den (f2 p).num.natAbs (f2 p).den w5 (HN5.o.below HB15.o) (HN6.o.below HB15.o) (HM3.o.below hbb) (HM4.o.below hbb) (HZ1.o p).1.1 (HZ1.o p).2.1 (HZ2.o p).1.1 (HZ2.o p).2.1);have HCZ:=zq (cmp_zero (HP1.o p) (HPP2.o p));generalize cmpN ((f1 p).num.natAbs*(f2 p).den) ((f2 p).num.natAbs*(f1 p).den)=z at *;obtain ⟨x0,x1,x2⟩:=HX5.o.t;have hsx:=HX5.o.lt;obtain ⟨y0,y1,y2⟩:=HY5.o.t;have hsy:=HY5.o.lt;clear hbb
    go_wp2_with fail
    with_reducible refine HCM.o.mono ?_
    rintro e w6 ⟨rfl,hb6⟩;have HB6:=zq (zAa HB5.o hb6);have HB16:=zq (zAa HB15.o hb6);clear hb6 HCM x0 x1 x2 hsx y0 y1 y2 hsy
    by_cases hz:z=0
    ·have hzb:(z != 0)=false:=by simpa using hz
     have HE:=zq (HCZ.o.1 hz);clear hz;go_wp2
     go_roundg R'.length
     case measure=>have h1:=HPM.o.length_eq;have h2:=HM.o;rw [aR] at h1;omega
     case rel =>
      refine ⟨R',rfl,HPR1.o.below HB16.o,fun y hy=>?_,HB6.o⟩
      rcases HALL.o y hy with h | h
      ·rcases List.mem_cons.1 (HPM.o.mem_iff.1 h) with h | h
       ·exact .inr (by rw [h];exact HE.o)
       ·exact .inl h
      ·exact .inr h
    ·have hzb:(z != 0)=true:=by simpa using hz
     have HF:Hid (f1≠f2):=fun e=>hz (HCZ.o.2 (by rw [e]))
     clear hz;go_wp2;go_ret
     exact ⟨false,rfl,⟨(fun h=>qh),fun h=>absurd h HF.o⟩,HB6.o⟩
end Go.Proofs.YtieoifkdobcpiaaGreatDoor
