/- Parts of the proof, joined: Package right: a reader's areas and uses. What is read is short, and t. -/
import Derived.Test.YtoaelidmmcbkfaaGreatDoorSr13
set_option maxRecDepth 100000
set_option maxHeartbeats 8000000
namespace Go.Proofs.YtoaelidmmcbkfaaGreatDoor
open Go.RowKit Dw
def arsO (bad:Bool) (M:List Ln):List Ar:=if bad=true then [] else (zBf M).1
def ussO (bad:Bool) (M:List Ln):List BA:=if bad=true then [] else (zAQ sp2 zDn M).1
theorem arsO_names (bad:Bool) (M:List Ln):(nmsO bad [kIn,zDE] M).map arP=arsO bad M:=by
 unfold nmsO arsO
 cases bad with
 | true=>rfl
 | false=>rw [names_areas (M.length+1) M (bW _)];rfl
theorem ussO_names (bad:Bool) (M:List Ln):((nmsO bad [zDn] M).map fun p=>ofL p.2)=ussO bad M:=by
 unfold nmsO ussO
 cases bad with
 | true=>rfl
 | false=>rw [names_uses (M.length+1) M (bW _)];rfl
theorem rd_cells {w:World} {F:Nat} {l:List Ln} {T:TypeId} (h:Bx w F (l.map fun s=>Value.string (ofL s)).toArray T):Strs w (some ⟨F,0,none⟩) (l.map ofL):=fun _=>by
 refine ⟨F,0,rfl,fun i hi=>?_⟩
 rw [aK] at hi;rw [bJ,aL];exact h.cell (by rw [List.getElem?_toArray,List.getElem?_map,List.getElem?_eq_getElem hi];rfl)
section
variable {w w':World} {q r F:Nat} {d:De}
theorem Takes.below {ob ob':Option Nat} (h:Takes w w' q ob ob') (hq:q<w.heap.size) (ho:∀ k,ob=some k→q+1≤k):Below q w w' :=
 ⟨h.os,h.tape,h.output,h.size,fun i hi=>h.block i za za fun e=>by have:=ho _ e;omega⟩
def ArI (q F u:Nat) (cs:Array Value) (T:TypeId) (d:De) (w:World) (l:List (Ln×Ln)):Prop :=
 ∃ A c,DeI w q { d with arA:=A,ar:=l.map arP,arc:=c }∧Bx w F ([kIn,zDE].map fun s=>Value.string (ofL s)).toArray 9∧q<F∧(Value.slice A (l.map arP).length c).ownBlock≠some F∧Bx w u cs T∧(Value.slice A (l.map arP).length c).ownBlock≠some u
def UsI (q F u:Nat) (cs:Array Value) (T:TypeId) (d:De) (w:World) (l:List (Ln×Ln)):Prop :=
 ∃ A c,DeI w q { d with usA:=A,us:=l.map fun p=>ofL p.2,usc:=c }∧Bx w F ([zDn].map fun s=>Value.string (ofL s)).toArray 9∧q<F∧(Value.slice A (l.map fun p=>ofL p.2).length c).ownBlock≠some F∧Bx w u cs T∧(Value.slice A (l.map fun p=>ofL p.2).length c).ownBlock≠some u
end
theorem areas_names (r q:Nat) (LA:Option Addr) (c:Nat) (L:List Ln) (k:Nat) (bad:Bool) (d:De) (u:Nat) (cs:Array Value) (T:TypeId) (w:World) (hu:Bx w u cs T) (hqu:q<u) (h:RdI w r LA c L k bad) (hd:DeI w q d) (h0:d.ar=[]) (hA:d.arA=none) (h1:d.shA=none) (h2:d.sh=[]) (hr:r<q) (hL:∀ b o,LA=some ⟨b,o,none⟩→b<q) (hG:GOK w) (hg:gkB<r) :
  Calls Tryz.prog 36 #[.pointer (some ⟨r,0,none⟩),.func (.func 37) #[] #[.pointer (some ⟨q,0,none⟩)],.slice (some ⟨w.heap.size,0,none⟩) 2 2] (w.alloc (.cells #[.string ⟨#[105,110]⟩,.string ⟨#[111,117,116]⟩] 9)) fun e w'=>e = .returned (.tuple #[]) ∧
   ∃ A' c',DeI w' q { d with arA:=A',ar:=arsO bad (L.drop k),arc:=c' }∧RdI w' r LA c L (k+(arsO bad (L.drop k)).length) bad∧KeptB q r w w'∧Bx w' u cs T:=by
 have hq:=hd.bx.lt;have hb:Below w.heap.size w (w.alloc (.cells #[.string ⟨#[105,110]⟩,.string ⟨#[111,117,116]⟩] 9)):=(bS _ _).alloc (aB _) _
 refine (names_c 37 (.pointer (some ⟨q,0,none⟩)) q r [kIn,zDE] (some ⟨w.heap.size,0,none⟩) 2 (ArI q w.heap.size u cs T d) (enters_of Tryz.func37 zb rfl)
  ?_ ?_ ?_ LA c L k bad _ (h.below hb) hr hL ?_ zg (hG.below hb) hg zc).mono ?_
 ·rintro W l ⟨A,c,_,hx,_⟩
  exact rd_cells hx
 ·rintro W W' l ⟨A,c,hx,hy,hlt,ho,hv,ho2⟩ hgr
  exact ⟨A,c,hx.grown hgr hr,(hgr.block _ hy.lt fun e=>yk).trans hy,hlt,ho,(hgr.block _ hv.lt fun e=>yk).trans hv,ho2⟩
 ·rintro W l s n ⟨A,c,hx,hy,hlt,ho,hv,ho2⟩ hs hl
  have hs2:ofL s=ofL kIn∨ofL s=ofL zDE:=by
   rcases List.mem_cons.1 hs with rfl | hs
   ·exact .inl rfl
   ·exact .inr (by rw [List.mem_singleton.1 hs])
  have hse:decide (ofL s=ofL zDE)=decide (s=zDE):=by
   rcases List.mem_cons.1 hs with rfl | hs
   ·rfl
   ·rw [List.mem_singleton.1 hs];rfl
  refine (takeAr_c q _ (ofL s) (ofL n) W hx hs2 h1 h2 (by simpa using hl)).mono ?_
  rintro e W' ⟨rfl,A',c',hd',ht⟩;have hqW:=hx.bx.lt;refine ⟨rfl,⟨A',c',?_,(ht.block _ hy.lt za ho).trans hy,hlt,?_,(ht.block _ hv.lt za ho2).trans hv,?_⟩,ht.below hqW fun k e=>(bT hx.ars k e).1⟩
  ·rw [dV]
   show DeI W' q { d with arA:=A',ar:=l.map arP++[⟨ofL n,decide (s=zDE)⟩],arc:=c' }
   rw [←hse];exact hd'
  ·have e1:(l++[(s,n)]).map arP=l.map arP++[arP (s,n)]:=by simp
   rw [e1,cY]
   rcases ht.own with e | ⟨m,e,hm⟩
   ·intro e2
    exact ho (e.symm.trans e2)
   ·intro e2
    have:=dR (e.symm.trans e2);have:=hy.lt;omega
  ·have e1:(l++[(s,n)]).map arP=l.map arP++[arP (s,n)]:=by simp
   rw [e1,cY]
   rcases ht.own with e | ⟨m,e,hm⟩
   ·intro e2
    exact ho2 (e.symm.trans e2)
   ·intro e2
    have:=dR (e.symm.trans e2);have:=hv.lt;omega
 ·refine ⟨d.arA,d.arc,?_,Bx.new _ _ _,hq,?_,hu.below hb,by rw [hA];simp [Value.ownBlock]⟩
  ·have e : { d with arA:=d.arA,ar:=([]:List (Ln×Ln)).map arP,arc:=d.arc } = d:=by
    show { d with ar:=[] } = d
    rw [←h0]
   rw [e];exact hd.below hb
  ·intro e
   have hh:=hd.ars
   have:=(bT hh w.heap.size (by
    show (Value.slice d.arA d.ar.length d.arc).ownBlock=_
    rw [h0];exact e)).2
   omega
 ·rintro e W' ⟨rfl,hi,⟨A,c,hx,_,_,_,hv,_⟩,hk⟩
  rw [←arsO_names,aK];exact ⟨rfl,A,c,hx,hi,(KeptB.below (hb.mono za)).trans hk,hv⟩
theorem uses_names (r q:Nat) (LA:Option Addr) (c:Nat) (L:List Ln) (k:Nat) (bad:Bool) (d:De) (u:Nat) (cs:Array Value) (T:TypeId) (w:World) (hu:Bx w u cs T) (hqu:q<u) (h:RdI w r LA c L k bad) (hd:DeI w q d) (h0:d.us=[]) (hA:d.usA=none) (h1:d.shA=none) (h2:d.sh=[]) (hr:r<q) (hL:∀ b o,LA=some ⟨b,o,none⟩→b<q) (hG:GOK w) (hg:gkB<r) :
  Calls Tryz.prog 36 #[.pointer (some ⟨r,0,none⟩),.func (.func 38) #[] #[.pointer (some ⟨q,0,none⟩)],.slice (some ⟨w.heap.size,0,none⟩) 1 1] (w.alloc (.cells #[.string ⟨#[102,111,114]⟩] 9)) fun e w'=>e = .returned (.tuple #[]) ∧
   ∃ A' c',DeI w' q { d with usA:=A',us:=ussO bad (L.drop k),usc:=c' }∧RdI w' r LA c L (k+(ussO bad (L.drop k)).length) bad∧KeptB q r w w'∧Bx w' u cs T:=by
 have hq:=hd.bx.lt;have hb:Below w.heap.size w (w.alloc (.cells #[.string ⟨#[102,111,114]⟩] 9)):=(bS _ _).alloc (aB _) _
 refine (names_c 38 (.pointer (some ⟨q,0,none⟩)) q r [zDn] (some ⟨w.heap.size,0,none⟩) 1 (UsI q w.heap.size u cs T d) (enters_of Tryz.func38 zb rfl)
  ?_ ?_ ?_ LA c L k bad _ (h.below hb) hr hL ?_ zg (hG.below hb) hg zc).mono ?_
 ·rintro W l ⟨A,c,_,hx,_⟩
  exact rd_cells hx
 ·rintro W W' l ⟨A,c,hx,hy,hlt,ho,hv,ho2⟩ hgr
  exact ⟨A,c,hx.grown hgr hr,(hgr.block _ hy.lt fun e=>yk).trans hy,hlt,ho,(hgr.block _ hv.lt fun e=>yk).trans hv,ho2⟩
 ·rintro W l s n ⟨A,c,hx,hy,hlt,ho,hv,ho2⟩ hs hl
  refine (takeUs_c q _ (ofL s) (ofL n) W hx h1 h2 (by simpa using hl)).mono ?_
  rintro e W' ⟨rfl,A',c',hd',ht⟩;have hqW:=hx.bx.lt;refine ⟨rfl,⟨A',c',?_,(ht.block _ hy.lt za ho).trans hy,hlt,?_,(ht.block _ hv.lt za ho2).trans hv,?_⟩,ht.below hqW fun k e=>(bT hx.uss k e).1⟩
  ·rw [dV]
   show DeI W' q { d with usA:=A',us:=l.map (fun p=>ofL p.2)++[ofL n],usc:=c' }
   exact hd'
  ·have e1:(l++[(s,n)]).map (fun p=>ofL p.2)=l.map (fun p=>ofL p.2)++[ofL n]:=by simp
   rw [e1,cY]
   rcases ht.own with e | ⟨m,e,hm⟩
   ·intro e2
    exact ho (e.symm.trans e2)
   ·intro e2
    have:=dR (e.symm.trans e2);have:=hy.lt;omega
  ·have e1:(l++[(s,n)]).map (fun p=>ofL p.2)=l.map (fun p=>ofL p.2)++[ofL n]:=by simp
   rw [e1,cY]
   rcases ht.own with e | ⟨m,e,hm⟩
   ·intro e2
    exact ho2 (e.symm.trans e2)
   ·intro e2
    have:=dR (e.symm.trans e2);have:=hv.lt;omega
 ·refine ⟨d.usA,d.usc,?_,Bx.new _ _ _,hq,?_,hu.below hb,by rw [hA];simp [Value.ownBlock]⟩
  ·have e : { d with usA:=d.usA,us:=([]:List (Ln×Ln)).map (fun p=>ofL p.2),usc:=d.usc } = d:=by
    show { d with us:=[] } = d
    rw [←h0]
   rw [e];exact hd.below hb
  ·intro e
   have hh:=hd.uss
   have:=(bT hh w.heap.size (by
    show (Value.slice d.usA d.us.length d.usc).ownBlock=_
    rw [h0];exact e)).2
   omega
 ·rintro e W' ⟨rfl,hi,⟨A,c,hx,_,_,_,hv,_⟩,hk⟩
  rw [←ussO_names,aK];exact ⟨rfl,A,c,hx,hi,(KeptB.below (hb.mono za)).trans hk,hv⟩
end Go.Proofs.YtoaelidmmcbkfaaGreatDoor
namespace Go.Proofs.YtoaelidmmcbkfaaGreatDoor
open Dw
def Sht (L:List Ln):Prop:=L.length≤600000∧∀ l∈L,l.length≤600000
theorem Sht.right {A R:List Ln} (h:Sht (A++R)):Sht R:=⟨by have:=h.1;rw [cY] at this;omega,fun l hl=>h.2 l (List.mem_append_right _ hl)⟩
theorem Sht.left {A R:List Ln} (h:Sht (A++R)):Sht A:=⟨by have:=h.1;rw [cY] at this;omega,fun l hl=>h.2 l (List.mem_append_left _ hl)⟩
theorem joi_mem:∀ (ws:List Ln) {n:Ln},n∈ws→n.length≤(joi 32 ws).length
 | [],n,h=>zy
 | [a],n,h=>by rw [List.mem_singleton.1 h];exact aB _
 | a::b::t,n,h=>by
  rw [joi_cons zd,cY,aQ]
  rcases List.mem_cons.1 h with rfl | h
  ·omega
  ·have:=joi_mem (b::t) h;omega
theorem line_mem {pre:Ln} {ws:List Ln} {L R:List Ln} (hs:Sht L) (h:L=[pre++joi 32 ws]++R) {n:Ln} (hn:n∈ws):n.length≤600000:=by
 have h1:=hs.2 (pre++joi 32 ws) xi;have h2:=joi_mem ws hn;rw [cY] at h1;omega
theorem zDx (v:BA):v.data.toList.length=v.size:=rfl
section
variable {first:Ln} {L R:List Ln}
theorem name_sm {v:BA} (hs:Sht L) (h:zDc first L = .ok (v,R)):v.size≤600000∧Sht R:=by
 have e:=nameX_ok h;exact ⟨line_mem (pre:=sp2) (ws:=[first,v.data.toList]) hs e (n:=v.data.toList) zd,by rw [e] at hs;exact hs.right⟩
theorem num_sm {v:Int} (hs:Sht L) (h:numX first L = .ok (v,R)):Sht R:=by
 rw [numX_ok h] at hs;exact hs.right
theorem part_sm {v:BA×BA} (hs:Sht L) (h:partX L = .ok (v,R)):(v.1.size≤600000∧v.2.size≤600000)∧Sht R:=by
 have e:=partX_ok h;have h1:=line_mem (pre:=sp2) (ws:=[zDU,v.1.data.toList++47::v.2.data.toList]) hs e (n:=v.1.data.toList++47::v.2.data.toList) zd;rw [cY,aQ,zDx,zDx] at h1;exact ⟨⟨za,za⟩,by rw [e] at hs;exact hs.right⟩
theorem opt_sm {α:Type} {b:Bool} {d v:α} {f:List Ln→Rdr α} {P:α→Prop} (hs:Sht L) (hf:∀ v R,f L = .ok (v,R)→P v∧Sht R) (hd:P d) (h:optX b d f L = .ok (v,R)):P v∧Sht R:=by
 unfold optX at h
 cases b with
 | false=>cases h;exact ⟨hd,hs⟩
 | true=>exact hf v R h
theorem flag_sm (b:Bool) (hs:Sht L):Sht (zBo b false (zCA first) L).2:=by
 cases b with
 | false=>exact hs
 | true =>
  have e:L=optL (zCA first L).1 [lnW [first]]++(zCA first L).2:=flagX_ok rfl
  rw [e] at hs;exact hs.right
theorem areas_sm (b:Bool) (hs:Sht L):(zBo b [] zBf L).1.length≤600000∧Sht (zBo b [] zBf L).2:=by
 cases b with
 | false=>exact ⟨aX _,hs⟩
 | true =>
  have e:=areasX_ok L;rw [e] at hs;exact ⟨vc,hs.right⟩
theorem uses_sm (b:Bool) (pre:Ln) (hs:Sht L):(zBo b [] (zAQ pre first) L).1.length≤600000∧(∀ u∈(zBo b [] (zAQ pre first) L).1,u.size≤600000)∧Sht (zBo b [] (zAQ pre first) L).2:=by
 cases b with
 | false=>exact ⟨aX _,fun u hu=>(by cases hu),hs⟩
 | true =>
  have e:=usesX_ok (pre:=pre) (first:=first) L
  rw [e] at hs;refine ⟨vc,fun u hu=>?_,hs.right⟩
  have h1:=hs.left.2 (pre++joi 32 [first,u.data.toList]) (List.mem_map.2 ⟨u,hu,rfl⟩)
  have h2:=joi_mem [first,u.data.toList] (n:=u.data.toList) zd
  rw [cY] at h1;rw [zDx] at h2;omega
theorem shares_sm (b:Bool) (hs:Sht L):(zBo b [] zAW L).1.length≤600000∧(∀ s∈(zBo b [] zAW L).1,s.pt.size≤600000∧s.nu.size≤600000∧s.de.size≤600000)∧Sht (zBo b [] zAW L).2:=by
 cases b with
 | false=>exact ⟨aX _,fun u hu=>(by cases hu),hs⟩
 | true =>
  have e:=sharesX_ok L;rw [e] at hs;refine ⟨vc,fun u hu=>?_,hs.right⟩
  have h1:=hs.left.2 (shW u) (List.mem_map.2 ⟨u,hu,rfl⟩);have h2:=joi_mem [zCh,u.pt.data.toList,u.nu.data.toList++47::u.de.data.toList] (n:=u.pt.data.toList) zd;have h3:=joi_mem [zCh,u.pt.data.toList,u.nu.data.toList++47::u.de.data.toList] (n:=u.nu.data.toList++47::u.de.data.toList) zd;unfold shW lnW at h1;rw [cY] at h1;rw [zDx] at h2;rw [cY,aQ,zDx,zDx] at h3;refine ⟨?_,?_,?_⟩<;>omega
structure DSm (d:De):Prop where
 strs:d.id.size≤600000∧d.th.size≤600000∧d.fr.size≤600000∧d.to_.size≤600000∧d.nu.size≤600000∧d.de.size≤600000
 lens:d.ar.length≤600000∧d.us.length≤600000∧d.sh.length≤600000
 shz:∀ s∈d.sh,s.pt.size≤600000∧s.nu.size≤600000∧s.de.size≤600000
theorem bodyX_sm {id:BA} {day k:Int} {d:De} (hs:Sht L) (hi:id.size≤600000) (h:bodyX id day k L = .ok (d,R)):DSm d∧Sht R:=by
 unfold bodyX at h;obtain ⟨⟨th,L1⟩,h1,h⟩:=zCx h;obtain ⟨⟨fr,L2⟩,h2,h⟩:=zCx h;obtain ⟨⟨to2,L3⟩,h3,h⟩:=zCx h;obtain ⟨⟨pt,L4⟩,h4,h⟩:=zCx h;simp only at h;obtain ⟨⟨bg,L9⟩,h9,h⟩:=zCx h;obtain ⟨⟨en,L10⟩,h10,h⟩:=zCx h;simp only at h;obtain ⟨⟨ot,L12⟩,h12,h⟩:=zCx h
 injection h with h
 injection h with hd hR
 have z:emp.size≤600000:=zc;obtain ⟨a1,s1⟩:=opt_sm (P:=fun v:BA=>v.size≤600000) hs (fun v R=>name_sm hs) z h1
 obtain ⟨a2,s2⟩:=opt_sm (P:=fun v:BA=>v.size≤600000) s1 (fun v R=>name_sm s1) z h2
 obtain ⟨a3,s3⟩:=opt_sm (P:=fun v:BA=>v.size≤600000) s2 (fun v R=>name_sm s2) z h3
 obtain ⟨a4,s4⟩:=opt_sm (P:=fun v:BA×BA=>v.1.size≤600000∧v.2.size≤600000) s3 (fun v R=>part_sm s3) ⟨z,z⟩ h4
 have s5:=flag_sm (first:=zDu) (decide (k=3)) s4
 have s6:=flag_sm (first:=kSub) (decide (k=3)) s5
 obtain ⟨a7,s7⟩:=areas_sm (zAf k) s6;obtain ⟨a8,_,s8⟩:=uses_sm (first:=zDn) (zAf k) sp2 s7
 have s9:=num_sm s8 h9;obtain ⟨_,s10⟩:=opt_sm (P:=fun _:Int=>True) s9 (fun v R h=>⟨trivial,num_sm s9 h⟩) trivial h10
 obtain ⟨a11,b11,s11⟩:=shares_sm (divB k) s10;obtain ⟨a12,s12⟩:=opt_sm (P:=fun v:BA=>v.size≤600000) s11 (fun v R=>name_sm s11) z h12
 subst hd;subst hR;exact ⟨⟨⟨hi,a1,a2,a3,a4.1,a4.2⟩,⟨a7,a8,a11⟩,b11⟩,s12⟩
theorem deedX_sm {d:De} (hs:Sht L) (h:zAG L = .ok (d,R)):DSm d∧Sht R:=by
 unfold zAG at h
 cases hw:wdF [] zCC 4 L with
 | none=>rw [hw] at h;cases h
 | some w =>
  obtain ⟨i,dy,kw,rfl,hL⟩:=wd_four hw;rw [hw] at h;simp only at h
  cases hn:zDv dy with
  | none=>rw [hn] at h;cases h
  | some n =>
   rw [hn] at h;simp only at h
   split at h
   ·have hi:(ofL i).size≤600000:=by
     rw [ofL_size];exact line_mem (pre:=[]) (ws:=[zCC,i,dy,kw]) hs (by simpa using hL) zd
    have ht:Sht L.tail:=by
     rw [hL] at hs;exact Sht.right (A:=[_]) hs
    exact bodyX_sm ht hi h
   ·cases h
/-! ### The steps by what the reader answers -/
variable {M:List Ln}
theorem nameX_nm:zDc first M=match nmO false first M with
  | some n=>.ok (ofL n,M.tail)
  | none=>.error M:=by
 unfold zDc nmO zDk;simp only [dL,dG]
 cases h:wdF sp2 first 2 M with
 | none=>rfl
 | some w =>
  obtain ⟨n,rfl,_⟩:=zDL h;simp only
  cases rowL n<;>rfl
theorem numX_nu:numX first M=match nuO false first M with
  | some n=>.ok ((n:Int),M.tail)
  | none=>.error M:=by
 unfold numX nuO wdO;simp only [dL,dG]
 cases h:wdF sp2 first 2 M with
 | none=>rfl
 | some w =>
  obtain ⟨n,rfl,_⟩:=zDL h;simp only
  cases zDv n<;>rfl
theorem partX_pa:partX M=match paO false M with
  | some p=>.ok ((ofL p.1,ofL p.2),M.tail)
  | none=>.error M:=by
 unfold partX paO wdO;simp only [dL,dG]
 cases h:wdF sp2 zDU 2 M with
 | none=>rfl
 | some w =>
  obtain ⟨n,rfl,_⟩:=zDL h;simp only
  cases zDP n<;>rfl
theorem flagX_fl:zCA first M=(flB false first M,if flB false first M=true then M.tail else M):=by
 unfold zCA flB wdO;simp only [dL,dG]
 cases h:wdF sp2 first 1 M<;>rfl
end
open Go.RowKit Dw
theorem word_c (k:Int) (w:World) (hk:1≤k∧k≤5):Calls Tryz.prog 30 #[.int .i64 k] w (zAr (.string (kdS k)) w):=by
 have h5:k=1∨k=2∨k=3∨k=4∨k=5:=za
 rcases h5 with rfl | rfl | rfl | rfl | rfl
 all_goals
  clear hk
  go_enter Tryz.func30,Tryz.ntmps30
  go_wp2;go_ret
  exact zAr.mk rfl rfl
abbrev kdWs:List BA:=[kdS 1,kdS 2,kdS 3,kdS 4,kdS 5]
def GivesWd (w:World) (e:Ending) (w':World):Prop:=∃ g,e = .returned (.slice (some ⟨g,0,none⟩) 5 5)∧Below w.heap.size w w'∧Bx w' g #[.string (kdS 1),.string (kdS 2),.string (kdS 3),.string (kdS 4),.string (kdS 5)] 9
theorem wordsR_c (w:World):Calls Tryz.prog 48 #[] w (GivesWd w):=by
 go_enter Tryz.func48,Tryz.ntmps48
 go_wp2;go_ret
 exact ⟨_,rfl,(bS _ _).alloc (aB _) _,Bx.new _ _ _⟩
def CkRel (W:World) (l:List Rg) (a:List Ar) (m:Nat) (i:Value) (wr:World):Prop :=
 ∃ k:Nat,k+m=a.length∧i = .int .i64 k∧(∀ j,j<k→zBB l a j=none)∧Below W.heap.size W wr
theorem checkArea_c (A A2:Option Addr) (c r1 r2 g1 g2:Nat) (AL:Option Addr) (cL c2:Nat) (l:List Rg) (a:List Ar) (w:World) (g:GoodR l) (h:WR w A r1 r2 g1 g2 AL l) (h2:Ars w A2 a) :
  Calls Tryz.prog 86 #[wv A c r1 r2 g1 g2 AL cL l,.slice A2 a.length c2] w (zAd (.int .i64 (zDN l a)) w):=by
 generalize hres:zDN l a=res;have HR:=zq hres;clear hres;unfold wv
 by_cases hlen:100<a.length
 ·go_enter Tryz.func86,Tryz.ntmps86
  go_wp2;go_ret
  refine zAd.mk (zAC ?_) ((bS _ _).alloc (aB _) _)
  rw [←HR.o];unfold zDN;rw [aE hlen]
 ·have hn2:a.length≤100:=by omega
  go_enter Tryz.func86,Tryz.ntmps86
  go_wp2;generalize hW:w.alloc (.cells #[.slice A l.length c,.map (some r1),.slice AL (zCq l (fun i=>!zBc l i) l.length).length cL,.map (some r2),.slice (some ⟨g1,0,none⟩) l.length l.length,.slice (some ⟨g2,0,none⟩) l.length l.length] 97)=W
  have hWs:W.heap.size=w.heap.size+1:=by rw [←hW];simp
  have hWb:Below w.heap.size w W:=qz;have hW1:W.cell? ⟨w.heap.size,1,none⟩=some (.map (some r1)):=by rw [←hW,bQ _ w.heap.size 1 _ _ _ (cI _ _)];rfl
  have hm:zAO Value.string W r1 (mp l l.length):=h.m1.keep (hWb.block _ h.m1.lt);have hr1:r1<W.heap.size:=hm.lt;have h2':=h2.below hWb;have HM:=zq hm;have HWb:=zq hWb;clear hW hWb hm h h2
  go_loopg [14] a.length (CkRel W l a)
  case atStart=>exact ⟨0,za,rfl,fun j hj=>absurd hj za,bS _ _⟩
  case round =>
   obtain ⟨k,hk,rfl,hpre,hbel⟩:=hrel;have HK:=zq hk;have HP:=zq hpre;have HB:=zq hbel;have hk1:k≤a.length:=za;have hws:w.heap.size<wr.heap.size:=by have:=hbel.size;omega
   have hs1:wr.cell? ⟨w.heap.size,1,none⟩=some (.map (some r1)):=(hbel.cell (by show w.heap.size<W.heap.size;omega)).trans hW1
   clear hk hpre hbel
   by_cases hlt:k<a.length
   ·obtain ⟨b,o,rfl,hb,hc⟩:=h2'.at_ za
    have hbr:b<wr.heap.size:=cX hb HB.o.size;have hc0:wr.cell? ⟨b,o+k*2,none⟩=some (.string (a[k]).rg):=(HB.o.cell hb).trans (hc k hlt).1;have hc1:wr.cell? ⟨b,o+k*2+1,none⟩=some (.bool (a[k]).out):=(HB.o.cell hb).trans (hc k hlt).2;have hr0:=zEq hlt;have hlk:=zBa tMap kStr zInt ((HM.o.keep (HB.o.block _ hr1)).alloc (.cells #[.string (a[k]).rg,.bool (a[k]).out] 65)) (a[k]).rg true;rw [mp_idx g.inc] at hlk;have HB2:=zq (HB.o.alloc HB.o.size (.cells #[.string (a[k]).rg,.bool (a[k]).out] 65))
    cases hq:idx l (a[k]).rg with
    | none =>
     rw [hq] at hlk;simp only [if_true,Option.map_none,Option.getD_none,Option.isSome_none] at hlk
     have hres:res=5:=by
      rw [←HR.o];unfold zDN;rw [aC hlen,zAZ hlt HP.o (x:=5) (by unfold zBB;rw [hr0,aE hq])]
     have HS:=zq hres;clear hc hr0 hq hres HB;go_wp2;go_ret
     exact zAd.mk (zAC HS.o.symm) (zAb HWb.o HB2.o)
    | some x =>
     rw [hq] at hlk;simp only [if_true,dT,aM,Option.isSome_some] at hlk;have HQ:Hid (¬ idx l (a[k]).rg=none):=by show ¬ _;rw [hq];simp
     clear hq
     by_cases hk0:0<k
     ·have hd:decide ((0:Int)<(k:Int))=true:=by simp;omega
      have hcp:wr.cell? ⟨b,o+(k - 1)*2,none⟩=some (.string (a[k - 1]).rg):=(HB.o.cell hb).trans (hc (k - 1) za).1;have hr1':=zEq (a:=a) (i:=k - 1) za
      by_cases hle:sle (a[k]).rg (a[k - 1]).rg=true
      ·have hleb:=hle
       unfold sle at hleb
       have hres:res=8:=by
        rw [←HR.o];unfold zDN;rw [aC hlen,zAZ hlt HP.o (x:=8) (by unfold zBB;rw [hr0,hr1',aC HQ.o,aE ⟨hk0,hle⟩])]
       have HS:=zq hres;clear hc hr0 hr1' hres hle HB;go_wp2
       go_quiet (fail)
       go_wp2;go_ret
       exact zAd.mk (zAC HS.o.symm) (zAc (zAb HWb.o HB2.o) _)
      ·have hle':sle (a[k]).rg (a[k - 1]).rg=false:=by simpa using hle
       have hleb:=hle';unfold sle at hleb
       have HF:Hid (zBB l a k=none):=by
        show zBB l a k=none
        unfold zBB;rw [hr0,hr1',aC HQ.o,aC (fun hh=>hle hh.2)]
       clear hc hr0 hr1' hle hle' HB;go_wp2
       go_quiet (fail)
       go_wp2
       go_roundg (gk - 1)
       case measure=>have:=HK.o;omega
       case rel =>
        refine ⟨k+1,zl,zn,fun j hj=>?_,zAc HB2.o _⟩
        rcases bO j k with h1 | h1
        ·exact HP.o j h1
        ·obtain rfl:j=k:=by omega
         exact HF.o
     ·have hd:decide ((0:Int)<(k:Int))=false:=by simp;omega
      have HF:Hid (zBB l a k=none):=by
       show zBB l a k=none
       unfold zBB;rw [hr0,aC HQ.o,aC za]
      clear hc hr0 HB;go_wp2
      go_quiet (fail)
      go_wp2
      go_roundg (gk - 1)
      case measure=>have:=HK.o;omega
      case rel =>
       refine ⟨k+1,zl,zn,fun j hj=>?_,zAc HB2.o _⟩
       rcases bO j k with h1 | h1
       ·exact HP.o j h1
       ·obtain rfl:j=k:=by omega
        exact HF.o
   ·have hres:res=0:=by
     rw [←HR.o];unfold zDN;rw [aC hlen,zBk (fun j hj=>HP.o j za)]
    have HS:=zq hres;clear hres;go_wp2;go_ret
    exact zAd.mk (zAC HS.o.symm) (zAb HWb.o HB.o)
end Go.Proofs.YtoaelidmmcbkfaaGreatDoor
namespace Dw
open Go Go.RowKit
def bArr (M:List Bool) (k:Nat):Array Value:=((List.range M.length).map fun i=>Value.bool (decide (i<k)&&M.getD i false)).toArray
theorem bArr_size (M:List Bool) (k:Nat):(bArr M k).size=M.length:=by simp [bArr]
theorem zEg (M:List Bool) (k:Nat) {i:Nat} (hi:i<M.length):(bArr M k)[i]?=some (.bool (decide (i<k)&&M[i])):=by simp [bArr,hi]
theorem bArr_0 (M:List Bool):Array.replicate M.length (Value.bool false)=bArr M 0:=by
 apply Array.toList_inj.1
 rw [Array.toList_replicate]
 apply List.ext_getElem<;>simp [bArr]
theorem bArr_set (M:List Bool) {k:Nat} (hk:k<M.length):(bArr M k).setIfInBounds k (.bool M[k])=bArr M (k+1):=by
 apply Array.ext_getElem?
 intro i;rw [Array.getElem?_setIfInBounds]
 by_cases h:k=i
 ·subst h
  rw [aE rfl,aE (by rw [bArr_size];exact hk),zEg _ _ hk]
  simp
 ·rw [aC h]
  by_cases hi:i<M.length
  ·rw [zEg _ _ hi,zEg _ _ hi]
   have:decide (i<k)=decide (i<k+1):=by
    by_cases h2:i<k
    ·rw [cP h2,cP za]
    ·rw [cQ h2,cQ za]
   rw [this]
  ·rw [Array.getElem?_eq_none (by rw [bArr_size];omega),Array.getElem?_eq_none (by rw [bArr_size];omega)]
theorem bArr_skip (M:List Bool) {k:Nat} (hk:k<M.length) (hf:M[k]=false):bArr M (k+1)=bArr M k:=by
 rw [←bArr_set M hk,hf]
 apply Array.ext_getElem?
 intro i;rw [Array.getElem?_setIfInBounds]
 by_cases h:k=i
 ·subst h
  rw [aE rfl,aE (by rw [bArr_size];exact hk),zEg _ _ hk]
  simp
 ·rw [aC h]
theorem bArr_rd {w:World} {g:Nat} {M:List Bool} {T:TypeId} (h:w.heap[g]?=some (.cells (bArr M M.length) T (0,0))):Rd1 Value.bool w (some ⟨g,0,none⟩) M:=fun _ =>
 ⟨g,0,rfl,fun i hi=>by
  rw [bJ,bQ w g i _ _ _ h,zEg _ _ hi];simp [hi]⟩
def nmK (l:List Rg) (a:List Ar):Nat→Int→Option Value
 | 0,_=>none
 | k+1,i=>if i=(match idx l (rgAt a k) with | some x=>(x:Int) | none=>0) then some (.bool (!(a.getD k default).out)) else nmK l a k i
structure GoodA (l:List Rg) (a:List Ar):Prop where
 len:a.length≤100
 at_:∀ k (h:k<a.length),∃ x,idx l (a[k]).rg=some x
 inj:∀ i j (hi:i<a.length) (hj:j<a.length),(a[i]).rg=(a[j]).rg→i=j
theorem goodA_of {l:List Rg} {a:List Ar} (h:zDN l a=0):GoodA l a:=by
 unfold zDN at h
 by_cases hl:100<a.length
 ·rw [aE hl] at h;exact absurd h zc
 ·rw [aC hl] at h
  have hf:∀ j,j<a.length→zBB l a j=none:=by
   cases hs:(List.range a.length).findSome? (zBB l a) with
   | none=>exact fun j hj=>List.findSome?_eq_none_iff.1 hs j (List.mem_range.2 hj)
   | some f =>
    rw [hs] at h;obtain ⟨j,_,hj⟩:=List.exists_of_findSome?_eq_some hs;have h:f=0:=h;subst h;unfold zBB at hj
    split at hj
    ·injection hj with hj;exact absurd hj zc
    ·split at hj
     ·injection hj with hj;exact absurd hj zc
     ·cases hj
  refine ⟨za,fun k hk=>?_,?_⟩
  ·have:=hf k hk
   unfold zBB at this;rw [zEq hk] at this
   cases hx:idx l (a[k]).rg with
   | none=>rw [aE hx] at this;cases this
   | some x=>exact ⟨x,rfl⟩
  ·have hinc:Inc (a.map fun x=>(⟨x.rg,emp⟩:Rg)):=by
    intro i hi;rw [aK] at hi;rw [aL,aL];have:=hf (i+1) hi;unfold zBB at this;rw [zEq hi,show i+1 - 1=i from rfl,zEq za] at this
    refine zDQ ?_
    cases hb:sle (a[i+1]).rg (a[i]).rg with
    | false=>rfl
    | true =>
     split at this
     ·cases this
     ·rw [aE ⟨za,hb⟩] at this;cases this
   intro i j hi hj e;exact hinc.inj jc xg jp
theorem nmK_find {l:List Rg} {a:List Ar} (g:GoodR l) (ga:GoodA l a) {j:Nat} (hj:j<l.length):nmK l a a.length (j:Int)=(findA a (nmAt l j)).map fun x=>.bool (!x.out):=by
 have key:∀ k,k≤a.length→nmK l a k (j:Int)=(findA (a.take k) (nmAt l j)).map fun x=>.bool (!x.out):=by
  intro k
  induction k with
  | zero=>intro _;simp [nmK,findA]
  | succ k ih =>
   intro hk;have hk':k<a.length:=za;obtain ⟨x,hx⟩:=ga.at_ k hk';obtain ⟨hxl,hxn⟩:=idx_some hx;rw [nmK,ih za,zEq hk',hx];unfold findA;rw [bD hk',List.find?_append]
   by_cases e:(j:Int)=(x:Int)
   ·have e':j=x:=by omega
    subst e';rw [aE rfl]
    have hno:(a.take k).find? (fun y=>decide (y.rg=nmAt l j))=none:=by
     rw [List.find?_eq_none];intro y hy;obtain ⟨t,ht,rfl⟩:=aJ hy
     have ht':t<k:=by
      have:=ht;rw [bE] at this;omega
     rw [cG]
     have hne:(a[t]).rg≠nmAt l j:=fun e2=>by
      have:=ga.inj t k za hk' (by rw [e2,zBF hj,hxn])
      omega
     simpa using hne
    rw [hno];have:decide ((a[k]).rg=nmAt l j)=true:=by rw [zBF hj,hxn];simp
    simp [this,List.getD,hk']
   ·rw [aC e]
    have:decide ((a[k]).rg=nmAt l j)=false:=by
     rw [zBF hj];refine cQ fun e2=>e ?_
     have:x=j:=g.nm_inj hxl hj (by rw [←hxn] at e2;exact e2)
     omega
    simp [this]
 have:=key a.length (aB _)
 rwa [bM] at this
def inL (l:List Rg) (a:List Ar):List Bool:=(zAV l).map (lies l a)
end Dw
namespace Go.Proofs.YtoaelidmmcbkfaaGreatDoor
open Go.RowKit Dw
abbrev mkI:Int→Value:=fun n=>Value.int .i64 n
theorem kInt:KeyT Tryz.prog 3 mkI:=keyT_int Tryz.underlying3
theorem tMapB:Tryz.prog.underlying 171=some (.map 3 4):=Tryz.underlying171
theorem zBool (w:World):(zeroValue 4).run Tryz.prog w = .ok (.bool false) w:=zb
def InRel1 (W:World) (l:List Rg) (a:List Ar) (m:Nat) (i:Value) (wr:World):Prop :=
 ∃ k:Nat,k+m=a.length∧i = .int .i64 k∧zAO mkI wr W.heap.size (nmK l a k)∧Below W.heap.size W wr
def InRel2 (W:World) (l:List Rg) (a:List Ar) (go:Nat) (m:Nat) (i:Value) (wr:World):Prop :=
 ∃ k:Nat,k+m=(inL l a).length∧i = .int .i64 k∧zAO mkI wr W.heap.size (nmK l a a.length)∧wr.heap[go]?=some (.cells (bArr (inL l a) k) 4 (0,0))∧Below W.heap.size W wr
def InRel3 (w5:World) (l:List Rg) (a:List Ar) (res:Bool) (m:Nat) (kk:Value) (wr:World):Prop :=
 wr=w5∧((∃ y,y<l.length∧kk = .int .i64 (y:Int)∧upN l m y=none∧liesF l a m y=res)∨(kk = .int .i64 (-1)∧res=false))
def GivesL (M:List Bool) (w:World) (e:Ending) (w':World):Prop :=
 ∃ go c,e = .returned (.slice (some ⟨go,0,none⟩) M.length c)∧w'.heap[go]?=some (.cells (bArr M M.length) 4 (0,0))∧Below w.heap.size w w'
theorem gath_get (l:List Rg) {n:Nat} (hn:n<(zCq l (fun i=>!zBc l i) l.length).length) (hm:n<(zAV l).length):(zCq l (fun i=>!zBc l i) l.length)[n]=nmAt l (zAV l)[n]:=by
 have e:zCq l (fun i=>!zBc l i) l.length=(zAV l).map (nmAt l):=rfl
 simp only [e,aL]
theorem gath_len (l:List Rg) (a:List Ar):(zCq l (fun i=>!zBc l i) l.length).length=(inL l a).length:=by
 have e:zCq l (fun i=>!zBc l i) l.length=(zAV l).map (nmAt l):=rfl
 rw [e,inL,aK,aK]
theorem map_ne_cells' {κ:Type} [DecidableEq κ] {mk:κ→Value} {w:World} {r g:Nat} {f:κ→Option Value} {c:Array Value} {t:TypeId} {fr:Nat×Nat} (hm:zAO mk w r f) (hg:w.heap[g]?=some (.cells c t fr)):g≠r:=fun e=>by
 obtain ⟨es,clk,L,hr,_⟩:=hm;rw [←e,hg] at hr;cases hr
theorem in_c (A A2:Option Addr) (c r1 r2 g1 g2:Nat) (AL:Option Addr) (cL c2:Nat) (l:List Rg) (a:List Ar) (w:World) (g:GoodR l) (ga:GoodA l a) (h:WR w A r1 r2 g1 g2 AL l) (h2:Ars w A2 a) :
  Calls Tryz.prog 87 #[wv A c r1 r2 g1 g2 AL cL l,.slice A2 a.length c2] w (GivesL (inL l a) w):=by
 unfold wv;have hn2:=ga.len;have hn:=g.len;have hmm:=@run_makeMap Tryz.prog
 go_enter Tryz.func87,Tryz.ntmps87
 go_wp2;clear hmm;generalize hW:w.alloc (.cells #[.slice A l.length c,.map (some r1),.slice AL (zCq l (fun i=>!zBc l i) l.length).length cL,.map (some r2),.slice (some ⟨g1,0,none⟩) l.length l.length,.slice (some ⟨g2,0,none⟩) l.length l.length] 97)=W
 have hWs:W.heap.size=w.heap.size+1:=by rw [←hW];simp
 have hWb:Below w.heap.size w W:=qz;have hWr:=cI w (.cells #[.slice A l.length c,.map (some r1),.slice AL (zCq l (fun i=>!zBc l i) l.length).length cL,.map (some r2),.slice (some ⟨g1,0,none⟩) l.length l.length,.slice (some ⟨g2,0,none⟩) l.length l.length] 97)
 rw [hW] at hWr;have hW1:W.cell? ⟨w.heap.size,1,none⟩=some (.map (some r1)):=by rw [bQ _ w.heap.size 1 _ _ _ hWr];rfl
 have hW2:W.cell? ⟨w.heap.size,2,none⟩=some (.slice AL (zCq l (fun i=>!zBc l i) l.length).length cL):=by rw [bQ _ w.heap.size 2 _ _ _ hWr];rfl
 have hW4:W.cell? ⟨w.heap.size,4,none⟩=some (.slice (some ⟨g1,0,none⟩) l.length l.length):=by rw [bQ _ w.heap.size 4 _ _ _ hWr];rfl
 have hwr:=h.below hWb;have hr1:r1<W.heap.size:=hwr.m1.lt;have h2':=h2.below hWb;have HWR:=zq hwr;have HWb:=zq hWb;have hwW:w.heap.size<W.heap.size:=za;have hg1W:=hwr.h1;clear hW hWb hWr hwr h h2;rw [←hWs];clear hWs
 go_loopg [17] a.length (InRel1 W l a)
 case atStart=>exact ⟨0,za,rfl,zAO.new _ _,(bS _ _).alloc (aB _) _⟩
 case round =>
  obtain ⟨k,hk,rfl,hmap,hbel⟩:=hrel;have HK:=zq hk;have HM:=zq hmap;have HB:=zq hbel;have hk1:k≤a.length:=za;have hws:w.heap.size<wr.heap.size:=cX hwW hbel.size;have hs1:wr.cell? ⟨w.heap.size,1,none⟩=some (.map (some r1)):=(hbel.cell hwW).trans hW1;have hs2:=(hbel.cell hwW).trans hW2;have hs4:=(hbel.cell hwW).trans hW4;clear hk hmap hbel
  by_cases hlt:k<a.length
  ·obtain ⟨b,o,rfl,hb,hc⟩:=h2'.at_ za
   have hbr:b<wr.heap.size:=cX hb HB.o.size;have hc0:wr.cell? ⟨b,o+k*2,none⟩=some (.string (a[k]).rg):=(HB.o.cell hb).trans (hc k hlt).1;have hc1:wr.cell? ⟨b,o+k*2+1,none⟩=some (.bool (a[k]).out):=(HB.o.cell hb).trans (hc k hlt).2;have hlk:=zBa tMap kStr zInt ((HWR.o.m1.keep (HB.o.block _ hr1)).alloc (.cells #[.string (a[k]).rg,.bool (a[k]).out] 65)) (a[k]).rg false;obtain ⟨x,hx⟩:=ga.at_ k hlt;rw [mp_idx g.inc,hx] at hlk;simp only [dL,dG,dT,aM] at hlk;obtain ⟨w3,hrun,hm3,hg3,hs3⟩:=zBD tMapB kInt (HM.o.alloc (.cells #[.string (a[k]).rg,.bool (a[k]).out] 65)) (x:Int) (.bool (!(a[k]).out));have HM3:=zq hm3;have HB3:=zq (below_map (HB.o.alloc HB.o.size (.cells #[.string (a[k]).rg,.bool (a[k]).out] 65)) hg3 (aB _) (by have:=HB.o.size;simp;omega))
   have HX:=zq hx;clear hc hm3 hg3 hs3 hx HM HB;go_wp2
   go_roundg (gk - 1)
   case measure=>have:=HK.o;omega
   case rel =>
    refine ⟨k+1,zl,zn,?_,HB3.o⟩
    have e:nmK l a (k+1)=fun k'=>if k'=(x:Int) then some (.bool (!(a[k]).out)) else nmK l a k k':=by
     funext i
     rw [nmK,zEq hlt,HX.o];simp [List.getD,hlt]
    rw [e];exact HM3.o
  ·obtain rfl:k=a.length:=by omega
   clear HK hk1 hlt hs1 hs4;have hgl:=gath_len l a
   have hil:(inL l a).length≤200:=by
    have:=leafTo_le l l.length;unfold inL;rw [aK];exact cV this hn
   rw [hgl] at hs2;have HGL:=zq hgl;clear hgl;have hmk:=run_make_n _ _ elSet (inL l a).length za za rfl;go_wp2;clear hmk
   have hp0:(wr.alloc (.cells (Array.replicate (inL l a).length (.bool false)) 4)).heap[wr.heap.size]?=some (.cells (bArr (inL l a) 0) 4 (0,0)):=by
    rw [←bArr_0];exact cI _ _
   have HP0:=zq hp0;have HM2:=zq (HM.o.alloc (.cells (Array.replicate (inL l a).length (.bool false)) 4));have HB2:=zq (HB.o.alloc HB.o.size (.cells (Array.replicate (inL l a).length (.bool false)) 4));have hgo:W.heap.size≤wr.heap.size:=HB.o.size;clear HM HB hp0 hws;generalize hw2:wr.alloc (.cells (Array.replicate (inL l a).length (.bool false)) 4)=w2 at HM2 HP0 HB2;obtain ⟨go,hgoe⟩:∃ go,go=wr.heap.size:=⟨_,rfl⟩;rw [←hgoe] at HP0 hgo ⊢;clear hw2 hgoe hs2
   go_loopg [38] (inL l a).length (InRel2 W l a go)
   case atStart=>exact ⟨0,za,rfl,HM2.o,HP0.o,HB2.o⟩
   clear HM2 HP0 HB2
   case round =>
    obtain ⟨n,hk,rfl,hmap,hrow,hbel⟩:=hrel;have HK:=zq hk;have HM:=zq hmap;have HP:=zq hrow;have HB:=zq hbel;have hk1:n≤(inL l a).length:=za;have hws:w.heap.size<wr.heap.size:=cX hwW hbel.size;have hgol:go<wr.heap.size:=zAl hrow;have hs1:wr.cell? ⟨w.heap.size,1,none⟩=some (.map (some r1)):=(hbel.cell hwW).trans hW1;have hs4:=(hbel.cell hwW).trans hW4;obtain ⟨gk1,hgk1⟩:∃ gk1,gk1=gk:=⟨_,rfl⟩;subst hgk1;obtain ⟨w5,hw5⟩:∃ w5:World,w5=wr:=⟨_,rfl⟩;subst hw5;clear hk hmap hrow hbel
    by_cases hlt:n<(inL l a).length
    ·have hltL:n<(zAV l).length:=by simpa [inL] using hlt
     have hltG:n<(zCq l (fun i=>!zBc l i) l.length).length:=by rw [HGL.o];exact hlt
     have hyl:=leafIdx_lt hltL;have hrl:=HWR.o.lv;obtain ⟨b,o,rfl,hb,hc⟩:=hrl.at_ za;have hbr:b<w5.heap.size:=cX hb HB.o.size
     have hc0:w5.cell? ⟨b,o+n,none⟩=some (.string (l[(zAV l)[n]]).nm):=by
      rw [HB.o.cell hb,hc n hltG,gath_get l hltG hltL,zBF hyl]
     have hlk:=zBa tMap kStr zInt (HWR.o.m1.keep (HB.o.block _ hr1)) (l[(zAV l)[n]]).nm false;rw [mp_idx g.inc,g.inc.idx hyl] at hlk;simp only [dL,dG,dT,aM] at hlk;have hres:lies l a (zAV l)[n]=(inL l a)[n]:=by simp [inL]
     generalize hrs:(inL l a)[n]=res at hres;have HRS:=zq hrs;have hue:=g.ends _ hyl;unfold lies at hres;generalize (zAV l)[n]=y0 at *;have HR:=zq hres;have HU:=zq hue;clear hc hrl hres hue hrs;go_wp2;clear hlk hc0
     go_loopg [11] (l.length+2) (InRel3 w5 l a res)
     case atStart=>exact ⟨rfl,.inl ⟨y0,hyl,rfl,HU.o,HR.o⟩⟩
     clear HU HR
     case round =>
      obtain ⟨hw,hrel⟩:=hrel;subst hw
      rcases hrel with ⟨y,hy,rfl,hup,hlr⟩ | ⟨rfl,hres⟩
      ·obtain ⟨m,rfl⟩:∃ m,gk=m+1:=by
        cases gk with
        | zero=>exact absurd hup (by simp [upN])
        | succ m=>exact ⟨m,rfl⟩
       rw [liesF] at hlr;rw [upN] at hup;have hlk:=zBa tMapB kInt zBool HM.o (y:Int) true;rw [nmK_find g ga hy] at hlk;have hy0:(0:Int)≤(y:Int):=za;have hy1:(y:Int)<(l.length:Int):=za;have hcu:wr.cell? ⟨g1,y,none⟩=some (.int .i64 (upI l y)):=(HB.o.cell hg1W).trans (HWR.o.up y hy)
       cases hf:findA a (nmAt l y) with
       | some xa =>
        rw [hf] at hlk hlr;simp only [if_true,dT,aM,Option.isSome_some] at hlk;have hlr':(!xa.out)=res:=hlr;rw [hlr'] at hlk
        have hco:wr.cell? ⟨go,n,none⟩=some (.bool false):=by
         rw [bQ _ go n _ _ _ HP.o,zEg _ _ hlt];simp
        have hfo:=cD wr go n _ _ HP.o;have HBS:=zq (bArr_set (inL l a) hlt);clear hf hlr hlr' hup;go_wp2
        go_roundg (gk1 - 1)
        case measure=>have:=HK.o;omega
        case rel =>
         refine ⟨n+1,zl,zn,?_,?_,?_⟩
         ·exact HM.o.setCell (a:=⟨go,n,none⟩) (fun e=>by have:=map_ne_cells' HM.o HP.o;exact this e.symm) _
         ·have e:=HBS.o
          rw [HRS.o] at e;rw [←e];exact dU _ go n _ _ _ HP.o
         ·exact HB.o.setCell (p:=⟨go,n,none⟩) hgo _
       | none =>
        rw [hf] at hlk hlr;simp only [if_true,Option.map_none,Option.getD_none,Option.isSome_none] at hlk;have HLR:=zq hlr;have HUP:=zq hup;clear hf hlr hup;go_wp2;have hlr:=HLR.o;have hup:=HUP.o
        cases hu:up l y with
        | none =>
         rw [hu] at hlr
         go_roundg m
         case measure=>omega
         case rel=>exact ⟨rfl,.inr ⟨by rw [upI,hu],hlr.symm⟩⟩
        | some y' =>
         rw [hu] at hlr hup;have hyl':=(up_lt hu).2
         go_roundg m
         case measure=>omega
         case rel=>exact ⟨rfl,.inl ⟨y',hyl',by rw [upI,hu],hup,hlr⟩⟩
      ·have HS:=zq hres
       clear hres;go_wp2
       go_roundg (gk1 - 1)
       case measure=>have:=HK.o;omega
       case rel =>
        refine ⟨n+1,zl,zn,HM.o,?_,HB.o⟩
        rw [bArr_skip _ hlt (by rw [HRS.o,HS.o])]
        exact HP.o
    ·obtain rfl:n=(inL l a).length:=by omega
     clear HK hk1 hlt;go_wp2;go_ret
     exact ⟨_,_,rfl,HP.o,zAb HWb.o HB.o⟩
abbrev ckC (A:Option Addr) (c r1 r2 g1 g2:Nat) (AL:Option Addr) (cL:Nat) (l:List Rg) (uA:Option Addr) (uc:Nat) (us:List BA) (m2 m3 m4 m5:Nat) (p:De):Array Value :=
 #[.slice A l.length c,.map (some r1),.slice AL (zCq l (fun i=>!zBc l i) l.length).length cL,.map (some r2),.slice (some ⟨g1,0,none⟩) l.length l.length,.slice (some ⟨g2,0,none⟩) l.length l.length,.slice uA us.length uc,.map (some m2),.map (some m3),.map (some m4),.map (some m5),
  .string p.id,.int .i64 p.day,.int .i64 p.kd,.string p.th,.string p.fr,.string p.to_,.string p.nu,.string p.de,.bool p.ex,.bool p.sb,.slice p.arA p.ar.length p.arc,.slice p.usA p.us.length p.usc,.int .i64 p.bg,.int .i64 p.en,.slice p.shA p.sh.length p.shc,.string p.ot]
def zBY (l:List Rg) (us:List BA) (d:De):Int :=
 if zDN l d.ar≠0 then zDN l d.ar else if zBG l d.ar=[]∨d.us=[] then 9 else useF us d.us
theorem WR.drew {w:World} {A:Option Addr} {r1 r2 g1 g2:Nat} {AL:Option Addr} {l:List Rg} (h:WR w A r1 r2 g1 g2 AL l):WR w.drew A r1 r2 g1 g2 AL l:=h.below (zAc (bS _ _) 1)
theorem any_leaves (l:List Rg) (a:List Ar):(inL l a).any id=decide (zBG l a≠[]):=by
 unfold inL zBG
 have:∀ (L:List Nat),(L.map (lies l a)).any id=decide ((L.filter (lies l a)).map (nmAt l)≠[]):=by
  intro L
  induction L with
  | nil=>rfl
  | cons x t ih =>
   by_cases h:lies l a x=true
   ·simp [h]
   ·have h':lies l a x=false:=by simpa using h
    simp only [dJ,List.any_cons,h',id,Bool.false_or,List.filter_cons_of_neg h];exact ih
 exact this _
theorem place_c (ci:Nat) (A:Option Addr) (c r1 r2 g1 g2:Nat) (AL:Option Addr) (cL:Nat) (l:List Rg) (uA:Option Addr) (uc:Nat) (us:List BA) (m2 m3 m4 m5:Nat) (p d:De) (w:World)
  (hc:Bx w ci (ckC A c r1 r2 g1 g2 AL cL l uA uc us m2 m3 m4 m5 p) 101) (g:GoodR l) (hw:WR w A r1 r2 g1 g2 AL l) (hu:Strs w uA us) (hul:us.length≤1000000) (hd:DeOk w d) :
  Calls Tryz.prog 113 #[.pointer (some ⟨ci,0,none⟩),deV d] w (zAd (.int .i64 (zBY l us d)) w):=by
 generalize hres:zBY l us d=res;have HR:=zq hres;clear hres;have HB:Hid (Below w.heap.size w (w.alloc (.cells (deC d) 47))):=(bS w.heap.size w).alloc (aB _) _;have HX:Hid (Bx (w.alloc (.cells (deC d) 47)) w.heap.size (deC d) 47):=Bx.new _ _ _;obtain ⟨W,hW⟩:∃ W,W=w.alloc (.cells (deC d) 47):=⟨_,rfl⟩;rw [←hW] at HX HB;have HC:=zq (hc.below HB.o);have HW:=zq (hw.below HB.o);have HU:=zq (hu.below HB.o);have HD:=zq (hd.below HB.o);have hcl:=hc.lt;clear hc hw hu hd
 go_enter Tryz.func113,Tryz.ntmps113
 go_wp2_with fail
 rw [←hW];clear hW;have c0:=HC.o.c 0 rfl;have c1:=HC.o.c 1 rfl;have c2:=HC.o.c 2 rfl;have c3:=HC.o.c 3 rfl;have c4:=HC.o.c 4 rfl;have c5:=HC.o.c 5 rfl;have y10:=HX.o.c 10 rfl;have hAr:=zq (fun W' (x:WR W' A r1 r2 g1 g2 AL l) (y:Ars W' d.arA d.ar)=>checkArea_c A d.arA c r1 r2 g1 g2 AL cL d.arc l d.ar W' g x y)
 unfold wv at hAr
 go_region_held3 (fun w'=>w'.cell? ⟨ci,0,none⟩=some (.slice A l.length c)∧w'.cell? ⟨ci,1,none⟩=some (.map (some r1))∧w'.cell? ⟨ci,2,none⟩=some (.slice AL (zCq l (fun i=>!zBc l i) l.length).length cL)∧w'.cell? ⟨ci,3,none⟩=some (.map (some r2))∧w'.cell? ⟨ci,4,none⟩=some (.slice (some ⟨g1,0,none⟩) l.length l.length)∧w'.cell? ⟨ci,5,none⟩=some (.slice (some ⟨g2,0,none⟩) l.length l.length)∧w'.cell? ⟨w.heap.size,10,none⟩=some (.slice d.arA d.ar.length d.arc)) ((refine ⟨?_,?_,?_,?_,?_,?_,?_⟩<;>first | with_reducible assumption | go_simp))
  ((go_at_call 86;(with_reducible refine (hAr.out W.drew (WR.drew HW.o) (Rd2.drew HD.o.ars)).mono ?_);rintro e w1 ⟨rfl,hb1⟩;have HC1:=zq (HC.o.drew.below hb1);have HX1:=zq (HX.o.drew.below hb1);have e0:=HC1.o.c 0 rfl;have e1:=HC1.o.c 1 rfl;have e2:=HC1.o.c 2 rfl;have e3:=HC1.o.c 3 rfl;have e4:=HC1.o.c 4 rfl;have e5:=HC1.o.c 5 rfl;have y1:=HX1.o.c 10 rfl))
 have HB1:=zq ((zAc HB.o 1).trans (hb1.mono HB.o.size));have HW1:=zq ((WR.drew HW.o).below hb1);have HU1:=zq ((Rd1.drew HU.o).below hb1);have HD1:=zq (HD.o.below (Below.trans (zAc (bS _ _) 1) hb1));clear c0 c1 c2 c3 c4 c5 y10 hb1 HW HU HD HC HX HB hAr
 by_cases hch:zDN l d.ar=0
 ·have ga:=goodA_of hch
  have HGA:=zq ga
  have HR1:Hid ((if zBG l d.ar=[]∨d.us=[] then (9:Int) else useF us d.us)=res):=by
   show _=_
   have hr:=HR.o;unfold zBY at hr
   rwa [aC (fun h=>h hch)] at hr
  rw [hch];clear hch HR;have HIN:=zq (fun W' (x:WR W' A r1 r2 g1 g2 AL l) (y:Ars W' d.arA d.ar)=>in_c A d.arA c r1 r2 g1 g2 AL cL d.arc l d.ar W' g ga x y)
  unfold wv at HIN;have y11:=HX1.o.c 11 rfl
  have hin:(inL l d.ar).length≤1000000:=by
   have h1:(inL l d.ar).length=(zAV l).length:=by unfold inL;simp
   have h2:=g.len;have h3:(zAV l).length≤(List.range l.length).length:=dC _ _;rw [List.length_range] at h3;omega
  by_cases hlv:zBG l d.ar=[]
  ·have HR2:Hid (res=9):=by
    show _=_
    rw [←HR1.o,aE (.inl hlv)]
   have hsm:(inL l d.ar).any id=false:=by rw [any_leaves,hlv];rfl
   have HSO:=zq (fun go c' W' (x:Rd1 Value.bool W' (some ⟨go,0,none⟩) (inL l d.ar))=>some_c (some ⟨go,0,none⟩) c' (inL l d.ar) W' hin x)
   rw [hsm] at HSO;clear hlv hsm HR1 ga
   go_wp2_with fail
   refine dW (S:=(fun w'=>w'.cell? ⟨ci,0,none⟩=some (.slice A l.length c)∧w'.cell? ⟨ci,1,none⟩=some (.map (some r1))∧w'.cell? ⟨ci,2,none⟩=some (.slice AL (zCq l (fun i=>!zBc l i) l.length).length cL)∧w'.cell? ⟨ci,3,none⟩=some (.map (some r2))∧w'.cell? ⟨ci,4,none⟩=some (.slice (some ⟨g1,0,none⟩) l.length l.length)∧w'.cell? ⟨ci,5,none⟩=some (.slice (some ⟨g2,0,none⟩) l.length l.length)∧w'.cell? ⟨w.heap.size,10,none⟩=some (.slice d.arA d.ar.length d.arc)∧w'.cell? ⟨w.heap.size,11,none⟩=some (.slice d.usA d.us.length d.usc))) zb ?_ (fun hHeld=>?_)
   ·(refine ⟨?_,?_,?_,?_,?_,?_,?_,?_⟩<;>first | with_reducible assumption | go_simp)
   refine dX (i:=0) (v:=?_) rfl zb zb zb (fun _ _ _ h=>h) (Or.inl ⟨zo,?_⟩) zh ?_
   rotate_left 1
   ·(intro w hSw;(try dsimp only at hSw);go_simp;try with_reducible rfl)
   simp only [Act.put,cF];refine dX (i:=1) (v:=?_) rfl zb zb zb (fun _ _ _ h=>h) (Or.inl ⟨zo,?_⟩) zh ?_
   rotate_left 1
   ·(intro w hSw;(try dsimp only at hSw);go_simp;try with_reducible rfl)
   simp only [Act.put];refine dX (i:=2) (v:=?_) rfl zb zb zb (fun _ _ _ h=>h) (Or.inl ⟨zo,?_⟩) zh ?_
   rotate_left 1
   ·(intro w hSw;(try dsimp only at hSw);go_simp;try with_reducible rfl)
   simp only [Act.put];refine dX (i:=3) (v:=?_) rfl zb zb zb (fun _ _ _ h=>h) (Or.inl ⟨zo,?_⟩) zh ?_
   rotate_left 1
   ·(intro w hSw;(try dsimp only at hSw);go_simp;try with_reducible rfl)
   simp only [Act.put];refine dX (i:=4) (v:=?_) rfl zb zb zb (fun _ _ _ h=>h) (Or.inl ⟨zo,?_⟩) zh ?_
   rotate_left 1
   ·(intro w hSw;(try dsimp only at hSw);go_simp;try with_reducible rfl)
   simp only [Act.put];refine dX (i:=5) (v:=?_) rfl zb zb zb (fun _ _ _ h=>h) (Or.inl ⟨zo,?_⟩) zh ?_
   rotate_left 1
   ·(intro w hSw;(try dsimp only at hSw);go_simp;try with_reducible rfl)
   simp only [Act.put];refine Dw.rd1 6 rfl (fun K hK=>?_)
   go_simp
   go_at_call 87
   (with_reducible refine (HIN.o w1.drew (WR.drew HW1.o) (Rd2.drew HD1.o.ars)).mono ?_)
   rintro e w2 ⟨go,cc,rfl,hg2,hb2⟩;have HB2:=zq (zAb (zAc HB1.o 1) hb2);have HC2:=zq (HC1.o.drew.below hb2);have HX2:=zq (HX1.o.drew.below hb2);have e0:=HC2.o.c 0 rfl;have e1:=HC2.o.c 1 rfl;have e2:=HC2.o.c 2 rfl;have e3:=HC2.o.c 3 rfl;have e4:=HC2.o.c 4 rfl;have e5:=HC2.o.c 5 rfl;have y1:=HX2.o.c 10 rfl;have y2:=HX2.o.c 11 rfl;refine hK.out _ _ ?_ (fun hHeld=>?_)
   ·(refine ⟨?_,?_,?_,?_,?_,?_,?_,?_⟩<;>first | with_reducible assumption | go_simp)
   clear hK K
   try simp only [Act.put,cF,dY,bV]
   refine Dw.rd1 7 rfl (fun K hK=>?_)
   go_simp
   go_at_call 151
   (with_reducible refine (HSO.o go cc w2 (bArr_rd hg2)).mono ?_)
   rintro e w3 ⟨rfl,rfl⟩;refine hK.out _ _ ?_ (fun hHeld=>?_)
   ·(refine ⟨?_,?_,?_,?_,?_,?_,?_,?_⟩<;>first | with_reducible assumption | go_simp)
   clear hK K
   try simp only [Act.put,cF,dY,bV]
   refine dX (i:=8) (v:=?_) rfl zb zb zb (fun _ _ _ h=>h) (Or.inl ⟨zo,?_⟩) zh ?_
   rotate_left 1
   ·(intro w hSw;(try dsimp only at hSw);go_simp;try with_reducible rfl)
   simp only [Act.put,cF];refine dX (i:=9) (v:=?_) rfl zb zb zb (fun _ _ _ h=>h) (Or.inl ⟨zo,?_⟩) zh ?_
   rotate_left 1
   ·(intro w hSw;(try dsimp only at hSw);go_simp;try with_reducible rfl)
   simp only [Act.put];refine dX (i:=10) (v:=undef) rfl zb zb zb (fun _ _ _ h=>h) (Or.inr ⟨zo,rfl⟩) zh ?_
   simp only [Act.put];refine dX (i:=11) (v:=undef) rfl zb zb zb (fun _ _ _ h=>h) (Or.inr ⟨zo,rfl⟩) zh ?_
   simp only [Act.put];refine dX (i:=12) (v:=undef) rfl zb zb zb (fun _ _ _ h=>h) (Or.inr ⟨zo,rfl⟩) zh ?_
   simp only [Act.put];refine dX (i:=13) (v:=undef) rfl zb zb zb (fun _ _ _ h=>h) (Or.inr ⟨zo,rfl⟩) zh ?_
   simp only [Act.put];refine dX (i:=14) (v:=?_) rfl zb zb zb (fun _ _ _ h=>h) (Or.inl ⟨zo,?_⟩) zh ?_
   rotate_left 1
   ·(intro w hSw;(try dsimp only at hSw);go_simp;try with_reducible rfl)
   simp only [Act.put];refine dZ zb ?_ _
   go_wp2;go_ret
   exact zAd.mk (zAC HR2.o.symm) HB2.o
  ·have hsm:(inL l d.ar).any id=true:=by rw [any_leaves];exact cP hlv
   have HR2:Hid ((if d.us=[] then (9:Int) else useF us d.us)=res):=by
    show _=_
    rw [←HR1.o]
    by_cases h9:d.us=[]
    ·rw [aE h9,aE (.inr h9)]
    ·rw [aC h9,aC (fun h=>h.elim hlv h9)]
   have HSO:=zq (fun go c' W' (x:Rd1 Value.bool W' (some ⟨go,0,none⟩) (inL l d.ar))=>some_c (some ⟨go,0,none⟩) c' (inL l d.ar) W' hin x)
   rw [hsm] at HSO;clear hlv hsm HR1 ga
   go_wp2_with fail
   go_region_held3 (fun w'=>w'.cell? ⟨ci,0,none⟩=some (.slice A l.length c)∧w'.cell? ⟨ci,1,none⟩=some (.map (some r1))∧w'.cell? ⟨ci,2,none⟩=some (.slice AL (zCq l (fun i=>!zBc l i) l.length).length cL)∧w'.cell? ⟨ci,3,none⟩=some (.map (some r2))∧w'.cell? ⟨ci,4,none⟩=some (.slice (some ⟨g1,0,none⟩) l.length l.length)∧w'.cell? ⟨ci,5,none⟩=some (.slice (some ⟨g2,0,none⟩) l.length l.length)∧w'.cell? ⟨w.heap.size,10,none⟩=some (.slice d.arA d.ar.length d.arc)∧w'.cell? ⟨w.heap.size,11,none⟩=some (.slice d.usA d.us.length d.usc)) ((refine ⟨?_,?_,?_,?_,?_,?_,?_,?_⟩<;>first | with_reducible assumption | go_simp))
    (first
     | ((go_at_call 87;(with_reducible refine (HIN.o w1.drew (WR.drew HW1.o) (Rd2.drew HD1.o.ars)).mono ?_);rintro e w2 ⟨go,cc,rfl,hg2,hb2⟩;have HB2:=zq (zAb (zAc HB1.o 1) hb2);have HC2:=zq (HC1.o.drew.below hb2);have HX2:=zq (HX1.o.drew.below hb2);have e0:=HC2.o.c 0 rfl;have e1:=HC2.o.c 1 rfl;have e2:=HC2.o.c 2 rfl;have e3:=HC2.o.c 3 rfl;have e4:=HC2.o.c 4 rfl;have e5:=HC2.o.c 5 rfl;have y1:=HX2.o.c 10 rfl;have y2:=HX2.o.c 11 rfl))
     | ((go_at_call 151;(with_reducible refine (HSO.o go cc w2 (bArr_rd hg2)).mono ?_);rintro e w3 ⟨rfl,rfl⟩)))
   have HW2:=zq ((WR.drew HW1.o).below hb2);have HU2:=zq ((Rd1.drew HU1.o).below hb2);have HD2:=zq ((HD1.o.below (zAc (bS _ _) 1)).below hb2);clear hb2 HIN HSO HW1 HU1 HD1 HC1 HX1 HB1 HGA y11 hg2
   by_cases h9:d.us=[]
   ·have HS:Hid (res=9):=by
     show _=_
     rw [←HR2.o,aE h9]
    have h9b:((d.us.length:Int) == 0)=true:=by rw [h9];rfl
    clear h9 HR2;go_wp2;go_ret
    exact zAd.mk (zAC HS.o.symm) HB2.o
   ·have HS:Hid (res=useF us d.us):=by
     show _=_
     rw [←HR2.o,aC h9]
    have h9b:((d.us.length:Int) == 0)=false:=by
     have:=List.length_pos_iff.2 h9;simp;omega
    have z6:=HC2.o.c 6 rfl;have HUC:=zq (fun W' (x:Strs W' uA us) (y:Strs W' d.usA d.us)=>checkUses_c uA d.usA uc d.usc us d.us W' hul HD2.o.lens.2.1 x y)
    clear h9 HR2 e0 e1 e2 e3 e4 e5 y1
    go_wp2_with fail
    go_region_held3 (fun w'=>w'.cell? ⟨ci,6,none⟩=some (.slice uA us.length uc)∧w'.cell? ⟨w.heap.size,11,none⟩=some (.slice d.usA d.us.length d.usc)) ((refine ⟨?_,?_⟩<;>first | with_reducible assumption | go_simp))
     ((go_at_call 152;(with_reducible refine (HUC.o w2.drew (Rd1.drew HU2.o) (Rd1.drew HD2.o.uses)).mono ?_);rintro e w4 ⟨rfl,hgd⟩;have HB4:=zq (zAb HB2.o (zAc (bS _ _) 1));have hb4:Below w2.drew.heap.size w2.drew w4:=(by obtain ⟨nn,hn⟩:=hgd;rw [hn];exact zAc (bS _ _) nn);have HC4:=zq (HC2.o.drew.below hb4);have HX4:=zq (HX2.o.drew.below hb4);have z7:=HC4.o.c 6 rfl;have z8:=HX4.o.c 11 rfl))
    go_wp2;go_ret
    exact zAd.mk (zAC HS.o.symm) (zAb HB4.o hb4)
 ·have HS:Hid (res=zDN l d.ar):=by
   show _=_
   rw [←HR.o];unfold zBY;rw [aE hch]
  have hcb:(zDN l d.ar != 0)=true:=by simpa using hch
  clear hch HR;go_wp2;go_ret
  exact zAd.mk (zAC HS.o.symm) HB1.o
theorem tKinds:Tryz.prog.underlying 93=some (.map 9 3):=zb
theorem tFlags:Tryz.prog.underlying 99=some (.map 9 4):=zb
structure VS (w0 wr:World) (ci bi fi:Nat) (fc:Array Value) (A:Option Addr) (c r1 r2 g1 g2:Nat) (AL:Option Addr) (cL:Nat) (l:List Rg) (uA:Option Addr) (uc:Nat) (us:List BA) (m2 m3 m4 m5:Nat) (p d:De) (f2 f3:BA→Option Value):Prop where
 bel:Below w0.heap.size w0 wr
 ck:Bx wr ci (ckC A c r1 r2 g1 g2 AL cL l uA uc us m2 m3 m4 m5 p) 101
 dx:Bx wr bi (deC d) 47
 fx:Bx wr fi fc 84
 wrl:WR wr A r1 r2 g1 g2 AL l
 st:Strs wr uA us
 dok:DeOk wr d
 k2:zAO Value.string wr m2 f2
 k3:zAO Value.string wr m3 f3
section
variable {w0 wr w':World} {ci bi fi:Nat} {fc:Array Value} {A:Option Addr} {c r1 r2 g1 g2:Nat} {AL:Option Addr} {cL:Nat} {l:List Rg} {uA:Option Addr} {uc:Nat} {us:List BA} {m2 m3 m4 m5:Nat} {p d:De} {f2 f3:BA→Option Value}
theorem VS.below (h:VS w0 wr ci bi fi fc A c r1 r2 g1 g2 AL cL l uA uc us m2 m3 m4 m5 p d f2 f3) (hb:Below wr.heap.size wr w'):VS w0 w' ci bi fi fc A c r1 r2 g1 g2 AL cL l uA uc us m2 m3 m4 m5 p d f2 f3 :=
 ⟨zAb h.bel hb,h.ck.below hb,h.dx.below hb,h.fx.below hb,h.wrl.below hb,h.st.below hb,h.dok.below hb,h.k2.below hb,h.k3.below hb⟩
theorem VS.drewN (h:VS w0 wr ci bi fi fc A c r1 r2 g1 g2 AL cL l uA uc us m2 m3 m4 m5 p d f2 f3) (n:Nat):VS w0 (wr.drewN n) ci bi fi fc A c r1 r2 g1 g2 AL cL l uA uc us m2 m3 m4 m5 p d f2 f3:=h.below (zAc (bS _ _) n)
theorem VS.drew (h:VS w0 wr ci bi fi fc A c r1 r2 g1 g2 AL cL l uA uc us m2 m3 m4 m5 p d f2 f3):VS w0 wr.drew ci bi fi fc A c r1 r2 g1 g2 AL cL l uA uc us m2 m3 m4 m5 p d f2 f3:=h.drewN 1
theorem VS.alloc (h:VS w0 wr ci bi fi fc A c r1 r2 g1 g2 AL cL l uA uc us m2 m3 m4 m5 p d f2 f3) (o:Obj):VS w0 (wr.alloc o) ci bi fi fc A c r1 r2 g1 g2 AL cL l uA uc us m2 m3 m4 m5 p d f2 f3:=h.below ((bS _ _).alloc (aB _) o)
end
theorem VS.start (w:World) (ci:Nat) (fc:Array Value) (A:Option Addr) (c r1 r2 g1 g2:Nat) (AL:Option Addr) (cL:Nat) (l:List Rg) (uA:Option Addr) (uc:Nat) (us:List BA) (m2 m3 m4 m5:Nat) (p d:De) (f2 f3:BA→Option Value)
  (hc:Bx w ci (ckC A c r1 r2 g1 g2 AL cL l uA uc us m2 m3 m4 m5 p) 101) (hw:WR w A r1 r2 g1 g2 AL l) (hu:Strs w uA us) (hd:DeOk w d) (h2:zAO Value.string w m2 f2) (h3:zAO Value.string w m3 f3) :
  VS w ((w.alloc (.cells (deC d) 47)).alloc (.cells fc 84)) ci w.heap.size (w.heap.size+1) fc A c r1 r2 g1 g2 AL cL l uA uc us m2 m3 m4 m5 p d f2 f3:=by
 have hb:Below w.heap.size w ((w.alloc (.cells (deC d) 47)).alloc (.cells fc 84)):=((bS w.heap.size w).alloc (aB _) _).alloc zd _;exact ⟨hb,hc.below hb,(Bx.new _ _ _).alloc _,Bx.new1 _ _ _ _,hw.below hb,hu.below hb,hd.below hb,h2.below hb,h3.below hb⟩
def endV (d:De) (k:Int) (e:Bool):Int :=
 if zCm d.bg=false then 1 else if k≠2∧k≠3 then 9 else if e=true then 7 else 0
theorem values_4 (ci:Nat) (A:Option Addr) (c r1 r2 g1 g2:Nat) (AL:Option Addr) (cL:Nat) (l:List Rg) (uA:Option Addr) (uc:Nat) (us:List BA) (m2 m3 m4 m5:Nat) (p d:De) (f2 f3:BA→Option Value) (k:Int) (e:Bool) (w:World)
  (hk:(f2 d.ot).getD (.int .i64 0) = .int .i64 k) (he:(f3 d.ot).getD (.bool false) = .bool e)
  (hc:Bx w ci (ckC A c r1 r2 g1 g2 AL cL l uA uc us m2 m3 m4 m5 p) 101) (hw:WR w A r1 r2 g1 g2 AL l) (hu:Strs w uA us) (hd:DeOk w d) (h2:zAO Value.string w m2 f2) (h3:zAO Value.string w m3 f3) :
  Calls Tryz.prog 76 #[.pointer (some ⟨ci,0,none⟩),deV d,.agg #[.bool false,.bool false,.bool false,.bool false,.bool false,.bool false,.bool false,.bool false,.bool true]] w (zAd (.int .i64 (endV d k e)) w):=by
 generalize hres:endV d k e=res;have HR:=zq hres;clear hres;have HV:=zq (VS.start w ci #[.bool false,.bool false,.bool false,.bool false,.bool false,.bool false,.bool false,.bool false,.bool true] A c r1 r2 g1 g2 AL cL l uA uc us m2 m3 m4 m5 p d f2 f3 hc hw hu hd h2 h3);clear hc hw hu hd h2 h3;obtain ⟨W,hW⟩:∃ W,W=(w.alloc (.cells (deC d) 47)).alloc (.cells #[.bool false,.bool false,.bool false,.bool false,.bool false,.bool false,.bool false,.bool false,.bool true] 84):=⟨_,rfl⟩;rw [←hW] at HV;have hsz:w.heap.size+1<W.heap.size:=HV.o.fx.lt
 go_enter Tryz.func76,Tryz.ntmps76
 go_wp2_with fail
 rw [←hW];clear hW;have x3:=HV.o.dx.c 3 rfl;have x4:=HV.o.dx.c 4 rfl;have x5:=HV.o.dx.c 5 rfl;have x11:=HV.o.dx.c 12 rfl;have x14:=HV.o.dx.c 15 rfl;have y0:=HV.o.fx.c 0 rfl;have y1:=HV.o.fx.c 1 rfl;have y2:=HV.o.fx.c 2 rfl;have y3:=HV.o.fx.c 3 rfl;have y5:=HV.o.fx.c 5 rfl;have y6:=HV.o.fx.c 6 rfl;have y7:=HV.o.fx.c 7 rfl;have y8:=HV.o.fx.c 8 rfl;have HDY:=zq (fun W'=>isDay_c d.bg W')
 go_wp2_with fail
 with_reducible refine (HDY.o _).mono ?_
 rintro e' w2 ⟨rfl,rfl⟩
 cases hb:zCm d.bg with
 | false =>
  have HS:Hid (res=1):=by
   show _=_
   rw [←HR.o];unfold endV;rw [aE hb]
  clear hb HR;go_wp2;go_ret
  exact zAd.mk (zAC HS.o.symm) HV.o.bel
 | true =>
  have HR2:Hid ((if k≠2∧k≠3 then (9:Int) else if e=true then 7 else 0)=res):=by
   show _=_
   have hbn:¬ zCm d.bg=false:=by rw [hb];simp
   rw [←HR.o];unfold endV;rw [aC hbn]
  clear hb HR HDY;have q2:=HV.o.ck.c 7 rfl;have q3:=HV.o.ck.c 8 rfl;have hl2:=fun n=>zBa tKinds (zBO (P:=Tryz.prog) zb) zInt ((HV.o.drewN n).k2) d.ot false
  have hl3:=fun n=>zBa tFlags (zBO (P:=Tryz.prog) zb) zBool ((HV.o.drewN n).k3) d.ot false
  simp only [dL,dG,hk,he] at hl2 hl3
  by_cases hk2:k=2∨k=3
  ·have HR3:Hid ((if e=true then (7:Int) else 0)=res):=by
    show _=_
    have hkn:¬ (k≠2∧k≠3):=za;rw [←HR2.o,aC hkn]
   clear HR2;go_wp2
   rcases hk2 with rfl | rfl
   all_goals
    go_quiet (fail)
    go_wp2
    go_quiet (fail)
    cases e with
    | true =>
     have HS:Hid (res=7):=by
      show _=_
      rw [←HR3.o,aE rfl]
     clear HR3;go_wp2;go_ret
     exact zAd.mk (zAC HS.o.symm) (zAc (zAc HV.o.bel _) _)
    | false =>
     have HS:Hid (res=0):=by
      show _=_
      rw [←HR3.o,aC zd]
     clear HR3;go_wp2;go_ret
     exact zAd.mk (zAC HS.o.symm) (zAc (zAc HV.o.bel _) _)
  ·have HS:Hid (res=9):=by
    show _=_
    have hkn:k≠2∧k≠3:=za;rw [←HR2.o,aE hkn]
   have k1:(k != 2)=true:=zg;have k3:(k != 3)=true:=zg;clear hk2 HR2;go_wp2
   go_quiet (fail)
   go_wp2;go_ret
   exact zAd.mk (zAC HS.o.symm) (zAc HV.o.bel _)
end Go.Proofs.YtoaelidmmcbkfaaGreatDoor
