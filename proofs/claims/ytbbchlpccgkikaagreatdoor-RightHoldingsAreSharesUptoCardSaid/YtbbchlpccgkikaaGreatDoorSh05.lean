/- Package right (places): newWorld. -/
import Derived.Test.YtbbchlpccgkikaaGreatDoorSh04
set_option maxRecDepth 100000
set_option maxHeartbeats 8000000
namespace Go.Proofs.YtbbchlpccgkikaaGreatDoor
open Go.RowKit Dw
section
variable {w0 w w':World} {B:Nat} {SL lv:Value} {r1 r2 g1 g2 s n:Nat} {f1 f2:BA→Option Value} {up bl:Array Value}
theorem NW.keep(h:NW w0 w B SL lv r1 r2 g1 g2 s n f1 f2 up bl)(hs:w'.heap[s]?=w.heap[s]?)(h1:w'.heap[r1]?=w.heap[r1]?)(h2:w'.heap[r2]?=w.heap[r2]?)(h3:w'.heap[g1]?=w.heap[g1]?)(h4:w'.heap[g2]?=w.heap[g2]?)(hb:Below B w0 w'): NW w0 w' B SL lv r1 r2 g1 g2 s n f1 f2 up bl:=
 ⟨hs.trans h.box,h.m1.keep h1,h.m2.keep h2,h3.trans h.up,h4.trans h.bl,h.ne,h.b1,h.b2,h.b3,h.b4,h.b5,hb⟩
theorem zAh{w:World}{g:Nat}{o:Obj}(h:w.heap[g]?=some o):g<w.heap.size:=(Array.getElem?_eq_some_iff.1 h).1
theorem NW.size(h:NW w0 w B SL lv r1 r2 g1 g2 s n f1 f2 up bl):B<=w.heap.size:=by
 have:=zAh h.box;have:=h.b5;omega
theorem NW.alloc(h:NW w0 w B SL lv r1 r2 g1 g2 s n f1 f2 up bl)(o:Obj):NW w0 (w.alloc o) B SL lv r1 r2 g1 g2 s n f1 f2 up bl:=
 h.keep (dT _ _ _ (zAh h.box)) (dT _ _ _ h.m1.lt) (dT _ _ _ h.m2.lt) (dT _ _ _ (zAh h.up)) (dT _ _ _ (zAh h.bl)) (h.below.alloc h.size o)
theorem zAi{w:World}{r g:Nat}{f:BA->Option Value}{c:Array Value}{t:TypeId}{fr:Nat×Nat}(hm:zAu Value.string w r f)(hg:w.heap[g]?=some (.cells c t fr)):g≠r:=fun e=>by
 obtain⟨es,clk,L,hr,_⟩:=hm;rw[<-e,hg]at hr;cases hr
theorem zAA{w:World}{g g':Nat}{c c':Array Value}{t t':TypeId}(hg:w.heap[g]?=some (.cells c t (0,0)))(hg':w.heap[g']?=some (.cells c' t' (0,0)))(h:t≠t'):g≠g':=fun e=>by
 rw[e,hg']at hg
 injection hg with hg
 injection hg with _ hg
 exact h hg.symm
theorem NW.map1(h:NW w0 w B SL lv r1 r2 g1 g2 s n f1 f2 up bl){f':BA->Option Value}(hm:zAu Value.string w' r1 f')(hg:w.grownBy w' (some r1)):NW w0 w' B SL lv r1 r2 g1 g2 s n f' f2 up bl:=by
 have hb:Below B w0 w':=below_map h.below hg h.b1 h.size;have k:∀{x:Nat},x<w.heap.size->x≠r1->w'.heap[x]?=w.heap[x]?:=fun hx hne=>hg.block _ hx (fun e=>hne (by injection e))
 exact⟨(k (zAh h.box) (zAi h.m1 h.box)).trans h.box,hm,h.m2.keep (k h.m2.lt h.ne.symm),(k (zAh h.up) (zAi h.m1 h.up)).trans h.up,(k (zAh h.bl) (zAi h.m1 h.bl)).trans h.bl,h.ne,h.b1,h.b2,h.b3,h.b4,h.b5,hb⟩
theorem NW.map2(h:NW w0 w B SL lv r1 r2 g1 g2 s n f1 f2 up bl){f':BA->Option Value}(hm:zAu Value.string w' r2 f')(hg:w.grownBy w' (some r2)):NW w0 w' B SL lv r1 r2 g1 g2 s n f1 f' up bl:=by
 have hb:Below B w0 w':=below_map h.below hg h.b2 h.size;have k:∀{x:Nat},x<w.heap.size->x≠r2->w'.heap[x]?=w.heap[x]?:=fun hx hne=>hg.block _ hx (fun e=>hne (by injection e))
 exact⟨(k (zAh h.box) (zAi h.m2 h.box)).trans h.box,h.m1.keep (k h.m1.lt h.ne),hm,(k (zAh h.up) (zAi h.m2 h.up)).trans h.up,(k (zAh h.bl) (zAi h.m2 h.bl)).trans h.bl,h.ne,h.b1,h.b2,h.b3,h.b4,h.b5,hb⟩
theorem NW.setUp(h:NW w0 w B SL lv r1 r2 g1 g2 s n f1 f2 up bl)(i:Nat)(v:Value):NW w0 (w.setCell ⟨g1,i,none⟩ v) B SL lv r1 r2 g1 g2 s n f1 f2 (up.setIfInBounds i v) bl:=by
 have k:∀{x:Nat},x≠g1->(w.setCell ⟨g1,i,none⟩ v).heap[x]?=w.heap[x]?:=fun hne=>dY w ⟨g1,i,none⟩ _ v hne
 exact⟨(k (zAA h.box h.up zc)).trans h.box,h.m1.keep (k (zAi h.m1 h.up).symm),h.m2.keep (k (zAi h.m2 h.up).symm),eC w g1 i up _ v h.up,(k (zAA h.bl h.up zc)).trans h.bl,h.ne,h.b1,h.b2,h.b3,h.b4,h.b5,h.below.setCell (p:=⟨g1,i,none⟩) h.b3 v⟩
theorem NW.setBl(h:NW w0 w B SL lv r1 r2 g1 g2 s n f1 f2 up bl)(i:Nat)(v:Value):NW w0 (w.setCell ⟨g2,i,none⟩ v) B SL lv r1 r2 g1 g2 s n f1 f2 up (bl.setIfInBounds i v):=by
 have k:∀{x:Nat},x≠g2->(w.setCell ⟨g2,i,none⟩ v).heap[x]?=w.heap[x]?:=fun hne=>dY w ⟨g2,i,none⟩ _ v hne
 exact⟨(k (zAA h.box h.bl zc)).trans h.box,h.m1.keep (k (zAi h.m1 h.bl).symm),h.m2.keep (k (zAi h.m2 h.bl).symm),(k (zAA h.up h.bl zc)).trans h.up,eC w g2 i bl _ v h.bl,h.ne,h.b1,h.b2,h.b3,h.b4,h.b5,h.below.setCell (p:=⟨g2,i,none⟩) h.b4 v⟩
theorem NW.setLv(h:NW w0 w B SL lv r1 r2 g1 g2 s n f1 f2 up bl)(v:Value):NW w0 (w.setCell ⟨s,2,none⟩ v) B SL v r1 r2 g1 g2 s n f1 f2 up bl:=by
 have k:∀{x:Nat},x≠s->(w.setCell ⟨s,2,none⟩ v).heap[x]?=w.heap[x]?:=fun hne=>dY w ⟨s,2,none⟩ _ v hne
 exact⟨eC w s 2 _ _ v h.box,h.m1.keep (k (zAi h.m1 h.box).symm),h.m2.keep (k (zAi h.m2 h.box).symm),(k (zAA h.up h.box zc)).trans h.up,(k (zAA h.bl h.box zc)).trans h.bl,h.ne,h.b1,h.b2,h.b3,h.b4,h.b5,h.below.setCell (p:=⟨s,2,none⟩) h.b5 v⟩
theorem NW.setFar(h:NW w0 w B SL lv r1 r2 g1 g2 s n f1 f2 up bl){gp:Nat}{cs:Array Value}{t:TypeId}(hg:w.heap[gp]?=some (.cells cs t (0,0)))(hB:B<=gp)(t1:t≠103)(t2:t≠3)(t3:t≠68)(i:Nat)(v:Value): NW w0 (w.setCell ⟨gp,i,none⟩ v) B SL lv r1 r2 g1 g2 s n f1 f2 up bl:=by
 have k:∀{x:Nat},x≠gp->(w.setCell ⟨gp,i,none⟩ v).heap[x]?=w.heap[x]?:=fun hne=>dY w ⟨gp,i,none⟩ _ v hne
 exact h.keep (k (zAA h.box hg t1.symm)) (k (zAi h.m1 hg).symm) (k (zAi h.m2 hg).symm) (k (zAA h.up hg t2.symm)) (k (zAA h.bl hg t3.symm)) (h.below.setCell (p:=⟨gp,i,none⟩) hB v)
theorem NW.growOwn(h:NW w0 w B SL lv r1 r2 g1 g2 s n f1 f2 up bl){α:Type}{enc:α->List Value}{k:Nat}{e:TypeId}{v:Value}{L:List α}(ho:zAs enc k w B e v L)(hg:w.grownBy w' v.ownBlock)(t1:e≠103)(t3:e≠68)(t2:e≠3\/v.ownBlock≠some g1): NW w0 w' B SL lv r1 r2 g1 g2 s n f1 f2 up bl:=by
 have kc:∀{x:Nat}{c:Array Value}{t:TypeId},t≠e->w.heap[x]?=some (.cells c t (0,0))->w'.heap[x]?=w.heap[x]?:=fun ht hx=>hg.block _ (zAh hx) fun e2=>by
  obtain⟨_,cs,hcs⟩:=zAM ho e2.symm;exact zAA hx hcs ht rfl
 have km:∀{x:Nat}{f:BA->Option Value},zAu Value.string w x f->w'.heap[x]?=w.heap[x]?:=fun hx=>hg.block _ hx.lt fun e2=>by
  obtain⟨_,cs,hcs⟩:=zAM ho e2.symm;exact zAi hx hcs rfl
 refine h.keep (kc t1.symm h.box) (km h.m1) (km h.m2) ?_ (kc t3.symm h.bl) (h.below.grown hg h.size fun x hx=>(zAM ho hx).1)
 rcases t2 with t2|t2
 ·exact kc t2.symm h.up
 ·exact hg.block _ (zAh h.up) fun e2=>t2 e2.symm
theorem NW.c1(h:NW w0 w B SL lv r1 r2 g1 g2 s n f1 f2 up bl):w.cell? ⟨s,1,none⟩=some (.map (some r1)):=by rw[aX w s 1 _ _ _ h.box];rfl
theorem NW.c2(h:NW w0 w B SL lv r1 r2 g1 g2 s n f1 f2 up bl):w.cell? ⟨s,2,none⟩=some lv:=by rw[aX w s 2 _ _ _ h.box];rfl
theorem NW.c3(h:NW w0 w B SL lv r1 r2 g1 g2 s n f1 f2 up bl):w.cell? ⟨s,3,none⟩=some (.map (some r2)):=by rw[aX w s 3 _ _ _ h.box];rfl
theorem NW.c4(h:NW w0 w B SL lv r1 r2 g1 g2 s n f1 f2 up bl):w.cell? ⟨s,4,none⟩=some (slAt g1 n):=by rw[aX w s 4 _ _ _ h.box];rfl
theorem NW.c5(h:NW w0 w B SL lv r1 r2 g1 g2 s n f1 f2 up bl):w.cell? ⟨s,5,none⟩=some (slAt g2 n):=by rw[aX w s 5 _ _ _ h.box];rfl
theorem NW.f2'(h:NW w0 w B SL lv r1 r2 g1 g2 s n f1 f2 up bl):w.frozen? ⟨s,2,none⟩=false:=cU w s 2 _ _ h.box
theorem NW.cu(h:NW w0 w B SL lv r1 r2 g1 g2 s n f1 f2 up bl)(i:Nat):w.cell? ⟨g1,i,none⟩=up[i]?:=aX w g1 i _ _ _ h.up
theorem NW.fu(h:NW w0 w B SL lv r1 r2 g1 g2 s n f1 f2 up bl)(i:Nat):w.frozen? ⟨g1,i,none⟩=false:=cU w g1 i _ _ h.up
theorem NW.cb(h:NW w0 w B SL lv r1 r2 g1 g2 s n f1 f2 up bl)(i:Nat):w.cell? ⟨g2,i,none⟩=bl[i]?:=aX w g2 i _ _ _ h.bl
theorem NW.fb(h:NW w0 w B SL lv r1 r2 g1 g2 s n f1 f2 up bl)(i:Nat):w.frozen? ⟨g2,i,none⟩=false:=cU w g2 i _ _ h.bl
end
def upI(l:List Rg)(i:Nat):Int:=match up l i with
 |some j=>(j:Int)
 |none=>-1
def upTo(l:List Rg)(k:Nat)(i:Nat):Value:=if i<k then .int .i64 (upI l i) else .int .i64 0
def upArr(l:List Rg)(k:Nat):Array Value:=((List.range l.length).map (upTo l k)).toArray
theorem upArr_0(l:List Rg):Array.replicate l.length (Value.int .i64 0)=upArr l 0:=by
 apply Array.toList_inj.1
 rw[cX]
 apply dU<;>simp[upArr,upTo]
theorem zDl(l:List Rg)(k:Nat):(upArr l k).size=l.length:=by simp[upArr]
theorem zDk(l:List Rg)(k i:Nat)(hi:i<l.length):(upArr l k)[i]?=some (upTo l k i):=by simp[upArr,hi]
theorem upArr_set(l:List Rg)(k:Nat)(hk:k<l.length):(upArr l k).setIfInBounds k (.int .i64 (upI l k))=upArr l (k+1):=by
 apply Array.ext_getElem?
 intro i;rw[Array.getElem?_setIfInBounds]
 by_cases h:k=i
 ·subst h
  rw[aD rfl,aD (by rw[zDl];exact hk),zDk _ _ _ hk];simp[upTo]
 ·rw[aW h]
  by_cases hi:i<l.length
  ·rw[zDk _ _ _ hi,zDk _ _ _ hi]
   unfold upTo
   by_cases h2:i<k
   ·rw[aD h2,aD za]
   ·rw[aW h2,aW za]
  ·rw[Array.getElem?_eq_none (by rw[zDl];omega),Array.getElem?_eq_none (by rw[zDl];omega)]
def parK(l:List Rg)(k i:Nat):Bool:=(List.range k).any fun j=>decide (up l j=some i)
def zCu(l:List Rg)(k:Nat):Array Value:=((List.range l.length).map fun i=>Value.bool (parK l k i)).toArray
theorem parArr_0(l:List Rg):Array.replicate l.length (Value.bool false)=zCu l 0:=by
 apply Array.toList_inj.1
 rw[cX]
 apply dU<;>simp[zCu,parK]
theorem parArr_size(l:List Rg)(k:Nat):(zCu l k).size=l.length:=by simp[zCu]
theorem zDi(l:List Rg)(k i:Nat)(hi:i<l.length):(zCu l k)[i]?=some (.bool (parK l k i)):=by simp[zCu,hi]
theorem parK_succ(l:List Rg)(k i:Nat):parK l (k+1) i=(parK l k i || decide (up l k=some i)):=by
 unfold parK;rw[dP,dX];simp
theorem parArr_none(l:List Rg)(k:Nat)(h:up l k=none):zCu l (k+1)=zCu l k:=by
 unfold zCu
 congr 2
 funext i
 rw[parK_succ,h];simp
theorem parArr_some(l:List Rg)(k j:Nat)(h:up l k=some j)(hj:j<l.length):(zCu l k).setIfInBounds j (.bool true)=zCu l (k+1):=by
 apply Array.ext_getElem?
 intro i;rw[Array.getElem?_setIfInBounds]
 by_cases h2:j=i
 ·subst h2
  rw[aD rfl,aD (by rw[parArr_size];exact hj),zDi _ _ _ hj,parK_succ,h];simp
 ·rw[aW h2]
  by_cases hi:i<l.length
  ·rw[zDi _ _ _ hi,zDi _ _ _ hi,parK_succ,h]
   simp[h2]
  ·rw[Array.getElem?_eq_none (by rw[parArr_size];omega),Array.getElem?_eq_none (by rw[parArr_size];omega)]
theorem parK_isPar{l:List Rg}(g:GoodR l){i:Nat}(hi:i<l.length):parK l l.length i=zAB l i:=by
 rw[bD];unfold parK zAB;rw[eH,eH]
 constructor
 ·rintro⟨j,hj,h⟩
  have hj':=List.mem_range.1 hj;have hu:up l j=some i:=zr;refine⟨l[j],bI hj',?_⟩
  by_cases hp:(l[j]).par=emp
  ·rw[up_none hj' hp]at hu;cases hu
  ·obtain⟨x,hx,hu',he⟩:=g.up_some hj' hp
   rw[hu]at hu'
   injection hu' with e
   subst e;rw[zAH hi]
   simpa using he
 ·rintro⟨q,hq,h⟩
  obtain⟨j,hj,rfl⟩:=dO hq;have he:(l[j]).par=(l[i]).nm:=by rw[<-zAH hi];simpa using h
  have hp:(l[j]).par≠emp:=by rw[he];exact g.nm_ne hi
  obtain⟨x,hx,hu,he'⟩:=g.up_some hj hp;have:i=x:=g.nm_inj hi hx (he.symm.trans he');exact⟨j,List.mem_range.2 hj,by rw[hu,this];simp⟩
theorem own_ne_map{α:Type}{enc:α->List Value}{k:Nat}{w:World}{base:Nat}{e:TypeId}{v:Value}{l:List α}(h:zAs enc k w base e v l){r:Nat}{f:BA->Option Value}(hm:zAu Value.string w r f):v.ownBlock≠some r:=fun e2=>by
 obtain⟨_,cs,hcs⟩:=zAM h e2;exact zAi hm hcs rfl
theorem gath_leafTo(l:List Rg)(k:Nat):(zBF l (fun i=>!zAB l i) k).length=(zBG l k).length:=by
 unfold zBF zBG;rw[dE]
def NwRel1(w0:World)(l:List Rg)(B:Nat)(SL:Value)(r1 r2 g1 g2 s:Nat)(m:Nat)(i:Value)(wr:World):Prop:=
 ∃k:Nat,k+m=l.length/\i=.int .i64 k/\NW w0 wr B SL zAm r1 r2 g1 g2 s l.length (mp l k) (fun _=>none) (upArr l 0) (Array.replicate l.length zAm)
def NwRel2(w0:World)(l:List Rg)(B:Nat)(SL:Value)(r1 r2 g1 g2 s gp:Nat)(m:Nat)(i:Value)(wr:World):Prop:=
 ∃k:Nat,k+m=l.length/\i=.int .i64 k/\NW w0 wr B SL zAm r1 r2 g1 g2 s l.length (mp l l.length) (fun _=>none) (upArr l k) (Array.replicate l.length zAm)/\wr.heap[gp]?=some (.cells (zCu l k) 4 (0,0))
def NwRel3(w0:World)(l:List Rg)(B:Nat)(SL:Value)(r1 r2 g1 g2 s gp:Nat)(m:Nat)(i:Value)(wr:World):Prop:=
 ∃(k:Nat)(lv:Value)(bl:Array Value),k+m=l.length/\i=.int .i64 k/\NW w0 wr B SL lv r1 r2 g1 g2 s l.length (mp l l.length) (lmF l k) (upArr l l.length) bl /\
  wr.heap[gp]?=some (.cells (zCu l l.length) 4 (0,0))/\zAs encS 1 wr B 9 lv (zBF l (fun i=>!zAB l i) k)/\RowsI wr B g1 l.length bl (zAQ l k)
def NwRel4(w0:World)(l:List Rg)(B:Nat)(SL:Value)(r1 r2 g1 g2 s gp i:Nat)(lv:Value)(m:Nat)(kk:Value)(wr:World):Prop:=
 ∃(bl:Array Value),NW w0 wr B SL lv r1 r2 g1 g2 s l.length (mp l l.length) (lmF l (i+1)) (upArr l l.length) bl /\
  wr.heap[gp]?=some (.cells (zCu l l.length) 4 (0,0))/\zAs encS 1 wr B 9 lv (zBF l (fun i=>!zAB l i) (i+1)) /\
  ((∃y,y<l.length/\kk=.int .i64 (y:Int)/\(∃d,upN l d i=some y)/\upN l m y=none /\
   RowsI wr B g1 l.length bl (fun x=>zAQ l i x++if under l i x&&!zBH l m y x then [((zBF l (fun i=>!zAB l i) i).length:Int)] else [])) \/
   (kk=.int .i64 (-1)/\RowsI wr B g1 l.length bl (zAQ l (i+1))))
structure WR (w:World) (A:Option Addr) (r1 r2 g1 g2:Nat) (AL:Option Addr) (l:List Rg):Prop where
 rg:Rgs w A l
 m1:zAu Value.string w r1 (mp l l.length)
 lv:Strs w AL (zBF l (fun i=>!zAB l i) l.length)
 m2:zAu Value.string w r2 (lmF l l.length)
 up:∀i,i<l.length->w.cell? ⟨g1,i,none⟩=some (.int .i64 (upI l i))
 bl:∀i,i<l.length->∃Ai ci,w.cell? ⟨g2,i,none⟩=some (.slice Ai (zAQ l l.length i).length ci)/\Rd1 (Value.int .i64) w Ai (zAQ l l.length i)
 h1:g1<w.heap.size
 h2:g2<w.heap.size
 h3:∃cs,w.heap[g2]?=some (.cells cs 68 (0,0))
def wv(A:Option Addr)(c r1 r2 g1 g2:Nat)(AL:Option Addr)(cL:Nat)(l:List Rg):Value:=
 .agg #[.slice A l.length c,.map (some r1),.slice AL (zBF l (fun i=>!zAB l i) l.length).length cL,.map (some r2),.slice (some ⟨g1,0,none⟩) l.length l.length,.slice (some ⟨g2,0,none⟩) l.length l.length]
def GivesW(A:Option Addr)(c:Nat)(l:List Rg)(w:World)(e:Ending)(w':World):Prop:=
 ∃r1 r2 g1 g2 AL cL,e=.returned (wv A c r1 r2 g1 g2 AL cL l)/\WR w' A r1 r2 g1 g2 AL l/\Below w.heap.size w w'
theorem WR.below{w w':World}{A:Option Addr}{r1 r2 g1 g2:Nat}{AL:Option Addr}{l:List Rg}(h:WR w A r1 r2 g1 g2 AL l)(hb:Below w.heap.size w w'):WR w' A r1 r2 g1 g2 AL l:=
 ⟨h.rg.below hb,h.m1.keep (hb.block _ h.m1.lt),h.lv.below hb,h.m2.keep (hb.block _ h.m2.lt),fun i hi=>(hb.cell h.h1).trans (h.up i hi),fun i hi=>by
  obtain⟨Ai,ci,h1,h2⟩:=h.bl i hi
  exact⟨Ai,ci,(hb.cell h.h2).trans h1,h2.below hb⟩,aB h.h1 hb.size,aB h.h2 hb.size,by
   obtain⟨cs,hcs⟩:=h.h3;exact⟨cs,(hb.block _ h.h2).trans hcs⟩⟩
theorem setCells6{w:World}{s:Nat}(b0 b1 b2 b3 b4 b5:Value):∀x,x≠s->((((((w.setCell ⟨s,0,none⟩ b0).setCell ⟨s,1,none⟩ b1).setCell ⟨s,2,none⟩ b2).setCell ⟨s,3,none⟩ b3).setCell ⟨s,4,none⟩ b4).setCell ⟨s,5,none⟩ b5).heap[x]?=w.heap[x]?:=by
 intro x hx;rw[dY _ ⟨s,5,none⟩ _ _ hx,dY _ ⟨s,4,none⟩ _ _ hx,dY _ ⟨s,3,none⟩ _ _ hx,dY _ ⟨s,2,none⟩ _ _ hx,dY _ ⟨s,1,none⟩ _ _ hx,dY _ ⟨s,0,none⟩ _ _ hx]
theorem own_keepB{α:Type}{enc:α->List Value}{k:Nat}{w w':World}{base:Nat}{e:TypeId}{v:Value}{l:List α}(h:zAs enc k w base e v l)(hk:∀(g:Nat),base<=g->g<w.heap.size->w'.heap[g]?=w.heap[g]?):zAs enc k w' base e v l:=by
 refine⟨h.1,?_⟩
 rcases h.2 with hn|⟨g,cap,cur,rfl,hb,hgg,rest⟩
 ·exact .inl hn
 ·exact .inr ⟨g,cap,cur,rfl,hb,(hk g hb (zAh hgg)).trans hgg,rest⟩
theorem NW.wr{w0 w w':World}{A:Option Addr}{B c:Nat}{lv:Value}{r1 r2 g1 g2 s:Nat}{l:List Rg}{bl:Array Value}{AL:Option Addr}{cL:Nat}(h:NW w0 w B (.slice A l.length c) lv r1 r2 g1 g2 s l.length (mp l l.length) (lmF l l.length) (upArr l l.length) bl)(hL:zAs encS 1 w B 9 lv (zBF l (fun i=>!zAB l i) l.length))(hlv:lv=.slice AL (zBF l (fun i=>!zAB l i) l.length).length cL)
  (hR:RowsI w B g1 l.length bl (zAQ l l.length)) (hrg:Rgs w' A l) (hk:∀x,B<=x->x<w.heap.size->w'.heap[x]?=w.heap[x]?):WR w' A r1 r2 g1 g2 AL l:=by
 have hbl:w'.heap[g2]?=some (.cells bl 68 (0,0)):=(hk _ h.b4 (zAh h.bl)).trans h.bl;have hup:w'.heap[g1]?=w.heap[g1]?:=hk _ h.b3 (zAh h.up);refine⟨hrg,h.m1.keep (hk _ h.b1 h.m1.lt),?_,h.m2.keep (hk _ h.b2 h.m2.lt),fun i hi=>?_,fun i hi=>?_,?_,zAh hbl,bl,hbl⟩
 ·have hL':zAs encS 1 w' B 9 lv (zBF l (fun i=>!zAB l i) l.length):=own_keepB hL fun x hx hx2=>hk _ za hx2
  obtain⟨A',c',e,hr⟩:=hL'.rd1;rw[hlv]at e
  injection e with e1 e2 e3
  subst e1;exact hr
 ·rw[World.cell?_of_block (a:=⟨g1,i,none⟩) hup,h.cu,zDk _ _ _ hi];simp[upTo,hi]
 ·obtain⟨v,hv⟩:∃v,bl[i]?=some v:=⟨_,Array.getElem?_eq_getElem (by rw[hR.size];exact hi)⟩
  have ho:zAs encI 1 w' B 3 v (zAQ l l.length i):=own_keepB (hR.own i v hv) fun x hx hx2=>hk _ za hx2
  obtain⟨Ai,ci,e,hr⟩:=ho.rd1;refine⟨Ai,ci,?_,hr⟩
  rw[aX w' g2 i _ _ _ hbl,hv,e]
 ·exact zAh (hup.trans h.up)
def GivesW2(A:Option Addr)(c:Nat)(l:List Rg)(w:World)(e:Ending)(w':World):Prop:=
 ∃r1 r2 g1 g2 AL cL,e=.returned (wv A c r1 r2 g1 g2 AL cL l) /\
  (∀w'':World,(∀x,w.heap.size<=x->x<w'.heap.size->w''.heap[x]?=w'.heap[x]?)->Rgs w'' A l->WR w'' A r1 r2 g1 g2 AL l)/\Below w.heap.size w w'
theorem newWorld2_c(A:Option Addr)(c:Nat)(l:List Rg)(w:World)(g:GoodR l)(h:Rgs w A l): Calls Tryz.prog 86 #[.slice A l.length c] w (GivesW2 A c l w):=by
 have hn:=g.len;obtain⟨b,o,rfl,hb,hc⟩:=h.at_ (List.length_pos_iff.2 g.ne);have HC:=zq hc;clear hc
 go_enter Tryz.func86,Tryz.ntmps86;go_wp2;refine region1 hn rfl zb zb zb rfl zd ⟨_,_,_,rfl⟩ ⟨_,_,_,rfl⟩ ⟨_,_,_,rfl⟩ ⟨_,_,_,rfl⟩ ⟨_,_,_,rfl⟩ ⟨_,_,_,rfl⟩ ⟨_,_,_,rfl⟩ ⟨_,_,_,rfl⟩ ⟨_,_,_,rfl⟩ ⟨_,_,_,rfl⟩ ⟨_,_,_,rfl⟩ ⟨_,_,_,rfl⟩ zb zb zb zb zb zb zb zb zb zb zb ?_;intro r1 r2 g1 g2 s vals w1 hnw v0 v1 v2 v3 v4 v5 v6 v7 v8 v9 v10;simp[zAj,Act.put,v0,v1,v2,v3,v4,v5,v6,v7,v8,v9,v10,List.range_succ]
 clear v0 v1 v2 v3 v4 v5 v6 v7 v8 v9 v10 vals;rw[upArr_0]at hnw;obtain⟨W0,hW0⟩:∃W0,W0=w.alloc (.cells #[zAm,.map none,zAm,.map none,zAm,zAm] 103):=⟨_,rfl⟩;obtain⟨B,hB⟩:∃B,B=W0.heap.size:=⟨_,rfl⟩;rw[<-hW0,<-hB]at hnw;have hBw:w.heap.size<B:=by rw[hB,hW0];simp
 have hbW:Below w.heap.size w W0:=by rw[hW0];exact(aJ _ _).alloc (aE _) _
 have hbB:b<B:=za
 have hc:∀i (h:i<l.length),W0.cell? ⟨b,o+i*2,none⟩=some (.string (l[i]).nm)/\W0.cell? ⟨b,o+i*2+1,none⟩=some (.string (l[i]).par):=fun i hi =>
  ⟨(hbW.cell hb).trans (HC.o i hi).1,(hbW.cell hb).trans (HC.o i hi).2⟩
 have HCW:=zq hc;have HWB:=zq (And.intro hW0 hB);have HbW:=zq hbW;clear hc hW0 hB hbW HC;go_wp2
 go_loopg[25] l.length (NwRel1 W0 l B (.slice (some ⟨b,o,none⟩) l.length c) r1 r2 g1 g2 s)
 case atStart=>exact⟨0,za,rfl,hnw⟩
 clear hnw
 case round =>
  obtain⟨k,hk,rfl,hnw⟩:=hrel;have HK:=zq hk;have HN:=zq hnw;have hk1:k<=l.length:=za;have hsl:s<wr.heap.size:=zAh hnw.box;have hbr:b<wr.heap.size:=by have:=hnw.b5;omega
  have hs1:=hnw.c1;clear hk hnw
  by_cases hlt:k<l.length
  ·have hc0:wr.cell? ⟨b,o+k*2,none⟩=some (.string (l[k]).nm):=(HN.o.below.cell hbB).trans (HCW.o k hlt).1
   have hc1:wr.cell? ⟨b,o+k*2+1,none⟩=some (.string (l[k]).par):=(HN.o.below.cell hbB).trans (HCW.o k hlt).2;have HN2:=zq (HN.o.alloc (.cells #[.string (l[k]).nm,.string (l[k]).par] 97));obtain⟨w3,hrun,hm3,hg3,hs3⟩:=zAS tMap kStr HN2.o.m1 (l[k]).nm (.int .i64 (k:Int));have HN3:=zq (HN2.o.map1 hm3 hg3);have hr0:=zAH hlt;have HR0:=zq hr0;clear hm3 hg3 hs3 hr0 HN HN2;go_wp2
   go_roundg (gk-1)
   case measure=>have:=HK.o;omega
   case rel =>
    refine⟨k+1,zh,zi,?_⟩
    have:=HN3.o;rw[<-HR0.o]at this;exact this
  ·obtain rfl:k=l.length:=by omega
   clear HK hk1 hlt hs1;have hmk:=zCG _ _ elBool l.length za za rfl;go_wp2;clear hmk;have HN2:=zq (HN.o.alloc (.cells (Array.replicate l.length (.bool false)) 4))
   have hp0:(wr.alloc (.cells (Array.replicate l.length (.bool false)) 4)).heap[wr.heap.size]?=some (.cells (zCu l 0) 4 (0,0)):=by
    rw[<-parArr_0];exact aK _ _
   have HP0:=zq hp0;have hgpB:B<=wr.heap.size:=HN.o.size;clear HN hsl hbr hp0;generalize hw2:wr.alloc (.cells (Array.replicate l.length (.bool false)) 4)=w2 at HN2 HP0;obtain⟨gp,hgp⟩:∃gp,gp=wr.heap.size:=⟨_,rfl⟩;rw[<-hgp]at HP0 hgpB ⊢;clear hw2 hgp
   go_loopg[41] l.length (NwRel2 W0 l B (.slice (some ⟨b,o,none⟩) l.length c) r1 r2 g1 g2 s gp)
   case atStart=>exact⟨0,za,rfl,HN2.o,HP0.o⟩
   clear HN2 HP0
   case round =>
    obtain⟨k,hk,rfl,hnw,hpa⟩:=hrel;have HK:=zq hk;have HN:=zq hnw;have HP:=zq hpa;have hk1:k<=l.length:=za;have hsl:s<wr.heap.size:=zAh hnw.box;have hg1l:g1<wr.heap.size:=zAh hnw.up;have hgpl:gp<wr.heap.size:=zAh hpa;have hbr:b<wr.heap.size:=by have:=hnw.b5;omega
    have hs1:=hnw.c1;have hs4:=hnw.c4;clear hk hnw hpa
    by_cases hlt:k<l.length
    ·have hc0:wr.cell? ⟨b,o+k*2,none⟩=some (.string (l[k]).nm):=(HN.o.below.cell hbB).trans (HCW.o k hlt).1
     have hc1:wr.cell? ⟨b,o+k*2+1,none⟩=some (.string (l[k]).par):=(HN.o.below.cell hbB).trans (HCW.o k hlt).2;have hcu:wr.cell? ⟨g1,k,none⟩=some (.int .i64 0):=by rw[HN.o.cu,zDk _ _ _ hlt];simp[upTo]
     have hfu:=HN.o.fu k;have N1:=HN.o.setUp k (.int .i64 (-1));have hs1':=N1.c1;have hs4':=N1.c4
     have hcu':(wr.setCell ⟨g1,k,none⟩ (.int .i64 (-1))).cell? ⟨g1,k,none⟩=some (.int .i64 (-1)):=by
      rw[N1.cu,Array.getElem?_setIfInBounds_self,aD (by rw[zDl];exact hlt)]
     have hfu':=N1.fu k;have HN1:=zq N1;clear N1
     have hgp1:(wr.setCell ⟨g1,k,none⟩ (.int .i64 (-1))).heap[gp]?=some (.cells (zCu l k) 4 (0,0)):=by
      rw[dY wr ⟨g1,k,none⟩ gp _ (zAA HP.o HN.o.up zc)];exact HP.o
     have HP1:=zq hgp1;clear hgp1
     by_cases hp:(l[k]).par=emp
     ·have he:=zAv hp
      have hu:=up_none hlt hp
      have HF:Hid ((upArr l k).setIfInBounds k (.int .i64 (-1))=upArr l (k+1)):=by
       show _=_
       rw[<-upArr_set l k hlt,upI,hu]
      have HG:=zq (parArr_none l k hu);clear hp hu;go_wp2
      go_roundg (gk-1)
      case measure=>have:=HK.o;omega
      case rel =>
       refine⟨k+1,zh,zi,?_,?_⟩
       ·have:=HN1.o.alloc (.cells #[.string (l[k]).nm,.string (l[k]).par] 97)
        rw[HF.o]at this;exact this
       ·rw[HG.o]
        exact zAF HP1.o
     ·have he:=zAx hp
      obtain⟨j,hj,hu,hnm⟩:=g.up_some hlt hp;have hlk:=zAp tMap kStr zInt (HN1.o.m1.alloc (.cells #[.string (l[k]).nm,.string (l[k]).par] 97)) (l[k]).par false;have hix:idx l (l[k]).par=some j:=by rw[hnm];exact g.inc.idx hj
      rw[mp_idx g.inc,hix]at hlk;simp only[eF,if_false,aH,eE]at hlk;have N2:=HN1.o.setUp k (.int .i64 (j:Int));have hs4'':=N2.c4
      have hcu'':((wr.setCell ⟨g1,k,none⟩ (.int .i64 (-1))).setCell ⟨g1,k,none⟩ (.int .i64 (j:Int))).cell? ⟨g1,k,none⟩=some (.int .i64 (j:Int)):=by
       rw[N2.cu,Array.getElem?_setIfInBounds_self,aD (by rw[Array.size_setIfInBounds,zDl];exact hlt)]
      have hgp2:((wr.setCell ⟨g1,k,none⟩ (.int .i64 (-1))).setCell ⟨g1,k,none⟩ (.int .i64 (j:Int))).heap[gp]?=some (.cells (zCu l k) 4 (0,0)):=by
       rw[dY _ ⟨g1,k,none⟩ gp _ (zAA HP1.o HN1.o.up zc)];exact HP1.o
      have hcp:((wr.setCell ⟨g1,k,none⟩ (.int .i64 (-1))).setCell ⟨g1,k,none⟩ (.int .i64 (j:Int))).cell? ⟨gp,j,none⟩=some (.bool (parK l k j)):=by
       rw[aX _ gp j _ _ _ hgp2,zDi _ _ _ hj]
      have hfp:=cU _ gp j _ _ hgp2;have HN2:=zq N2;have HP2:=zq hgp2
      have HF:Hid (((upArr l k).setIfInBounds k (.int .i64 (-1))).setIfInBounds k (.int .i64 (j:Int))=upArr l (k+1)):=by
       show _=_
       rw[Array.setIfInBounds_setIfInBounds,<-upArr_set l k hlt,upI,hu]
      have HG:=zq (parArr_some l k j hu hj);clear hp hu hnm hix N2 hgp2;go_wp2
      go_roundg (gk-1)
      case measure=>have:=HK.o;omega
      case rel =>
       refine⟨k+1,zh,zi,?_,?_⟩
       ·have:=(HN2.o.setFar HP2.o hgpB zc zc zc j (.bool true)).alloc (.cells #[.string (l[k]).nm,.string (l[k]).par] 97)
        rw[HF.o]at this;exact this
       ·rw[<-HG.o]
        exact zAF (eC _ gp j _ _ _ HP2.o)
    ·obtain rfl:k=l.length:=by omega
     clear HK hk1 hlt hs1 hs4;go_wp2
     go_loopg[72] l.length (NwRel3 W0 l B (.slice (some ⟨b,o,none⟩) l.length c) r1 r2 g1 g2 s gp)
     case atStart=>exact⟨0,zAm,_,za,rfl,HN.o,HP.o,zAs.nil _ _ _ _ _,RowsI.nil _ _ _ _⟩
     clear HN HP hsl hg1l hgpl hbr
     case round =>
      obtain⟨i,lv,bl,hk,rfl,hnw,hpa,hlv,hrows⟩:=hrel;have HK:=zq hk;have HN:=zq hnw;have HP:=zq hpa;have HL:=zq hlv;have HRw:=zq hrows;have hk1:i<=l.length:=za;have hsl:s<wr.heap.size:=zAh hnw.box;have hg1l:g1<wr.heap.size:=zAh hnw.up;have hg2l:g2<wr.heap.size:=zAh hnw.bl;have hgpl:gp<wr.heap.size:=zAh hpa;have hbr:b<wr.heap.size:=by have:=hnw.b5;omega
      clear hk hnw hpa hlv hrows;obtain⟨gk1,hgk1⟩:∃gk1,gk1=gk:=⟨_,rfl⟩;subst hgk1;obtain⟨w5,hw5⟩:∃w5:World,w5=wr:=⟨_,rfl⟩;subst hw5
      by_cases hlt:i<l.length
      ·have hc0:w5.cell? ⟨b,o+i*2,none⟩=some (.string (l[i]).nm):=(HN.o.below.cell hbB).trans (HCW.o i hlt).1
       have hc1:w5.cell? ⟨b,o+i*2+1,none⟩=some (.string (l[i]).par):=(HN.o.below.cell hbB).trans (HCW.o i hlt).2
       have hcp:w5.cell? ⟨gp,i,none⟩=some (.bool (zAB l i)):=by
        rw[aX _ gp i _ _ _ HP.o,zDi _ _ _ hlt,parK_isPar g hlt]
       have HN2:=zq (HN.o.alloc (.cells #[.string (l[i]).nm,.string (l[i]).par] 97));have HL2:=zq (HL.o.alloc (.cells #[.string (l[i]).nm,.string (l[i]).par] 97));have HR2:=zq (HRw.o.alloc (.cells #[.string (l[i]).nm,.string (l[i]).par] 97));have HP2:=zq (zAF (o:=(.cells #[.string (l[i]).nm,.string (l[i]).par] 97)) HP.o)
       cases hq:zAB l i with
       |true =>
        rw[hq]at hcp;have HQ:=zq hq;clear hq HN HL HRw HP;go_wp2
        go_roundg (gk1-1)
        case measure=>have:=HK.o;omega
        case rel =>
         refine⟨i+1,lv,bl,zh,zi,?_,HP2.o,?_,?_⟩
         ·have e:lmF l (i+1)=lmF l i:=by funext x;rw[lmF,aD HQ.o]
          rw[e];exact HN2.o
         ·rw[gath_no (by simp[HQ.o])];exact HL2.o
         ·exact HR2.o.congr fun x _=>(belowK_par HQ.o x).symm
       |false =>
        rw[hq]at hcp;have HQ:=zq hq;have hlvf:=HL2.o.rd1;obtain⟨AL,cL,hlve,_⟩:=hlvf;have hs2:w5.cell? ⟨s,2,none⟩=some (.slice AL (zBF l (fun i=>!zAB l i) i).length cL):=by rw[HN.o.c2,hlve]
        have hs3:=HN.o.c3;have hgl:=gath_le l (fun i=>!zAB l i) i;have HGL:=zq (gath_leafTo l i);obtain⟨w6,hrun,hm6,hg6,hs6⟩:=zAS tMap kStr HN2.o.m2 (l[i]).nm (.int .i64 ((zBF l (fun i=>!zAB l i) i).length:Int));have N6:=HN2.o.map2 hm6 hg6
        have k6:∀{x:Nat}{cs:Array Value}{t:TypeId},(w5.alloc (.cells #[.string (l[i]).nm,.string (l[i]).par] 97)).heap[x]?=some (.cells cs t (0,0))->w6.heap[x]?=some (.cells cs t (0,0)):=fun hx =>
         (hg6.block _ (zAh hx) fun e2=>zAi HN2.o.m2 hx (by injection e2)).trans hx
        have L6:zAs encS 1 w6 B 9 lv (zBF l (fun i=>!zAB l i) i):=HL2.o.grown hg6 (.inr (own_ne_map HL2.o HN2.o.m2));have R6:=HR2.o.keepT (w':=w6) fun x cs hx=>(k6 hx).trans hx.symm
        have P6:=k6 HP2.o;have hbx6:=k6 (aK w5 (.cells #[.string (l[i]).nm,.string (l[i]).par] 97));have hbx0:w6.cell? ⟨w5.heap.size,0,none⟩=some (.string (l[i]).nm):=box2_0 hbx6;have hs26:w6.cell? ⟨s,2,none⟩=some (.slice AL (zBF l (fun i=>!zAB l i) i).length cL):=by rw[N6.c2,hlve]
        have hsz6:w6.heap.size=w5.heap.size+1:=by rw[hs6];simp
        have hsl6:s<w6.heap.size:=zAh N6.box;have hbl6:w5.heap.size<w6.heap.size:=za;have hB6:B<=w6.heap.size:=N6.size;have HN6:=zq N6;have HL6:=zq L6;have HR6:=zq R6;have HP6:=zq P6;have HLE:=zq hlve;rw[hlve]at L6;clear hq HN HL HRw HP N6 R6 P6 hm6 hg6 hs6 k6 hbx6 hlve hsz6 HN2 HL2 HR2 HP2
        go_wp2_with (at_builtin;refine zBC _ _ _ elStr rfl rfl B _ (zBF l (fun i=>!zAB l i) i) rfl (L6.alloc _) w6.heap.size 1 (l[i]).nm rfl (aK _ _) rfl zt zm za ze ?_;intro A7 c7 w7 hown7 hg7 hb7 hat7;have N7:=(HN6.o.alloc (.cells #[.string (l[i]).nm] 9)).growOwn (L6.alloc _) hg7 zc zc (.inl zc);have hs27:=N7.c2;have hf27:=N7.f2';rw[HLE.o]at hs27)
        have k7:∀{x:Nat}{cs:Array Value}{t:TypeId},t≠9->w6.heap[x]?=some (.cells cs t (0,0))->w7.heap[x]?=some (.cells cs t (0,0)):=fun ht hx =>
         (hg7.block _ (zAh (zAF (o:=.cells #[.string (l[i]).nm] 9) hx)) fun e2=>by
          obtain⟨_,cs,hcs⟩:=zAM (L6.alloc (.cells #[.string (l[i]).nm] 9)) e2.symm;exact zAA (zAF (o:=.cells #[.string (l[i]).nm] 9) hx) hcs ht rfl).trans (zAF hx)
        have R7:=HR6.o.keepT (w':=w7) fun x cs hx=>(k7 zc hx).trans hx.symm
        have P7:=k7 zc HP6.o;have N8:=N7.setLv (.slice A7 ((zBF l (fun i=>!zAB l i) i).length+1) c7)
        have k8:∀{x:Nat}{cs:Array Value}{t:TypeId},t≠103->w7.heap[x]?=some (.cells cs t (0,0))->(w7.setCell ⟨s,2,none⟩ (.slice A7 ((zBF l (fun i=>!zAB l i) i).length+1) c7)).heap[x]?=some (.cells cs t (0,0)):=fun ht hx =>
         (dY w7 ⟨s,2,none⟩ _ _ (zAA hx N7.box ht)).trans hx
        have R8:=R7.keepT (w':=w7.setCell ⟨s,2,none⟩ (.slice A7 ((zBF l (fun i=>!zAB l i) i).length+1) c7)) fun x cs hx=>(k8 zc hx).trans hx.symm
        have P8:=k8 zc P7
        have L8:zAs encS 1 (w7.setCell ⟨s,2,none⟩ (.slice A7 ((zBF l (fun i=>!zAB l i) i).length+1) c7)) B 9 (.slice A7 ((zBF l (fun i=>!zAB l i) i).length+1) c7) (zBF l (fun i=>!zAB l i) i++[(l[i]).nm]):=
         own_keepT hown7 fun x cs hx=>(k8 zc hx).trans hx.symm
        have HN8:=zq N8;have HR8:=zq R8;have HP8:=zq P8;have HL8:=zq L8;clear N7 R7 P7 N8 R8 P8 L8 k7 k8 hown7 hg7 hb7 hat7 L6 HN6 HR6 HP6 HL6
        have hmf:(fun k'=>if k'=(l[i]).nm then some (Value.int .i64 ((zBF l (fun i=>!zAB l i) i).length:Int)) else lmF l i k')=lmF l (i+1):=by
         funext x
         have e2:lmF l (i+1) x=if x=zCg l i then some (.int .i64 ((zBG l i).length:Int)) else lmF l i x:=by rw[lmF,aW (by rw[HQ.o];simp)]
         rw[e2,zAH hlt,HGL.o]
        have hgf:zBF l (fun i=>!zAB l i) i++[(l[i]).nm]=zBF l (fun i=>!zAB l i) (i+1):=by
         rw[gath_yes (by simp[HQ.o]),zAH hlt]
        rw[hmf]at HN8;rw[hgf]at HL8;clear hmf hgf hs27 hf27 hs26 hbx0 hcp hs2 hs3 hc0 hc1 hsl6 hbl6 hB6 hrun hsl hg1l hg2l hgpl hbr;generalize w7.setCell ⟨s,2,none⟩ (.slice A7 ((zBF l (fun i=>!zAB l i) i).length+1) c7)=w8 at HN8 HR8 HP8 HL8;generalize hlv8:Value.slice A7 ((zBF l (fun i=>!zAB l i) i).length+1) c7=lv8 at HN8 HL8
        go_loopg[12] (l.length+2) (NwRel4 W0 l B (.slice (some ⟨b,o,none⟩) l.length c) r1 r2 g1 g2 s gp i lv8)
        case atStart =>
         refine⟨bl,HN8.o,HP8.o,HL8.o,.inl ⟨i,hlt,rfl,⟨0,rfl⟩,g.ends i hlt,HR8.o.congr fun x _=>?_⟩⟩;unfold under
         cases zBH l (l.length+2) i x<;>simp
        clear HN8 HP8 HL8 HR8
        case round =>
         obtain⟨bl2,hnw,hpa,hlv,hrel⟩:=hrel
         rcases hrel with ⟨y,hy,rfl,hd,hup,hrows⟩|⟨rfl,hrows⟩
         ·obtain⟨m,rfl⟩:∃m,gk=m+1:=by
           cases gk with
           |zero=>exact absurd hup (by simp[upN])
           |succ m=>exact⟨m,rfl⟩
          obtain⟨v,hv⟩:∃v,bl2[y]?=some v:=⟨_,Array.getElem?_eq_getElem (by rw[hrows.size];exact hy)⟩;have hov:=hrows.own y v hv;have hne1:=hrows.ne1 y v hv;obtain⟨Av,cv,hve,_⟩:=hov.rd1
          have hry:(zAQ l i y++if under l i y&&!zBH l (m+1) y y then [((zBF l (fun i=>!zAB l i) i).length:Int)] else [])=zAQ l i y:=by
           simp[zBH]
          have hbl:=belowK_le l i y;rw[hry]at hov hve;rw[hve]at hov hne1 hv;have hs5:=hnw.c5;have hcb:wr.cell? ⟨g2,y,none⟩=some (.slice Av (zAQ l i y).length cv):=by rw[hnw.cb,hv]
          have hfb:=hnw.fb y;have hsl:s<wr.heap.size:=zAh hnw.box;have hg1l:g1<wr.heap.size:=zAh hnw.up;have hg2l:g2<wr.heap.size:=zAh hnw.bl;have hBl:B<=wr.heap.size:=hnw.size;have hy0:(0:Int)<=(y:Int):=za;have hy1:(y:Int)<(l.length:Int):=za
          have hnes:(Value.slice Av (zAQ l i y).length cv).ownBlock≠some s:=fun e2=>by
           obtain⟨_,cs,hcs⟩:=zAM hov e2;exact zAA hnw.box hcs zc rfl
          have hneg2:(Value.slice Av (zAQ l i y).length cv).ownBlock≠some g2:=fun e2=>by
           obtain⟨_,cs,hcs⟩:=zAM hov e2;exact zAA hnw.bl hcs zc rfl
          have HN9:=zq hnw;have HP9:=zq hpa;have HL9:=zq hlv;have HR9:=zq hrows;have HD:=zq hd;have HU:=zq hup;have HV:=zq hv;have HRY:=zq hry;have hLl:(zAQ l i y).length<=200:=za;clear hnw hpa hlv hrows hd hup hv hry hve;go_wp2;refine region26 (L:=zAQ l i y) (B:=B) hLl hy rfl zb zb zb zb zb rfl rfl rfl zd hs5 hcb hfb hov hBl hnes hneg2 ⟨_,_,_,rfl⟩ ⟨_,_,_,rfl⟩ ⟨_,_,_,rfl⟩ ⟨_,_,_,rfl⟩ ⟨_,_,_,rfl⟩ ⟨_,_,_,rfl⟩ ⟨_,_,_,rfl⟩ ⟨_,_,_,rfl⟩ ⟨_,_,_,rfl⟩ ⟨_,_,_,rfl⟩ ⟨_,_,_,rfl⟩ ⟨_,_,_,rfl⟩ ⟨_,_,_,rfl⟩ zb zb zb zb zb zb zb zb zb zb zb ?_
          ·intro A' c' wA vals hoA hgA hat v0 v1 v2 v3 v4 v5 v6 v7 v8 v9 v10 v11
           simp[zAj,Act.put,v0,v1,v2,v3,v4,v5,v6,v7,v8,v9,v10,v11,List.range_succ]
           clear v0 v1 v2 v3 v4 v5 v6 v7 v8 v9 v10 v11 vals;have NA:=(HN9.o.alloc (.cells #[.int .i64 ((zBF l (fun i=>!zAB l i) i).length:Int)] 3)).growOwn (hov.alloc _) hgA zc zc (.inr hne1)
           have kA:∀{x:Nat}{cs:Array Value}{t:TypeId},t≠3->wr.heap[x]?=some (.cells cs t (0,0))->wA.heap[x]?=some (.cells cs t (0,0)):=fun ht hx =>
            (hgA.block _ (zAh (zAF (o:=.cells #[.int .i64 ((zBF l (fun i=>!zAB l i) i).length:Int)] 3) hx)) fun e2=>by
             obtain⟨_,cs,hcs⟩:=zAM hov e2.symm;exact zAA hx hcs ht rfl).trans (zAF hx)
           have RA:=(HR9.o.alloc (.cells #[.int .i64 ((zBF l (fun i=>!zAB l i) i).length:Int)] 3)).push (m:=((zBF l (fun i=>!zAB l i) i).length:Int)) HV.o ze hgA (by rw[HRY.o];exact hoA) (by simpa using hat);have NB:=NA.setBl y (.slice A' ((zAQ l i y).length+1) c')
           have kB:∀{x:Nat}{cs:Array Value}{t:TypeId},t≠68->wA.heap[x]?=some (.cells cs t (0,0))->(wA.setCell ⟨g2,y,none⟩ (.slice A' ((zAQ l i y).length+1) c')).heap[x]?=some (.cells cs t (0,0)):=fun ht hx =>
            (dY wA ⟨g2,y,none⟩ _ _ (zAA hx NA.bl ht)).trans hx
           have RB:=RA.keepT (w':=wA.setCell ⟨g2,y,none⟩ (.slice A' ((zAQ l i y).length+1) c')) fun x cs hx=>(kB zc hx).trans hx.symm
           have PB:=kB zc (kA zc HP9.o);have LB:=own_keepT HL9.o (w':=wA.setCell ⟨g2,y,none⟩ (.slice A' ((zAQ l i y).length+1) c')) fun x cs hx=>(kB zc (kA zc hx)).trans hx.symm
           have hs4:=NB.c4
           have hcu:(wA.setCell ⟨g2,y,none⟩ (.slice A' ((zAQ l i y).length+1) c')).cell? ⟨g1,y,none⟩=some (.int .i64 (upI l y)):=by
            rw[NB.cu,zDk _ _ _ hy];simp[upTo,hy]
           have HNB:=zq NB;have HRB:=zq RB;have HPB:=zq PB;have HLB:=zq LB;clear NA kA RA NB kB RB PB LB HN9 HP9 HL9 HR9 HV hoA hgA hat hs5 hcb hfb hov hsl hg1l hg2l hBl hnes hneg2 hne1;generalize wA.setCell ⟨g2,y,none⟩ (.slice A' ((zAQ l i y).length+1) c')=wB at HNB HRB HPB HLB hs4 hcu;go_wp2;obtain⟨d,hd⟩:=HD.o;have huy:under l i y=true:=upN_underF (g.ends i hlt) hd;have hup:=HU.o;rw[upN]at hup
           cases hu:up l y with
           |none =>
            go_roundg m
            case measure=>omega
            case rel =>
             refine⟨_,HNB.o,HPB.o,HLB.o,.inr ⟨by rw[upI,hu],HRB.o.congr fun x _=>?_⟩⟩;rw[belowK_leaf HQ.o,<-HGL.o]
             by_cases e:x=y
             ·subst e
              simp[zBH,huy]
             ·have e':¬y=x:=fun h=>e h.symm
              simp[zBH,hu,e,e']
           |some y' =>
            have hyl:=(up_lt hu).2;have hnu:=not_under_up g (f:=m) hy hu;rw[hu]at hup
            go_roundg m
            case measure=>omega
            case rel =>
             refine⟨_,HNB.o,HPB.o,HLB.o,.inl ⟨y',hyl,by rw[upI,hu],⟨d+1,by rw[upN_add,hd];simp[upN,hu]⟩,hup,HRB.o.congr fun x _=>?_⟩⟩
             by_cases e:x=y
             ·subst e
              simp[zBH,huy,hnu]
             ·have e':¬y=x:=fun h=>e h.symm
              simp[zBH,hu,e,e']
         ·have HNE:=zq hnw
          have HPE:=zq hpa;have HLE2:=zq hlv;have HRE:=zq hrows;clear hnw hpa hlv hrows;go_wp2
          go_roundg (gk1-1)
          case measure=>have:=HK.o;omega
          case rel=>exact⟨i+1,lv8,bl2,zh,zi,HNE.o,HPE.o,HLE2.o,HRE.o⟩
      ·obtain rfl:i=l.length:=by omega
       clear HK hk1 hlt;have hs0:w5.cell? ⟨s,0,none⟩=some (.slice (some ⟨b,o,none⟩) l.length c):=by rw[aX w5 s 0 _ _ _ HN.o.box];rfl
       have hs1:=HN.o.c1;have hs2:=HN.o.c2;have hs3:=HN.o.c3;have hs4:=HN.o.c4;have hs5:=HN.o.c5;obtain⟨AL,cL,hlve,hrl⟩:=HL.o.rd1;rw[hlve]at hs2
       have hblk:w5.heap[w.heap.size]?=some (.cells #[zAm,.map none,zAm,.map none,zAm,zAm] 103 (0,0)):=by
        rw[HN.o.below.block _ hBw,HWB.o.1];exact aK _ _
       have HBK:=zq hblk;have hd0:w5.cell? ⟨w.heap.size,0,none⟩=some zAm:=by rw[aX w5 _ 0 _ _ _ hblk];rfl
       have hd1:w5.cell? ⟨w.heap.size,1,none⟩=some (.map none):=by rw[aX w5 _ 1 _ _ _ hblk];rfl
       have hd2:w5.cell? ⟨w.heap.size,2,none⟩=some zAm:=by rw[aX w5 _ 2 _ _ _ hblk];rfl
       have hd3:w5.cell? ⟨w.heap.size,3,none⟩=some (.map none):=by rw[aX w5 _ 3 _ _ _ hblk];rfl
       have hd4:w5.cell? ⟨w.heap.size,4,none⟩=some zAm:=by rw[aX w5 _ 4 _ _ _ hblk];rfl
       have hd5:w5.cell? ⟨w.heap.size,5,none⟩=some zAm:=by rw[aX w5 _ 5 _ _ _ hblk];rfl
       have hf0:=cU w5 _ 0 _ _ hblk;have hf1:=cU w5 _ 1 _ _ hblk;have hf2:=cU w5 _ 2 _ _ hblk;have hf3:=cU w5 _ 3 _ _ hblk;have hf4:=cU w5 _ 4 _ _ hblk;have hf5:=cU w5 _ 5 _ _ hblk;clear hblk;go_wp2;refine aC (v:=wv (some ⟨b,o,none⟩) c r1 r2 g1 g2 AL cL l) ?_ rfl ?_
       ·simp[results,Tryz.results86,go_sem,wv,hd0,hd1,hd2,hd3,hd4,hd5]
       ·have hbl:Below w.heap.size w w5:=HbW.o.trans (HN.o.below.mono za)
        refine⟨r1,r2,g1,g2,AL,cL,rfl,fun w'' hfar hrg=>HN.o.wr HL.o hlve HRw.o hrg fun x hx hx2=>?_,?_⟩
        ·rw[hfar x za (by simp only[World.size_setCell];exact hx2)]
         exact setCells6 _ _ _ _ _ _ x za
        ·exact(((((hbl.setCell (p:=⟨w.heap.size,0,none⟩) (aE _) _).setCell (p:=⟨w.heap.size,1,none⟩) (aE _) _).setCell (p:=⟨w.heap.size,2,none⟩) (aE _) _).setCell (p:=⟨w.heap.size,3,none⟩) (aE _) _).setCell (p:=⟨w.heap.size,4,none⟩) (aE _) _).setCell (p:=⟨w.heap.size,5,none⟩) (aE _) _
theorem newWorld_c(A:Option Addr)(c:Nat)(l:List Rg)(w:World)(g:GoodR l)(h:Rgs w A l): Calls Tryz.prog 86 #[.slice A l.length c] w (GivesW A c l w):=
 (newWorld2_c A c l w g h).mono fun _ _ ⟨r1,r2,g1,g2,AL,cL,he,hf,hb⟩=>⟨r1,r2,g1,g2,AL,cL,he,hf _ (fun _ _ _=>rfl) (h.below hb),hb⟩
end Go.Proofs.YtbbchlpccgkikaaGreatDoor
