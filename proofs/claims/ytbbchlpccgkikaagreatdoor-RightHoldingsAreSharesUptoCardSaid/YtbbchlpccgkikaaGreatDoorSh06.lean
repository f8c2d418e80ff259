/- Parts of the proof, joined: Package right (places): checkArea and in of a world. Plain zAc for t. -/
import Derived.Test.YtbbchlpccgkikaaGreatDoorSh05
import Derived.Deep.MidRow
import Derived.Laws.CopyRow
set_option maxRecDepth 100000
set_option maxHeartbeats 8000000
namespace Go.Proofs.YtbbchlpccgkikaaGreatDoor
open Go.RowKit Dw
def CkRel(W:World)(l:List Rg)(a:List Ar)(m:Nat)(i:Value)(wr:World):Prop:=
 ∃k:Nat,k+m=a.length/\i=.int .i64 k/\(∀j,j<k->zBw l a j=none)/\Below W.heap.size W wr
theorem checkArea_c(A A2:Option Addr)(c r1 r2 g1 g2:Nat)(AL:Option Addr)(cL c2:Nat)(l:List Rg)(a:List Ar)(w:World)(g:GoodR l)(h:WR w A r1 r2 g1 g2 AL l)(h2:Ars w A2 a): Calls Tryz.prog 87 #[wv A c r1 r2 g1 g2 AL cL l,.slice A2 a.length c2] w (zAg (.int .i64 (zCX l a)) w):=by
 generalize hres:zCX l a=res;have HR:=zq hres;clear hres;unfold wv
 by_cases hlen:100<a.length
 ·go_enter Tryz.func87,Tryz.ntmps87
  go_wp2;go_ret
  refine zAg.mk (zCp ?_) ((aJ _ _).alloc (aE _) _);rw[<-HR.o];unfold zCX;rw[aD hlen]
 ·have hn2:a.length<=100:=by omega
  go_enter Tryz.func87,Tryz.ntmps87;go_wp2;generalize hW:w.alloc (.cells #[.slice A l.length c,.map (some r1),.slice AL (zBF l (fun i=>!zAB l i) l.length).length cL,.map (some r2),.slice (some ⟨g1,0,none⟩) l.length l.length,.slice (some ⟨g2,0,none⟩) l.length l.length] 103)=W;have hWs:W.heap.size=w.heap.size+1:=by rw[<-hW];simp
  have hWb:Below w.heap.size w W:=zu;have hW1:W.cell? ⟨w.heap.size,1,none⟩=some (.map (some r1)):=by rw[<-hW,aX _ w.heap.size 1 _ _ _ (aK _ _)];rfl
  have hm:zAu Value.string W r1 (mp l l.length):=h.m1.keep (hWb.block _ h.m1.lt);have hr1:r1<W.heap.size:=hm.lt;have h2':=h2.below hWb;have HM:=zq hm;have HWb:=zq hWb;clear hW hWb hm h h2
  go_loopg[14] a.length (CkRel W l a)
  case atStart=>exact⟨0,za,rfl,fun j hj=>absurd hj za,aJ _ _⟩
  case round =>
   obtain⟨k,hk,rfl,hpre,hbel⟩:=hrel;have HK:=zq hk;have HP:=zq hpre;have HB:=zq hbel;have hk1:k<=a.length:=za;have hws:w.heap.size<wr.heap.size:=by have:=hbel.size;omega
   have hs1:wr.cell? ⟨w.heap.size,1,none⟩=some (.map (some r1)):=(hbel.cell (by show w.heap.size<W.heap.size;omega)).trans hW1;clear hk hpre hbel
   by_cases hlt:k<a.length
   ·obtain⟨b,o,rfl,hb,hc⟩:=h2'.at_ za
    have hbr:b<wr.heap.size:=aB hb HB.o.size;have hc0:wr.cell? ⟨b,o+k*2,none⟩=some (.string (a[k]).rg):=(HB.o.cell hb).trans (hc k hlt).1;have hc1:wr.cell? ⟨b,o+k*2+1,none⟩=some (.bool (a[k]).out):=(HB.o.cell hb).trans (hc k hlt).2;have hr0:=rgAt_of hlt;have hlk:=zAp tMap kStr zInt ((HM.o.keep (HB.o.block _ hr1)).alloc (.cells #[.string (a[k]).rg,.bool (a[k]).out] 99)) (a[k]).rg true;rw[mp_idx g.inc]at hlk;have HB2:=zq (HB.o.alloc HB.o.size (.cells #[.string (a[k]).rg,.bool (a[k]).out] 99))
    cases hq:idx l (a[k]).rg with
    |none =>
     rw[hq]at hlk;simp only[if_true,Option.map_none,Option.getD_none,eD]at hlk
     have hres:res=5:=by
      rw[<-HR.o];unfold zCX;rw[aW hlen,zBf hlt HP.o (x:=5) (by unfold zBw;rw[hr0,aD hq])]
     have HS:=zq hres;clear hc hr0 hq hres HB;go_wp2;go_ret
     exact zAg.mk (zCp HS.o.symm) (zAa HWb.o HB2.o)
    |some x =>
     rw[hq]at hlk;simp only[if_true,aH,eE,Option.isSome_some]at hlk;have HQ:Hid (¬idx l (a[k]).rg=none):=by show ¬_;rw[hq];simp
     clear hq
     by_cases hk0:0<k
     ·have hd:decide ((0:Int)<(k:Int))=true:=by simp;omega
      have hcp:wr.cell? ⟨b,o+(k-1)*2,none⟩=some (.string (a[k-1]).rg):=(HB.o.cell hb).trans (hc (k-1) za).1;have hr1':=rgAt_of (a:=a) (i:=k-1) za
      by_cases hle:sle (a[k]).rg (a[k-1]).rg=true
      ·have hleb:=hle
       unfold sle at hleb
       have hres:res=8:=by
        rw[<-HR.o];unfold zCX;rw[aW hlen,zBf hlt HP.o (x:=8) (by unfold zBw;rw[hr0,hr1',aW HQ.o,aD ⟨hk0,hle⟩])]
       have HS:=zq hres;clear hc hr0 hr1' hres hle HB;go_wp2;go_quiet(fail);go_wp2;go_ret
       exact zAg.mk (zCp HS.o.symm) (zAd (zAa HWb.o HB2.o) _)
      ·have hle':sle (a[k]).rg (a[k-1]).rg=false:=by simpa using hle
       have hleb:=hle';unfold sle at hleb
       have HF:Hid (zBw l a k=none):=by
        show zBw l a k=none
        unfold zBw;rw[hr0,hr1',aW HQ.o,aW (fun hh=>hle hh.2)]
       clear hc hr0 hr1' hle hle' HB;exact tat
     ·have hd:decide ((0:Int)<(k:Int))=false:=by simp;omega
      have HF:Hid (zBw l a k=none):=by
       show zBw l a k=none
       unfold zBw;rw[hr0,aW HQ.o,aW za]
      clear hc hr0 HB;exact tat
   ·have hres:res=0:=by
     rw[<-HR.o];unfold zCX;rw[aW hlen,zBl (fun j hj=>HP.o j za)]
    have HS:=zq hres;clear hres;go_wp2;go_ret
    exact zAg.mk (zCp HS.o.symm) (zAa HWb.o HB.o)
end Go.Proofs.YtbbchlpccgkikaaGreatDoor
namespace Dw
open Go Go.RowKit
def bArr(M:List Bool)(k:Nat):Array Value:=((List.range M.length).map fun i=>Value.bool (decide (i<k)&&M.getD i false)).toArray
theorem bArr_size(M:List Bool)(k:Nat):(bArr M k).size=M.length:=by simp[bArr]
theorem zCr(M:List Bool)(k:Nat){i:Nat}(hi:i<M.length):(bArr M k)[i]?=some (.bool (decide (i<k)&&M[i])):=by simp[bArr,hi]
theorem bArr_0(M:List Bool):Array.replicate M.length (Value.bool false)=bArr M 0:=by
 apply Array.toList_inj.1
 rw[cX]
 apply dU<;>simp[bArr]
theorem bArr_set(M:List Bool){k:Nat}(hk:k<M.length):(bArr M k).setIfInBounds k (.bool M[k])=bArr M (k+1):=by
 apply Array.ext_getElem?
 intro i;rw[Array.getElem?_setIfInBounds]
 by_cases h:k=i
 ·subst h
  rw[aD rfl,aD (by rw[bArr_size];exact hk),zCr _ _ hk];simp
 ·rw[aW h]
  by_cases hi:i<M.length
  ·rw[zCr _ _ hi,zCr _ _ hi]
   have:decide (i<k)=decide (i<k+1):=by
    by_cases h2:i<k
    ·rw[aT h2,aT za]
    ·rw[aU h2,aU za]
   rw[this]
  ·rw[Array.getElem?_eq_none (by rw[bArr_size];omega),Array.getElem?_eq_none (by rw[bArr_size];omega)]
theorem bArr_skip(M:List Bool){k:Nat}(hk:k<M.length)(hf:M[k]=false):bArr M (k+1)=bArr M k:=by
 rw[<-bArr_set M hk,hf]
 apply Array.ext_getElem?
 intro i;rw[Array.getElem?_setIfInBounds]
 by_cases h:k=i
 ·subst h
  rw[aD rfl,aD (by rw[bArr_size];exact hk),zCr _ _ hk];simp
 ·rw[aW h]
theorem bArr_rd{w:World}{g:Nat}{M:List Bool}{T:TypeId}(h:w.heap[g]?=some (.cells (bArr M M.length) T (0,0))):Rd1 Value.bool w (some ⟨g,0,none⟩) M:=fun _ =>
 ⟨g,0,rfl,fun i hi=>by
  rw[bJ,aX w g i _ _ _ h,zCr _ _ hi];simp[hi]⟩
def nmK(l:List Rg)(a:List Ar):Nat->Int->Option Value
 |0,_=>none
 |k+1,i=>if i=(match idx l (rgAt a k)with|some x=>(x:Int)|none=>0) then some (.bool (!(a.getD k default).out)) else nmK l a k i
structure GoodA (l:List Rg) (a:List Ar):Prop where
 len:a.length<=100
 at_:∀k (h:k<a.length),∃x,idx l (a[k]).rg=some x
 inj:∀i j (hi:i<a.length) (hj:j<a.length),(a[i]).rg=(a[j]).rg->i=j
theorem goodA_of{l:List Rg}{a:List Ar}(h:zCX l a=0):GoodA l a:=by
 unfold zCX at h
 by_cases hl:100<a.length
 ·rw[aD hl]at h;exact absurd h zc
 ·rw[aW hl]at h
  have hf:∀j,j<a.length->zBw l a j=none:=by
   cases hs:(List.range a.length).findSome? (zBw l a)with
   |none=>exact fun j hj=>List.findSome?_eq_none_iff.1 hs j (List.mem_range.2 hj)
   |some f =>
    rw[hs]at h;obtain⟨j,_,hj⟩:=List.exists_of_findSome?_eq_some hs;have h:f=0:=h;subst h;unfold zBw at hj
    split at hj
    ·injection hj with hj;exact absurd hj zc
    ·split at hj
     ·injection hj with hj;exact absurd hj zc
     ·cases hj
  refine⟨za,fun k hk=>?_,?_⟩
  ·have:=hf k hk
   unfold zBw at this;rw[rgAt_of hk]at this
   cases hx:idx l (a[k]).rg with
   |none=>rw[aD hx]at this;cases this
   |some x=>exact⟨x,rfl⟩
  ·have hinc:Inc (a.map fun x=>(⟨x.rg,emp⟩:Rg)):=by
    intro i hi;rw[dE]at hi;rw[eI,eI];have:=hf (i+1) hi;unfold zBw at this;rw[rgAt_of hi,show i+1-1=i from rfl,rgAt_of za]at this;refine zBq ?_
    cases hb:sle (a[i+1]).rg (a[i]).rg with
    |false=>rfl
    |true =>
     split at this
     ·cases this
     ·rw[aD ⟨za,hb⟩]at this;cases this
   intro i j hi hj e;exact hinc.inj yf yg (by simpa using e)
theorem nmK_find{l:List Rg}{a:List Ar}(g:GoodR l)(ga:GoodA l a){j:Nat}(hj:j<l.length):nmK l a a.length (j:Int)=(findA a (zCg l j)).map fun x=>.bool (!x.out):=by
 have key:∀k,k<=a.length->nmK l a k (j:Int)=(findA (a.take k) (zCg l j)).map fun x=>.bool (!x.out):=by
  intro k
  induction k with
  |zero=>intro _;simp[nmK,findA]
  |succ k ih =>
   intro hk;have hk':k<a.length:=za;obtain⟨x,hx⟩:=ga.at_ k hk';obtain⟨hxl,hxn⟩:=idx_some hx;rw[nmK,ih za,rgAt_of hk',hx];unfold findA;rw[bA hk',List.find?_append]
   by_cases e:(j:Int)=(x:Int)
   ·have e':j=x:=by omega
    subst e';rw[aD rfl]
    have hno:(a.take k).find? (fun y=>decide (y.rg=zCg l j))=none:=by
     rw[List.find?_eq_none];intro y hy;obtain⟨t,ht,rfl⟩:=dO hy
     have ht':t<k:=by
      have:=ht;rw[cC]at this;omega
     rw[aP]
     have hne:(a[t]).rg≠zCg l j:=fun e2=>by
      have:=ga.inj t k za hk' (by rw[e2,zAH hj,hxn]);omega
     simpa using hne
    rw[hno];have:decide ((a[k]).rg=zCg l j)=true:=by rw[zAH hj,hxn];simp
    simp[this,List.getD,hk']
   ·rw[aW e]
    have:decide ((a[k]).rg=zCg l j)=false:=by
     rw[zAH hj];refine aU fun e2=>e ?_
     have:x=j:=g.nm_inj hxl hj (by rw[<-hxn]at e2;exact e2);omega
    simp[this]
 have:=key a.length (aE _)
 rwa [aG]at this
def inL(l:List Rg)(a:List Ar):List Bool:=(zAf l).map (lies l a)
end Dw
namespace Go.Proofs.YtbbchlpccgkikaaGreatDoor
open Go.RowKit Dw
abbrev mkI:Int->Value:=fun n=>Value.int .i64 n
theorem kInt:KeyT Tryz.prog 3 mkI:=keyT_int Tryz.underlying3
theorem tMapB:Tryz.prog.underlying 237=some (.map 3 4):=Tryz.underlying237
theorem zBool(w:World):(zeroValue 4).run Tryz.prog w=.ok (.bool false) w:=zb
def InRel1(W:World)(l:List Rg)(a:List Ar)(m:Nat)(i:Value)(wr:World):Prop:=
 ∃k:Nat,k+m=a.length/\i=.int .i64 k/\zAu mkI wr W.heap.size (nmK l a k)/\Below W.heap.size W wr
def InRel2(W:World)(l:List Rg)(a:List Ar)(go:Nat)(m:Nat)(i:Value)(wr:World):Prop:=
 ∃k:Nat,k+m=(inL l a).length/\i=.int .i64 k/\zAu mkI wr W.heap.size (nmK l a a.length)/\wr.heap[go]?=some (.cells (bArr (inL l a) k) 4 (0,0))/\Below W.heap.size W wr
def InRel3(w5:World)(l:List Rg)(a:List Ar)(res:Bool)(m:Nat)(kk:Value)(wr:World):Prop:=
 wr=w5/\((∃y,y<l.length/\kk=.int .i64 (y:Int)/\upN l m y=none/\liesF l a m y=res)\/(kk=.int .i64 (-1)/\res=false))
def GivesL(M:List Bool)(w:World)(e:Ending)(w':World):Prop:=
 ∃go c,e=.returned (.slice (some ⟨go,0,none⟩) M.length c)/\w'.heap[go]?=some (.cells (bArr M M.length) 4 (0,0))/\Below w.heap.size w w'
theorem gath_get(l:List Rg){n:Nat}(hn:n<(zBF l (fun i=>!zAB l i) l.length).length)(hm:n<(zAf l).length):(zBF l (fun i=>!zAB l i) l.length)[n]=zCg l (zAf l)[n]:=by
 have e:zBF l (fun i=>!zAB l i) l.length=(zAf l).map (zCg l):=rfl;simp only[e,eI]
theorem gath_len(l:List Rg)(a:List Ar):(zBF l (fun i=>!zAB l i) l.length).length=(inL l a).length:=by
 have e:zBF l (fun i=>!zAB l i) l.length=(zAf l).map (zCg l):=rfl;rw[e,inL,dE,dE]
theorem map_ne_cells'{κ:Type}[DecidableEq κ]{mk:κ->Value}{w:World}{r g:Nat}{f:κ->Option Value}{c:Array Value}{t:TypeId}{fr:Nat×Nat}(hm:zAu mk w r f)(hg:w.heap[g]?=some (.cells c t fr)):g≠r:=fun e=>by
 obtain⟨es,clk,L,hr,_⟩:=hm;rw[<-e,hg]at hr;cases hr
theorem in_c(A A2:Option Addr)(c r1 r2 g1 g2:Nat)(AL:Option Addr)(cL c2:Nat)(l:List Rg)(a:List Ar)(w:World)(g:GoodR l)(ga:GoodA l a)(h:WR w A r1 r2 g1 g2 AL l)(h2:Ars w A2 a): Calls Tryz.prog 88 #[wv A c r1 r2 g1 g2 AL cL l,.slice A2 a.length c2] w (GivesL (inL l a) w):=by
 unfold wv;have hn2:=ga.len;have hn:=g.len;have hmm:=@run_makeMap Tryz.prog
 go_enter Tryz.func88,Tryz.ntmps88;go_wp2;clear hmm;generalize hW:w.alloc (.cells #[.slice A l.length c,.map (some r1),.slice AL (zBF l (fun i=>!zAB l i) l.length).length cL,.map (some r2),.slice (some ⟨g1,0,none⟩) l.length l.length,.slice (some ⟨g2,0,none⟩) l.length l.length] 103)=W;have hWs:W.heap.size=w.heap.size+1:=by rw[<-hW];simp
 have hWb:Below w.heap.size w W:=zu;have hWr:=aK w (.cells #[.slice A l.length c,.map (some r1),.slice AL (zBF l (fun i=>!zAB l i) l.length).length cL,.map (some r2),.slice (some ⟨g1,0,none⟩) l.length l.length,.slice (some ⟨g2,0,none⟩) l.length l.length] 103);rw[hW]at hWr;have hW1:W.cell? ⟨w.heap.size,1,none⟩=some (.map (some r1)):=by rw[aX _ w.heap.size 1 _ _ _ hWr];rfl
 have hW2:W.cell? ⟨w.heap.size,2,none⟩=some (.slice AL (zBF l (fun i=>!zAB l i) l.length).length cL):=by rw[aX _ w.heap.size 2 _ _ _ hWr];rfl
 have hW4:W.cell? ⟨w.heap.size,4,none⟩=some (.slice (some ⟨g1,0,none⟩) l.length l.length):=by rw[aX _ w.heap.size 4 _ _ _ hWr];rfl
 have hwr:=h.below hWb;have hr1:r1<W.heap.size:=hwr.m1.lt;have h2':=h2.below hWb;have HWR:=zq hwr;have HWb:=zq hWb;have hwW:w.heap.size<W.heap.size:=za;have hg1W:=hwr.h1;clear hW hWb hWr hwr h h2;rw[<-hWs];clear hWs
 go_loopg[17] a.length (InRel1 W l a)
 case atStart=>exact⟨0,za,rfl,zAu.new _ _,(aJ _ _).alloc (aE _) _⟩
 case round =>
  obtain⟨k,hk,rfl,hmap,hbel⟩:=hrel;have HK:=zq hk;have HM:=zq hmap;have HB:=zq hbel;have hk1:k<=a.length:=za;have hws:w.heap.size<wr.heap.size:=aB hwW hbel.size;have hs1:wr.cell? ⟨w.heap.size,1,none⟩=some (.map (some r1)):=(hbel.cell hwW).trans hW1;have hs2:=(hbel.cell hwW).trans hW2;have hs4:=(hbel.cell hwW).trans hW4;clear hk hmap hbel
  by_cases hlt:k<a.length
  ·obtain⟨b,o,rfl,hb,hc⟩:=h2'.at_ za
   have hbr:b<wr.heap.size:=aB hb HB.o.size;have hc0:wr.cell? ⟨b,o+k*2,none⟩=some (.string (a[k]).rg):=(HB.o.cell hb).trans (hc k hlt).1;have hc1:wr.cell? ⟨b,o+k*2+1,none⟩=some (.bool (a[k]).out):=(HB.o.cell hb).trans (hc k hlt).2;have hlk:=zAp tMap kStr zInt ((HWR.o.m1.keep (HB.o.block _ hr1)).alloc (.cells #[.string (a[k]).rg,.bool (a[k]).out] 99)) (a[k]).rg false;obtain⟨x,hx⟩:=ga.at_ k hlt;rw[mp_idx g.inc,hx]at hlk;simp only[eF,if_false,aH,eE]at hlk;obtain⟨w3,hrun,hm3,hg3,hs3⟩:=zAS tMapB kInt (HM.o.alloc (.cells #[.string (a[k]).rg,.bool (a[k]).out] 99)) (x:Int) (.bool (!(a[k]).out));have HM3:=zq hm3;have HB3:=zq (below_map (HB.o.alloc HB.o.size (.cells #[.string (a[k]).rg,.bool (a[k]).out] 99)) hg3 (aE _) (by have:=HB.o.size;simp;omega));have HX:=zq hx;clear hc hm3 hg3 hs3 hx HM HB;go_wp2
   go_roundg (gk-1)
   case measure=>have:=HK.o;omega
   case rel =>
    refine⟨k+1,zh,zi,?_,HB3.o⟩
    have e:nmK l a (k+1)=fun k'=>if k'=(x:Int) then some (.bool (!(a[k]).out)) else nmK l a k k':=by
     funext i
     rw[nmK,rgAt_of hlt,HX.o];simp[List.getD,hlt]
    rw[e];exact HM3.o
  ·obtain rfl:k=a.length:=by omega
   clear HK hk1 hlt hs1 hs4;have hgl:=gath_len l a
   have hil:(inL l a).length<=200:=by
    have:=leafTo_le l l.length;unfold inL;rw[dE];exact dC this hn
   rw[hgl]at hs2;have HGL:=zq hgl;clear hgl;have hmk:=zCG _ _ elSet (inL l a).length za za rfl;go_wp2;clear hmk
   have hp0:(wr.alloc (.cells (Array.replicate (inL l a).length (.bool false)) 4)).heap[wr.heap.size]?=some (.cells (bArr (inL l a) 0) 4 (0,0)):=by
    rw[<-bArr_0];exact aK _ _
   have HP0:=zq hp0;have HM2:=zq (HM.o.alloc (.cells (Array.replicate (inL l a).length (.bool false)) 4));have HB2:=zq (HB.o.alloc HB.o.size (.cells (Array.replicate (inL l a).length (.bool false)) 4));have hgo:W.heap.size<=wr.heap.size:=HB.o.size;clear HM HB hp0 hws;generalize hw2:wr.alloc (.cells (Array.replicate (inL l a).length (.bool false)) 4)=w2 at HM2 HP0 HB2;obtain⟨go,hgoe⟩:∃go,go=wr.heap.size:=⟨_,rfl⟩;rw[<-hgoe]at HP0 hgo ⊢;clear hw2 hgoe hs2
   go_loopg[38] (inL l a).length (InRel2 W l a go)
   case atStart=>exact⟨0,za,rfl,HM2.o,HP0.o,HB2.o⟩
   clear HM2 HP0 HB2
   case round =>
    obtain⟨n,hk,rfl,hmap,hrow,hbel⟩:=hrel;have HK:=zq hk;have HM:=zq hmap;have HP:=zq hrow;have HB:=zq hbel;have hk1:n<=(inL l a).length:=za;have hws:w.heap.size<wr.heap.size:=aB hwW hbel.size;have hgol:go<wr.heap.size:=zAh hrow;have hs1:wr.cell? ⟨w.heap.size,1,none⟩=some (.map (some r1)):=(hbel.cell hwW).trans hW1;have hs4:=(hbel.cell hwW).trans hW4;obtain⟨gk1,hgk1⟩:∃gk1,gk1=gk:=⟨_,rfl⟩;subst hgk1;obtain⟨w5,hw5⟩:∃w5:World,w5=wr:=⟨_,rfl⟩;subst hw5;clear hk hmap hrow hbel
    by_cases hlt:n<(inL l a).length
    ·have hltL:n<(zAf l).length:=by simpa[inL]using hlt
     have hltG:n<(zBF l (fun i=>!zAB l i) l.length).length:=by rw[HGL.o];exact hlt
     have hyl:=leafIdx_lt hltL;have hrl:=HWR.o.lv;obtain⟨b,o,rfl,hb,hc⟩:=hrl.at_ za;have hbr:b<w5.heap.size:=aB hb HB.o.size
     have hc0:w5.cell? ⟨b,o+n,none⟩=some (.string (l[(zAf l)[n]]).nm):=by
      rw[HB.o.cell hb,hc n hltG,gath_get l hltG hltL,zAH hyl]
     have hlk:=zAp tMap kStr zInt (HWR.o.m1.keep (HB.o.block _ hr1)) (l[(zAf l)[n]]).nm false;rw[mp_idx g.inc,g.inc.idx hyl]at hlk;simp only[eF,if_false,aH,eE]at hlk;have hres:lies l a (zAf l)[n]=(inL l a)[n]:=by simp[inL]
     generalize hrs:(inL l a)[n]=res at hres;have HRS:=zq hrs;have hue:=g.ends _ hyl;unfold lies at hres;generalize (zAf l)[n]=y0 at *;have HR:=zq hres;have HU:=zq hue;clear hc hrl hres hue hrs;go_wp2;clear hlk hc0
     go_loopg[11] (l.length+2) (InRel3 w5 l a res)
     case atStart=>exact⟨rfl,.inl ⟨y0,hyl,rfl,HU.o,HR.o⟩⟩
     clear HU HR
     case round =>
      obtain⟨hw,hrel⟩:=hrel;subst hw
      rcases hrel with ⟨y,hy,rfl,hup,hlr⟩|⟨rfl,hres⟩
      ·obtain⟨m,rfl⟩:∃m,gk=m+1:=by
        cases gk with
        |zero=>exact absurd hup (by simp[upN])
        |succ m=>exact⟨m,rfl⟩
       rw[liesF]at hlr;rw[upN]at hup;have hlk:=zAp tMapB kInt zBool HM.o (y:Int) true;rw[nmK_find g ga hy]at hlk;have hy0:(0:Int)<=(y:Int):=za;have hy1:(y:Int)<(l.length:Int):=za;have hcu:wr.cell? ⟨g1,y,none⟩=some (.int .i64 (upI l y)):=(HB.o.cell hg1W).trans (HWR.o.up y hy)
       cases hf:findA a (zCg l y)with
       |some xa =>
        rw[hf]at hlk hlr;simp only[if_true,aH,eE,Option.isSome_some]at hlk;have hlr':(!xa.out)=res:=hlr;rw[hlr']at hlk
        have hco:wr.cell? ⟨go,n,none⟩=some (.bool false):=by
         rw[aX _ go n _ _ _ HP.o,zCr _ _ hlt];simp
        have hfo:=cU wr go n _ _ HP.o;have HBS:=zq (bArr_set (inL l a) hlt);clear hf hlr hlr' hup;go_wp2
        go_roundg (gk1-1)
        case measure=>have:=HK.o;omega
        case rel =>
         refine⟨n+1,zh,zi,?_,?_,?_⟩
         ·exact HM.o.setCell (a:=⟨go,n,none⟩) (fun e=>by have:=map_ne_cells' HM.o HP.o;exact this e.symm) _
         ·have e:=HBS.o
          rw[HRS.o]at e;rw[<-e];exact eC _ go n _ _ _ HP.o
         ·exact HB.o.setCell (p:=⟨go,n,none⟩) hgo _
       |none =>
        rw[hf]at hlk hlr;simp only[if_true,Option.map_none,Option.getD_none,eD]at hlk;have HLR:=zq hlr;have HUP:=zq hup;clear hf hlr hup;go_wp2;have hlr:=HLR.o;have hup:=HUP.o
        cases hu:up l y with
        |none =>
         rw[hu]at hlr
         go_roundg m
         case measure=>omega
         case rel=>exact⟨rfl,.inr ⟨by rw[upI,hu],hlr.symm⟩⟩
        |some y' =>
         rw[hu]at hlr hup;have hyl':=(up_lt hu).2
         go_roundg m
         case measure=>omega
         case rel=>exact⟨rfl,.inl ⟨y',hyl',by rw[upI,hu],hup,hlr⟩⟩
      ·have HS:=zq hres
       clear hres;go_wp2
       go_roundg (gk1-1)
       case measure=>have:=HK.o;omega
       case rel =>
        refine⟨n+1,zh,zi,HM.o,?_,HB.o⟩
        rw[bArr_skip _ hlt (by rw[HRS.o,HS.o])];exact HP.o
    ·obtain rfl:n=(inL l a).length:=by omega
     clear HK hk1 hlt;go_wp2;go_ret
     exact⟨_,_,rfl,HP.o,zAa HWb.o HB.o⟩
abbrev ckC(A:Option Addr)(c r1 r2 g1 g2:Nat)(AL:Option Addr)(cL:Nat)(l:List Rg)(uA:Option Addr)(uc:Nat)(us:List BA)(m2 m3 m4 m5:Nat)(p:De):Array Value:=
 #[.slice A l.length c,.map (some r1),.slice AL (zBF l (fun i=>!zAB l i) l.length).length cL,.map (some r2),.slice (some ⟨g1,0,none⟩) l.length l.length,.slice (some ⟨g2,0,none⟩) l.length l.length,.slice uA us.length uc,.map (some m2),.map (some m3),.map (some m4),.map (some m5),
  .string p.id,.int .i64 p.day,.int .i64 p.kd,.string p.th,.string p.fr,.string p.to_,.string p.nu,.string p.de,.bool p.ex,.bool p.sb,.slice p.arA p.ar.length p.arc,.slice p.usA p.us.length p.usc,.int .i64 p.bg,.int .i64 p.en,.slice p.shA p.sh.length p.shc,.string p.ot]
def zBo(l:List Rg)(us:List BA)(d:De):Int:=
 if zCX l d.ar≠0 then zCX l d.ar else if zAW l d.ar=[]\/d.us=[] then 9 else useF us d.us
theorem WR.drew{w:World}{A:Option Addr}{r1 r2 g1 g2:Nat}{AL:Option Addr}{l:List Rg}(h:WR w A r1 r2 g1 g2 AL l):WR w.drew A r1 r2 g1 g2 AL l:=h.below (zAd (aJ _ _) 1)
theorem any_leaves(l:List Rg)(a:List Ar):(inL l a).any id=decide (zAW l a≠[]):=by
 unfold inL zAW
 have:∀(L:List Nat),(L.map (lies l a)).any id=decide ((L.filter (lies l a)).map (zCg l)≠[]):=by
  intro L
  induction L with
  |nil=>rfl
  |cons x t ih =>
   by_cases h:lies l a x=true
   ·simp[h]
   ·have h':lies l a x=false:=by simpa using h
    simp only[dZ,List.any_cons,h',id,Bool.false_or,List.filter_cons_of_neg h];exact ih
 exact this _
theorem place_c(ci:Nat)(A:Option Addr)(c r1 r2 g1 g2:Nat)(AL:Option Addr)(cL:Nat)(l:List Rg)(uA:Option Addr)(uc:Nat)(us:List BA)(m2 m3 m4 m5:Nat)(p d:De)(w:World)(hc:Bx w ci (ckC A c r1 r2 g1 g2 AL cL l uA uc us m2 m3 m4 m5 p) 170)(g:GoodR l)(hw:WR w A r1 r2 g1 g2 AL l)(hu:Strs w uA us)(hul:us.length<=1000000)(hd:DeOk w d): Calls Tryz.prog 199 #[.pointer (some ⟨ci,0,none⟩),deV d] w (zAg (.int .i64 (zBo l us d)) w):=by
 generalize hres:zBo l us d=res;have HR:=zq hres;clear hres;have HB:Hid (Below w.heap.size w (w.alloc (.cells (deC d) 126))):=(aJ w.heap.size w).alloc (aE _) _;have HX:Hid (Bx (w.alloc (.cells (deC d) 126)) w.heap.size (deC d) 126):=Bx.new _ _ _;obtain⟨W,hW⟩:∃W,W=w.alloc (.cells (deC d) 126):=⟨_,rfl⟩;rw[<-hW]at HX HB;have HC:=zq (hc.below HB.o);have HW:=zq (hw.below HB.o);have HU:=zq (hu.below HB.o);have HD:=zq (hd.below HB.o);have hcl:=hc.lt;clear hc hw hu hd
 go_enter Tryz.func199,Tryz.ntmps199;(go_wp2_with fail);rw[<-hW];clear hW;have c0:=HC.o.c 0 rfl;have c1:=HC.o.c 1 rfl;have c2:=HC.o.c 2 rfl;have c3:=HC.o.c 3 rfl;have c4:=HC.o.c 4 rfl;have c5:=HC.o.c 5 rfl;have y10:=HX.o.c 10 rfl;have hAr:=zq (fun W' (x:WR W' A r1 r2 g1 g2 AL l) (y:Ars W' d.arA d.ar)=>checkArea_c A d.arA c r1 r2 g1 g2 AL cL d.arc l d.ar W' g x y);unfold wv at hAr
 go_region_held3 (fun w'=>w'.cell? ⟨ci,0,none⟩=some (.slice A l.length c)/\w'.cell? ⟨ci,1,none⟩=some (.map (some r1))/\w'.cell? ⟨ci,2,none⟩=some (.slice AL (zBF l (fun i=>!zAB l i) l.length).length cL)/\w'.cell? ⟨ci,3,none⟩=some (.map (some r2))/\w'.cell? ⟨ci,4,none⟩=some (.slice (some ⟨g1,0,none⟩) l.length l.length)/\w'.cell? ⟨ci,5,none⟩=some (.slice (some ⟨g2,0,none⟩) l.length l.length)/\w'.cell? ⟨w.heap.size,10,none⟩=some (.slice d.arA d.ar.length d.arc)) ((refine⟨?_,?_,?_,?_,?_,?_,?_⟩<;>first|with_reducible assumption|go_simp))
  ((go_at_call 87;(with_reducible refine(hAr.out W.drew (WR.drew HW.o) (Rd2.drew HD.o.ars)).mono ?_);rintro e w1⟨rfl,hb1⟩;have HC1:=zq (HC.o.drew.below hb1);have HX1:=zq (HX.o.drew.below hb1);have e0:=HC1.o.c 0 rfl;have e1:=HC1.o.c 1 rfl;have e2:=HC1.o.c 2 rfl;have e3:=HC1.o.c 3 rfl;have e4:=HC1.o.c 4 rfl;have e5:=HC1.o.c 5 rfl;have y1:=HX1.o.c 10 rfl))
 have HB1:=zq ((zAd HB.o 1).trans (hb1.mono HB.o.size));have HW1:=zq ((WR.drew HW.o).below hb1);have HU1:=zq ((Rd1.drew HU.o).below hb1);have HD1:=zq (HD.o.below (Below.trans (zAd (aJ _ _) 1) hb1));clear c0 c1 c2 c3 c4 c5 y10 hb1 HW HU HD HC HX HB hAr
 by_cases hch:zCX l d.ar=0
 ·have ga:=goodA_of hch
  have HGA:=zq ga
  have HR1:Hid ((if zAW l d.ar=[]\/d.us=[] then (9:Int) else useF us d.us)=res):=by
   show _=_
   have hr:=HR.o;unfold zBo at hr
   rwa [aW (fun h=>h hch)]at hr
  rw[hch];clear hch HR;have HIN:=zq (fun W' (x:WR W' A r1 r2 g1 g2 AL l) (y:Ars W' d.arA d.ar)=>in_c A d.arA c r1 r2 g1 g2 AL cL d.arc l d.ar W' g ga x y);unfold wv at HIN;have y11:=HX1.o.c 11 rfl
  have hin:(inL l d.ar).length<=1000000:=by
   have h1:(inL l d.ar).length=(zAf l).length:=by unfold inL;simp
   have h2:=g.len;have h3:(zAf l).length<=(List.range l.length).length:=dR _ _;rw[List.length_range]at h3;omega
  by_cases hlv:zAW l d.ar=[]
  ·have HR2:Hid (res=9):=by
    show _=_
    rw[<-HR1.o,aD (.inl hlv)]
   have hsm:(inL l d.ar).any id=false:=by rw[any_leaves,hlv];rfl
   have HSO:=zq (fun go c' W' (x:Rd1 Value.bool W' (some ⟨go,0,none⟩) (inL l d.ar))=>some_c (some ⟨go,0,none⟩) c' (inL l d.ar) W' hin x);rw[hsm]at HSO;clear hlv hsm HR1 ga;(go_wp2_with fail);refine eJ (S:=(fun w'=>w'.cell? ⟨ci,0,none⟩=some (.slice A l.length c)/\w'.cell? ⟨ci,1,none⟩=some (.map (some r1))/\w'.cell? ⟨ci,2,none⟩=some (.slice AL (zBF l (fun i=>!zAB l i) l.length).length cL)/\w'.cell? ⟨ci,3,none⟩=some (.map (some r2))/\w'.cell? ⟨ci,4,none⟩=some (.slice (some ⟨g1,0,none⟩) l.length l.length)/\w'.cell? ⟨ci,5,none⟩=some (.slice (some ⟨g2,0,none⟩) l.length l.length)/\w'.cell? ⟨w.heap.size,10,none⟩=some (.slice d.arA d.ar.length d.arc)/\w'.cell? ⟨w.heap.size,11,none⟩=some (.slice d.usA d.us.length d.usc))) zb ?_ (fun hHeld=>?_)
   ·(refine⟨?_,?_,?_,?_,?_,?_,?_,?_⟩<;>first|with_reducible assumption|go_simp)
   refine eK (i:=0) (v:=?_) rfl zb zb zb (fun _ _ _ h=>h) (Or.inl ⟨zk,?_⟩) zg ?_
   rotate_left 1
   ·(intro w hSw;(try dsimp only at hSw);go_simp;try with_reducible rfl)
   simp only[Act.put,cV];refine eK (i:=1) (v:=?_) rfl zb zb zb (fun _ _ _ h=>h) (Or.inl ⟨zk,?_⟩) zg ?_
   rotate_left 1
   ·(intro w hSw;(try dsimp only at hSw);go_simp;try with_reducible rfl)
   simp only[Act.put];refine eK (i:=2) (v:=?_) rfl zb zb zb (fun _ _ _ h=>h) (Or.inl ⟨zk,?_⟩) zg ?_
   rotate_left 1
   ·(intro w hSw;(try dsimp only at hSw);go_simp;try with_reducible rfl)
   simp only[Act.put];refine eK (i:=3) (v:=?_) rfl zb zb zb (fun _ _ _ h=>h) (Or.inl ⟨zk,?_⟩) zg ?_
   rotate_left 1
   ·(intro w hSw;(try dsimp only at hSw);go_simp;try with_reducible rfl)
   simp only[Act.put];refine eK (i:=4) (v:=?_) rfl zb zb zb (fun _ _ _ h=>h) (Or.inl ⟨zk,?_⟩) zg ?_
   rotate_left 1
   ·(intro w hSw;(try dsimp only at hSw);go_simp;try with_reducible rfl)
   simp only[Act.put];refine eK (i:=5) (v:=?_) rfl zb zb zb (fun _ _ _ h=>h) (Or.inl ⟨zk,?_⟩) zg ?_
   rotate_left 1
   ·(intro w hSw;(try dsimp only at hSw);go_simp;try with_reducible rfl)
   simp only[Act.put];refine Dw.rd1 6 rfl (fun K hK=>?_);go_simp
   go_at_call 88
   (with_reducible refine(HIN.o w1.drew (WR.drew HW1.o) (Rd2.drew HD1.o.ars)).mono ?_)
   rintro e w2⟨go,cc,rfl,hg2,hb2⟩;have HB2:=zq (zAa (zAd HB1.o 1) hb2);have HC2:=zq (HC1.o.drew.below hb2);have HX2:=zq (HX1.o.drew.below hb2);have e0:=HC2.o.c 0 rfl;have e1:=HC2.o.c 1 rfl;have e2:=HC2.o.c 2 rfl;have e3:=HC2.o.c 3 rfl;have e4:=HC2.o.c 4 rfl;have e5:=HC2.o.c 5 rfl;have y1:=HX2.o.c 10 rfl;have y2:=HX2.o.c 11 rfl;refine hK.out _ _ ?_ (fun hHeld=>?_)
   ·(refine⟨?_,?_,?_,?_,?_,?_,?_,?_⟩<;>first|with_reducible assumption|go_simp)
   clear hK K
   try simp only[Act.put,cV,eL,cS]
   refine Dw.rd1 7 rfl (fun K hK=>?_);go_simp
   go_at_call 265
   (with_reducible refine(HSO.o go cc w2 (bArr_rd hg2)).mono ?_)
   rintro e w3⟨rfl,rfl⟩;refine hK.out _ _ ?_ (fun hHeld=>?_)
   ·(refine⟨?_,?_,?_,?_,?_,?_,?_,?_⟩<;>first|with_reducible assumption|go_simp)
   clear hK K
   try simp only[Act.put,cV,eL,cS]
   refine eK (i:=8) (v:=?_) rfl zb zb zb (fun _ _ _ h=>h) (Or.inl ⟨zk,?_⟩) zg ?_
   rotate_left 1
   ·(intro w hSw;(try dsimp only at hSw);go_simp;try with_reducible rfl)
   simp only[Act.put,cV];refine eK (i:=9) (v:=?_) rfl zb zb zb (fun _ _ _ h=>h) (Or.inl ⟨zk,?_⟩) zg ?_
   rotate_left 1
   ·(intro w hSw;(try dsimp only at hSw);go_simp;try with_reducible rfl)
   simp only[Act.put];refine eK (i:=10) (v:=undef) rfl zb zb zb (fun _ _ _ h=>h) (Or.inr ⟨zk,rfl⟩) zg ?_;simp only[Act.put];refine eK (i:=11) (v:=undef) rfl zb zb zb (fun _ _ _ h=>h) (Or.inr ⟨zk,rfl⟩) zg ?_;simp only[Act.put];refine eK (i:=12) (v:=undef) rfl zb zb zb (fun _ _ _ h=>h) (Or.inr ⟨zk,rfl⟩) zg ?_;simp only[Act.put];refine eK (i:=13) (v:=undef) rfl zb zb zb (fun _ _ _ h=>h) (Or.inr ⟨zk,rfl⟩) zg ?_;simp only[Act.put];refine eK (i:=14) (v:=?_) rfl zb zb zb (fun _ _ _ h=>h) (Or.inl ⟨zk,?_⟩) zg ?_
   rotate_left 1
   ·(intro w hSw;(try dsimp only at hSw);go_simp;try with_reducible rfl)
   simp only[Act.put];refine wpAnyH_done zb ?_ _;go_wp2;go_ret
   exact zAg.mk (zCp HR2.o.symm) HB2.o
  ·have hsm:(inL l d.ar).any id=true:=by rw[any_leaves];exact aT hlv
   have HR2:Hid ((if d.us=[] then (9:Int) else useF us d.us)=res):=by
    show _=_
    rw[<-HR1.o]
    by_cases h9:d.us=[]
    ·rw[aD h9,aD (.inr h9)]
    ·rw[aW h9,aW (fun h=>h.elim hlv h9)]
   have HSO:=zq (fun go c' W' (x:Rd1 Value.bool W' (some ⟨go,0,none⟩) (inL l d.ar))=>some_c (some ⟨go,0,none⟩) c' (inL l d.ar) W' hin x);rw[hsm]at HSO;clear hlv hsm HR1 ga;go_wp2_with fail
   go_region_held3 (fun w'=>w'.cell? ⟨ci,0,none⟩=some (.slice A l.length c)/\w'.cell? ⟨ci,1,none⟩=some (.map (some r1))/\w'.cell? ⟨ci,2,none⟩=some (.slice AL (zBF l (fun i=>!zAB l i) l.length).length cL)/\w'.cell? ⟨ci,3,none⟩=some (.map (some r2))/\w'.cell? ⟨ci,4,none⟩=some (.slice (some ⟨g1,0,none⟩) l.length l.length)/\w'.cell? ⟨ci,5,none⟩=some (.slice (some ⟨g2,0,none⟩) l.length l.length)/\w'.cell? ⟨w.heap.size,10,none⟩=some (.slice d.arA d.ar.length d.arc)/\w'.cell? ⟨w.heap.size,11,none⟩=some (.slice d.usA d.us.length d.usc)) ((refine⟨?_,?_,?_,?_,?_,?_,?_,?_⟩<;>first|with_reducible assumption|go_simp))
    (first
     |((go_at_call 88;(with_reducible refine(HIN.o w1.drew (WR.drew HW1.o) (Rd2.drew HD1.o.ars)).mono ?_);rintro e w2⟨go,cc,rfl,hg2,hb2⟩;have HB2:=zq (zAa (zAd HB1.o 1) hb2);have HC2:=zq (HC1.o.drew.below hb2);have HX2:=zq (HX1.o.drew.below hb2);have e0:=HC2.o.c 0 rfl;have e1:=HC2.o.c 1 rfl;have e2:=HC2.o.c 2 rfl;have e3:=HC2.o.c 3 rfl;have e4:=HC2.o.c 4 rfl;have e5:=HC2.o.c 5 rfl;have y1:=HX2.o.c 10 rfl;have y2:=HX2.o.c 11 rfl))
     |((go_at_call 265;(with_reducible refine(HSO.o go cc w2 (bArr_rd hg2)).mono ?_);rintro e w3⟨rfl,rfl⟩)))
   have HW2:=zq ((WR.drew HW1.o).below hb2);have HU2:=zq ((Rd1.drew HU1.o).below hb2);have HD2:=zq ((HD1.o.below (zAd (aJ _ _) 1)).below hb2);clear hb2 HIN HSO HW1 HU1 HD1 HC1 HX1 HB1 HGA y11 hg2
   by_cases h9:d.us=[]
   ·have HS:Hid (res=9):=by
     show _=_
     rw[<-HR2.o,aD h9]
    have h9b:((d.us.length:Int) == 0)=true:=by rw[h9];rfl
    clear h9 HR2;exact tdf
   ·have HS:Hid (res=useF us d.us):=by
     show _=_
     rw[<-HR2.o,aW h9]
    have h9b:((d.us.length:Int) == 0)=false:=by
     have:=List.length_pos_iff.2 h9;simp;omega
    have z6:=HC2.o.c 6 rfl;have HUC:=zq (fun W' (x:Strs W' uA us) (y:Strs W' d.usA d.us)=>checkUses_c uA d.usA uc d.usc us d.us W' hul HD2.o.lens.2.1 x y);clear h9 HR2 e0 e1 e2 e3 e4 e5 y1;go_wp2_with fail
    go_region_held3 (fun w'=>w'.cell? ⟨ci,6,none⟩=some (.slice uA us.length uc)/\w'.cell? ⟨w.heap.size,11,none⟩=some (.slice d.usA d.us.length d.usc)) ((refine⟨?_,?_⟩<;>first|with_reducible assumption|go_simp))
     ((go_at_call 91;(with_reducible refine(HUC.o w2.drew (Rd1.drew HU2.o) (Rd1.drew HD2.o.uses)).mono ?_);rintro e w4⟨rfl,hgd⟩;have HB4:=zq (zAa HB2.o (zAd (aJ _ _) 1));have hb4:Below w2.drew.heap.size w2.drew w4:=(by obtain⟨nn,hn⟩:=hgd;rw[hn];exact zAd (aJ _ _) nn);have HC4:=zq (HC2.o.drew.below hb4);have HX4:=zq (HX2.o.drew.below hb4);have z7:=HC4.o.c 6 rfl;have z8:=HX4.o.c 11 rfl))
    go_wp2;go_ret
    exact zAg.mk (zCp HS.o.symm) (zAa HB4.o hb4)
 ·have HS:Hid (res=zCX l d.ar):=by
   show _=_
   rw[<-HR.o];unfold zBo;rw[aD hch]
  have hcb:(zCX l d.ar != 0)=true:=by simpa using hch
  clear hch HR;exact tdg
theorem tKinds:Tryz.prog.underlying 100=some (.map 9 3):=zb
theorem tFlags:Tryz.prog.underlying 168=some (.map 9 4):=zb
structure VS (w0 wr:World) (ci bi fi:Nat) (fc:Array Value) (A:Option Addr) (c r1 r2 g1 g2:Nat) (AL:Option Addr) (cL:Nat) (l:List Rg) (uA:Option Addr) (uc:Nat) (us:List BA) (m2 m3 m4 m5:Nat) (p d:De) (f2 f3:BA->Option Value):Prop where
 bel:Below w0.heap.size w0 wr
 ck:Bx wr ci (ckC A c r1 r2 g1 g2 AL cL l uA uc us m2 m3 m4 m5 p) 170
 dx:Bx wr bi (deC d) 126
 fx:Bx wr fi fc 128
 wrl:WR wr A r1 r2 g1 g2 AL l
 st:Strs wr uA us
 dok:DeOk wr d
 k2:zAu Value.string wr m2 f2
 k3:zAu Value.string wr m3 f3
section
variable {w0 wr w':World} {ci bi fi:Nat} {fc:Array Value} {A:Option Addr} {c r1 r2 g1 g2:Nat} {AL:Option Addr} {cL:Nat} {l:List Rg} {uA:Option Addr} {uc:Nat} {us:List BA} {m2 m3 m4 m5:Nat} {p d:De} {f2 f3:BA→Option Value}
theorem VS.below(h:VS w0 wr ci bi fi fc A c r1 r2 g1 g2 AL cL l uA uc us m2 m3 m4 m5 p d f2 f3)(hb:Below wr.heap.size wr w'):VS w0 w' ci bi fi fc A c r1 r2 g1 g2 AL cL l uA uc us m2 m3 m4 m5 p d f2 f3:=
 ⟨zAa h.bel hb,h.ck.below hb,h.dx.below hb,h.fx.below hb,h.wrl.below hb,h.st.below hb,h.dok.below hb,h.k2.below hb,h.k3.below hb⟩
theorem VS.drewN(h:VS w0 wr ci bi fi fc A c r1 r2 g1 g2 AL cL l uA uc us m2 m3 m4 m5 p d f2 f3)(n:Nat):VS w0 (wr.drewN n) ci bi fi fc A c r1 r2 g1 g2 AL cL l uA uc us m2 m3 m4 m5 p d f2 f3:=h.below (zAd (aJ _ _) n)
theorem VS.drew(h:VS w0 wr ci bi fi fc A c r1 r2 g1 g2 AL cL l uA uc us m2 m3 m4 m5 p d f2 f3):VS w0 wr.drew ci bi fi fc A c r1 r2 g1 g2 AL cL l uA uc us m2 m3 m4 m5 p d f2 f3:=h.drewN 1
theorem VS.alloc(h:VS w0 wr ci bi fi fc A c r1 r2 g1 g2 AL cL l uA uc us m2 m3 m4 m5 p d f2 f3)(o:Obj):VS w0 (wr.alloc o) ci bi fi fc A c r1 r2 g1 g2 AL cL l uA uc us m2 m3 m4 m5 p d f2 f3:=h.below ((aJ _ _).alloc (aE _) o)
end
theorem VS.start(w:World)(ci:Nat)(fc:Array Value)(A:Option Addr)(c r1 r2 g1 g2:Nat)(AL:Option Addr)(cL:Nat)(l:List Rg)(uA:Option Addr)(uc:Nat)(us:List BA)(m2 m3 m4 m5:Nat)(p d:De)(f2 f3:BA->Option Value)(hc:Bx w ci (ckC A c r1 r2 g1 g2 AL cL l uA uc us m2 m3 m4 m5 p) 170)(hw:WR w A r1 r2 g1 g2 AL l)(hu:Strs w uA us)(hd:DeOk w d)(h2:zAu Value.string w m2 f2)(h3:zAu Value.string w m3 f3): VS w ((w.alloc (.cells (deC d) 126)).alloc (.cells fc 128)) ci w.heap.size (w.heap.size+1) fc A c r1 r2 g1 g2 AL cL l uA uc us m2 m3 m4 m5 p d f2 f3:=by
 have hb:Below w.heap.size w ((w.alloc (.cells (deC d) 126)).alloc (.cells fc 128)):=((aJ w.heap.size w).alloc (aE _) _).alloc zd _;exact⟨hb,hc.below hb,(Bx.new _ _ _).alloc _,Bx.new1 _ _ _ _,hw.below hb,hu.below hb,hd.below hb,h2.below hb,h3.below hb⟩
def endV(d:De)(k:Int)(e:Bool):Int:=
 if zCF d.bg=false then 1 else if k≠2/\k≠3 then 9 else if e=true then 7 else 0
theorem values_4(ci:Nat)(A:Option Addr)(c r1 r2 g1 g2:Nat)(AL:Option Addr)(cL:Nat)(l:List Rg)(uA:Option Addr)(uc:Nat)(us:List BA)(m2 m3 m4 m5:Nat)(p d:De)(f2 f3:BA->Option Value)(k:Int)(e:Bool)(w:World)(hk:(f2 d.ot).getD (.int .i64 0)=.int .i64 k)(he:(f3 d.ot).getD (.bool false)=.bool e)(hc:Bx w ci (ckC A c r1 r2 g1 g2 AL cL l uA uc us m2 m3 m4 m5 p) 170)(hw:WR w A r1 r2 g1 g2 AL l)(hu:Strs w uA us)(hd:DeOk w d)(h2:zAu Value.string w m2 f2)(h3:zAu Value.string w m3 f3): Calls Tryz.prog 153 #[.pointer (some ⟨ci,0,none⟩),deV d,.agg #[.bool false,.bool false,.bool false,.bool false,.bool false,.bool false,.bool false,.bool false,.bool true]] w (zAg (.int .i64 (endV d k e)) w):=by
 generalize hres:endV d k e=res;have HR:=zq hres;clear hres;have HV:=zq (VS.start w ci #[.bool false,.bool false,.bool false,.bool false,.bool false,.bool false,.bool false,.bool false,.bool true] A c r1 r2 g1 g2 AL cL l uA uc us m2 m3 m4 m5 p d f2 f3 hc hw hu hd h2 h3);clear hc hw hu hd h2 h3;obtain⟨W,hW⟩:∃W,W=(w.alloc (.cells (deC d) 126)).alloc (.cells #[.bool false,.bool false,.bool false,.bool false,.bool false,.bool false,.bool false,.bool false,.bool true] 128):=⟨_,rfl⟩;rw[<-hW]at HV;have hsz:w.heap.size+1<W.heap.size:=HV.o.fx.lt
 go_enter Tryz.func153,Tryz.ntmps153;(go_wp2_with fail);rw[<-hW];clear hW;have x3:=HV.o.dx.c 3 rfl;have x4:=HV.o.dx.c 4 rfl;have x5:=HV.o.dx.c 5 rfl;have x11:=HV.o.dx.c 12 rfl;have x14:=HV.o.dx.c 15 rfl;have y0:=HV.o.fx.c 0 rfl;have y1:=HV.o.fx.c 1 rfl;have y2:=HV.o.fx.c 2 rfl;have y3:=HV.o.fx.c 3 rfl;have y5:=HV.o.fx.c 5 rfl;have y6:=HV.o.fx.c 6 rfl;have y7:=HV.o.fx.c 7 rfl;have y8:=HV.o.fx.c 8 rfl;have HDY:=zq (fun W'=>isDay_c d.bg W');(go_wp2_with fail);(with_reducible refine(HDY.o _).mono ?_);rintro e' w2⟨rfl,rfl⟩
 cases hb:zCF d.bg with
 |false =>
  have HS:Hid (res=1):=by
   show _=_
   rw[<-HR.o];unfold endV;rw[aD hb]
  clear hb HR;go_wp2;go_ret
  exact zAg.mk (zCp HS.o.symm) HV.o.bel
 |true =>
  have HR2:Hid ((if k≠2/\k≠3 then (9:Int) else if e=true then 7 else 0)=res):=by
   show _=_
   have hbn:¬zCF d.bg=false:=by rw[hb];simp
   rw[<-HR.o];unfold endV;rw[aW hbn]
  clear hb HR HDY;have q2:=HV.o.ck.c 7 rfl;have q3:=HV.o.ck.c 8 rfl;have hl2:=fun n=>zAp tKinds (zAZ (P:=Tryz.prog) zb) zInt ((HV.o.drewN n).k2) d.ot false
  have hl3:=fun n=>zAp tFlags (zAZ (P:=Tryz.prog) zb) zBool ((HV.o.drewN n).k3) d.ot false
  simp only[eF,if_false,hk,he]at hl2 hl3
  by_cases hk2:k=2\/k=3
  ·have HR3:Hid ((if e=true then (7:Int) else 0)=res):=by
    show _=_
    have hkn:¬(k≠2/\k≠3):=za;rw[<-HR2.o,aW hkn]
   clear HR2;go_wp2
   rcases hk2 with rfl|rfl
   all_goals
    go_quiet(fail);go_wp2;go_quiet(fail)
    cases e with
    |true =>
     have HS:Hid (res=7):=by
      show _=_
      rw[<-HR3.o,aD rfl]
     exact tb1
    |false =>
     have HS:Hid (res=0):=by
      show _=_
      rw[<-HR3.o,aW zd]
     exact tb1
  ·have HS:Hid (res=9):=by
    show _=_
    have hkn:k≠2/\k≠3:=za;rw[<-HR2.o,aD hkn]
   have k1:(k != 2)=true:=ze;have k3:(k != 3)=true:=ze;clear hk2 HR2;go_wp2;go_quiet(fail);go_wp2;go_ret
   exact zAg.mk (zCp HS.o.symm) (zAd HV.o.bel _)
end Go.Proofs.YtbbchlpccgkikaaGreatDoor
namespace Dw
open Go Go.RowKit
def zDa{κ:Type}[DecidableEq κ](mk:κ->Value)(w:World)(r:Nat)(f:κ->Option Value)(n:Nat):Prop:=
 ∃(es:Array MapEntry)(clk:Nat)(L:List (κ×Value)),w.heap[r]?=some (.map es clk)/\es.toList.map (fun e=>(e.key,e.val))=L.map (fun p=>(mk p.1,p.2))/\(∀k,zAP L k=f k)/\es.size=n/\∀e∈es.toList,e.born<clk
section
variable {κ:Type} [DecidableEq κ] {mk:κ→Value} {w w':World} {r n:Nat} {f:κ→Option Value}
theorem zDa.is(h:zDa mk w r f n):zAu mk w r f:=by
 obtain⟨es,clk,L,h1,h2,h3,_⟩:=h;exact⟨es,clk,L,h1,h2,h3⟩
theorem zDa.lt(h:zDa mk w r f n):r<w.heap.size:=h.is.lt
theorem zDa.keep(h:zDa mk w r f n)(hk:w'.heap[r]?=w.heap[r]?):zDa mk w' r f n:=by
 obtain⟨es,clk,L,hr,rest⟩:=h;exact⟨es,clk,L,hk.trans hr,rest⟩
theorem zDa.below(h:zDa mk w r f n)(hb:Below w.heap.size w w'):zDa mk w' r f n:=h.keep (hb.block r h.lt)
theorem zDa.run_len{P:Program}{T K E:TypeId}(hT:P.underlying T=some (.map K E))(ty:TypeId)(h:zDa mk w r f n):(Builtin.len_ #[T] ty #[Value.map (some r)]).run P w=.ok (.int .i64 (n:Int)) w:=by
 obtain⟨es,clk,L,hr,_,_,rfl,_⟩:=h;have hg:(getObj r).run P w=.ok (.map es clk) w:=qd;simp[Builtin.len_,run_underlying hT,hg,goInt]
end
theorem findIdx_last{es:Array MapEntry}{e:MapEntry}(h:∀x∈es.toList,x.born<e.born):(es.push e).findIdx? (fun x=>((x.born:Nat):Int) == ((e.born:Nat):Int))=some es.size:=by
 rw[Array.findIdx?_push]
 have hn:es.findIdx? (fun x=>((x.born:Nat):Int) == ((e.born:Nat):Int))=none:=by
  rw[Array.findIdx?_eq_none_iff];intro x hx;have:=h x (by simpa using hx);simp
  omega
 rw[hn];simp
section
variable {P:Program} {κ:Type} [DecidableEq κ] {mk:κ→Value} {T K E:TypeId}
theorem run_entry_new(hT:P.underlying T=some (.map K E))(hK:KeyT P K mk){z:Value}(hz:∀w,(zeroValue E).run P w=.ok z w){w:World}{r n:Nat}{f:κ->Option Value}(h:zDa mk w r f n)(k:κ)(hk:f k=none)(v:Value): ∃(st:Nat)(w1 w2:World),(Instr.mapEntry T (.map (some r)) (mk k)).run P w=.ok (.tuple #[z,.int .i64 (st:Int)]) w1/\(Instr.entryStore T (.map (some r)) (.int .i64 (st:Int)) v).run P w1=.ok () w2 /\ zDa mk w2 r (fun k'=>if k'=k then some v else f k') (n+1)/\w.grownBy w1 (some r)/\w1.heap.size=w.heap.size/\w.grownBy w2 (some r)/\w2.heap.size=w.heap.size:=by
 obtain⟨es,clk,L,hr,hL,hf,hn,hborn⟩:=h;have hrl:r<w.heap.size:=(Array.getElem?_eq_some_iff.1 hr).1;obtain⟨d,hd,hs⟩:=hK.same;obtain⟨o,h1,h2,_⟩:=zDb hs k es.toList L 0 hL;rw[hf,hk]at h2;have ho:o=none:=by cases o<;>simp_all
 subst ho;have hg:(getObj r).run P w=.ok (.map es clk) w:=qd;have hset:∀(es':Array MapEntry)(c':Nat),(setObj r (.map es' c')).run P w=.ok () { w with heap:=w.heap.setIfInBounds r (.map es' c') }:=fun es' c'=>by simp[setObj,Sem.run,hr]
 have hfk:(Instr.findKey K (mk k) es.toList).run P w=.ok none w:=by
  simp[Instr.findKey,run_underlying hd,h1]
 have hgrow:∀(es':Array MapEntry)(c':Nat),w.grownBy { w with heap:=w.heap.setIfInBounds r (.map es' c') } (some r):=fun es' c' =>
  ⟨rfl,rfl,rfl,zd,fun i hi hne=>by simp only[Array.getElem?_setIfInBounds];rw[aW (fun e=>hne (by rw[e]))]⟩
 have hget:∀(es':Array MapEntry)(c':Nat),({ w with heap:=w.heap.setIfInBounds r (.map es' c') }:World).heap[r]?=some (.map es' c'):=fun es' c'=>by
  simp[hrl]
 have hsz:es.size=L.length:=yn;refine⟨clk,{ w with heap:=w.heap.setIfInBounds r (.map (es.push { key:=mk k,val:=z,born:=clk }) (clk+1)) },{ w with heap:=w.heap.setIfInBounds r (.map (es.push { key:=mk k,val:=v,born:=clk }) (clk+1)) },?_,?_,⟨_,_,L++[(k,v)],hget _ _,by simp[hL],?_,by simp[hn],?_⟩,hgrow _ _,zd,hgrow _ _,zd⟩
 ·simp[Instr.mapEntry,run_underlying hT,hg,hK.chk,hfk,hz,hset,goInt]
 ·have hg2:(getObj r).run P { w with heap:=w.heap.setIfInBounds r (.map (es.push { key:=mk k,val:=z,born:=clk }) (clk+1)) }=.ok (.map (es.push { key:=mk k,val:=z,born:=clk }) (clk+1)) { w with heap:=w.heap.setIfInBounds r (.map (es.push { key:=mk k,val:=z,born:=clk }) (clk+1)) }:=by
   simp[getObj,Sem.run,hrl]
  have hidx:=findIdx_last (es:=es) (e:={ key:=mk k,val:=z,born:=clk }) hborn
  have hmod:(es.push { key:=mk k,val:=z,born:=clk }).modify es.size (fun e=>{ e with val:=v })=es.push { key:=mk k,val:=v,born:=clk }:=by
   apply Array.ext
   ·simp
   ·intro i hi1 hi2
    simp only[Array.getElem_modify,Array.getElem_push]
    by_cases hi:i<es.size
    ·simp[hi,show es.size≠i by omega]
    ·simp[show es.size=i by simp at hi2;omega]
  have hset2:∀(es':Array MapEntry)(c':Nat),(setObj r (.map es' c')).run P { w with heap:=w.heap.setIfInBounds r (.map (es.push { key:=mk k,val:=z,born:=clk }) (clk+1)) }=.ok () { w with heap:=w.heap.setIfInBounds r (.map es' c') }:=fun es' c'=>by
   simp[setObj,Sem.run,hrl]
  simp only at hidx;simp[Instr.entryStore,hg2,asInt,asIntOf,hidx,hmod,hset2]
 ·intro k'
  rw[lookE_push (by rw[hf];exact hk),hf]
 ·intro e he
  simp only[Array.toList_push,List.mem_append,List.mem_singleton]at he
  rcases he with he|rfl
  ·have:=hborn e he;omega
  ·simp
end
end Dw
namespace Go.Proofs.YtbbchlpccgkikaaGreatDoor
open Go.RowKit Dw
def zBA(x:BA)(q:De):Bool:=decide (q.id=x)
def kF(pre:List De)(x:BA):Option Value:=(pre.find? (zBA x)).map fun q=>Value.int .i64 q.kd
def kN(pre:List De)(x:BA):Int:=match pre.find? (zBA x)with
 |some q=>q.kd
 |none=>0
def endB(pre:List De)(x:BA):Bool:=pre.any fun q=>decide (q.kd=4)&&decide (q.ot=x)
def bornB(pre:List De)(x:BA):Bool:=pre.any fun q=>decide (q.kd=1)&&decide (q.th=x)
def goneB(pre:List De)(x:BA):Bool:=pre.any fun q=>decide (q.kd=5)&&decide (q.fr=x)
def fl(b:Bool):Option Value:=if b=true then some (.bool true) else none
theorem fl_get(b:Bool):(fl b).getD (.bool false)=.bool b:=by cases b<;>rfl
theorem kF_get(pre:List De)(x:BA):(kF pre x).getD (.int .i64 0)=.int .i64 (kN pre x):=by
 unfold kF kN
 cases pre.find? (zBA x)<;>rfl
theorem kF_none{pre:List De}{x:BA}(h:pre.any (zBA x)=false):kF pre x=none:=by
 unfold kF
 have:pre.find? (zBA x)=none:=by
  exact tb0
 rw[this];rfl
theorem kN_none{pre:List De}{x:BA}(h:pre.any (zBA x)=false):kN pre x=0:=by
 have:=kF_get pre x;rw[kF_none h]at this;simp at this
 omega
theorem kN_some{pre:List De}{x:BA}(h:pre.any (zBA x)=true)(hg:∀q∈pre,1<=q.kd):0<kN pre x:=by
 unfold kN
 cases hf:pre.find? (zBA x)with
 |none =>
  rw[List.find?_eq_none]at hf;obtain⟨q,hq,hs⟩:=List.any_eq_true.1 h;exact absurd hs (hf q hq)
 |some q =>
  have:=hg q (List.mem_of_find?_eq_some hf);show 0<q.kd
  omega
theorem kF_push{pre:List De}{d:De}(h:pre.any (zBA d.id)=false):(fun k=>if k=d.id then some (Value.int .i64 d.kd) else kF pre k)=kF (pre++[d]):=by
 funext k
 unfold kF;rw[List.find?_append]
 by_cases hk:k=d.id
 ·subst hk
  have:pre.find? (zBA d.id)=none:=by
   exact tb0
  simp[this,zBA]
 ·rw[aW hk]
  have:zBA k d=false:=by simp[zBA];exact fun e=>hk e.symm
  simp[this]
theorem fl_push{b c:Bool}{P:Prop}[Decidable P](h:c=(b || decide P)):(if P then some (Value.bool true) else fl b)=fl c:=by
 subst h
 by_cases hp:P<;>simp[hp,fl]
theorem end_push{pre:List De}{d:De}(hk:d.kd=4):(fun k=>if k=d.ot then some (Value.bool true) else fl (endB pre k))=fun k=>fl (endB (pre++[d]) k):=by
 funext k
 exact fl_push (by unfold endB;rw[dX];simp[hk,eq_comm])
theorem born_push{pre:List De}{d:De}(hk:d.kd=1):(fun k=>if k=d.th then some (Value.bool true) else fl (bornB pre k))=fun k=>fl (bornB (pre++[d]) k):=by
 funext k
 exact fl_push (by unfold bornB;rw[dX];simp[hk,eq_comm])
theorem gone_push{pre:List De}{d:De}(hk:d.kd=5):(fun k=>if k=d.fr then some (Value.bool true) else fl (goneB pre k))=fun k=>fl (goneB (pre++[d]) k):=by
 funext k
 exact fl_push (by unfold goneB;rw[dX];simp[hk,eq_comm])
theorem end_same{pre:List De}{d:De}(hk:d.kd≠4):(fun k=>fl (endB (pre++[d]) k))=fun k=>fl (endB pre k):=by
 funext k;unfold endB;rw[dX];simp[hk]
theorem born_same{pre:List De}{d:De}(hk:d.kd≠1):(fun k=>fl (bornB (pre++[d]) k))=fun k=>fl (bornB pre k):=by
 funext k;unfold bornB;rw[dX];simp[hk]
theorem gone_same{pre:List De}{d:De}(hk:d.kd≠5):(fun k=>fl (goneB (pre++[d]) k))=fun k=>fl (goneB pre k):=by
 funext k;unfold goneB;rw[dX];simp[hk]
structure CS (w0 w:World) (ci:Nat) (A:Option Addr) (c r1 r2 g1 g2:Nat) (AL:Option Addr) (cL:Nat) (l:List Rg) (uA:Option Addr) (uc:Nat) (us:List BA) (m2 m3 m4 m5 lo hi:Nat) (p:De) (pre:List De):Prop where
 bel:Below w0.heap.size w0 w
 ck:Bx w ci (ckC A c r1 r2 g1 g2 AL cL l uA uc us m2 m3 m4 m5 p) 170
 rg:Rgs w0 A l
 st:Strs w0 uA us
 far:∀w'':World,(∀x,lo<=x->x<hi->w''.heap[x]?=w.heap[x]?)->Rgs w'' A l->WR w'' A r1 r2 g1 g2 AL l
 hh:hi<=w.heap.size
 k2:zDa Value.string w m2 (kF pre) pre.length
 k3:zAu Value.string w m3 (fun k=>fl (endB pre k))
 k4:zAu Value.string w m4 (fun k=>fl (bornB pre k))
 k5:zAu Value.string w m5 (fun k=>fl (goneB pre k))
 ou:∀x,x=ci\/x=m2\/x=m3\/x=m4\/x=m5->w0.heap.size<=x/\(x<lo\/hi<=x)
 ne:m2≠m3/\m2≠m4/\m2≠m5/\m3≠m4/\m3≠m5/\m4≠m5
 la:pre=[]\/pre.getLast?=some p
section
variable {w0 w w':World} {ci:Nat} {A:Option Addr} {c r1 r2 g1 g2:Nat} {AL:Option Addr} {cL:Nat} {l:List Rg} {uA:Option Addr} {uc:Nat} {us:List BA} {m2 m3 m4 m5 lo hi:Nat} {p:De} {pre:List De}
theorem CS.below(h:CS w0 w ci A c r1 r2 g1 g2 AL cL l uA uc us m2 m3 m4 m5 lo hi p pre)(hb:Below w.heap.size w w'):CS w0 w' ci A c r1 r2 g1 g2 AL cL l uA uc us m2 m3 m4 m5 lo hi p pre:=
 ⟨zAa h.bel hb,h.ck.below hb,h.rg,h.st,fun w'' hf=>h.far w'' fun x h1 h2=>(hf x h1 h2).trans (hb.block x (aB h2 h.hh)),dC h.hh hb.size,h.k2.below hb,h.k3.below hb,h.k4.below hb,h.k5.below hb,h.ou,h.ne,h.la⟩
theorem CS.wr(h:CS w0 w ci A c r1 r2 g1 g2 AL cL l uA uc us m2 m3 m4 m5 lo hi p pre):WR w A r1 r2 g1 g2 AL l:=h.far w (fun _ _ _=>rfl) (h.rg.below h.bel)
theorem CS.str(h:CS w0 w ci A c r1 r2 g1 g2 AL cL l uA uc us m2 m3 m4 m5 lo hi p pre):Strs w uA us:=h.st.below h.bel
theorem CS.cne(h:CS w0 w ci A c r1 r2 g1 g2 AL cL l uA uc us m2 m3 m4 m5 lo hi p pre):ci≠m2/\ci≠m3/\ci≠m4/\ci≠m5:=
 ⟨zAi h.k2.is h.ck,zAi h.k3 h.ck,zAi h.k4 h.ck,zAi h.k5 h.ck⟩
end
def offB(ci m2 m3 m4 m5 x:Nat):Prop:=x≠ci/\x≠m2/\x≠m3/\x≠m4/\x≠m5
theorem CS.next{w0 w w':World}{ci:Nat}{A:Option Addr}{c r1 r2 g1 g2:Nat}{AL:Option Addr}{cL:Nat}{l:List Rg}{uA:Option Addr}{uc:Nat}{us:List BA}{m2 m3 m4 m5 lo hi:Nat}{p d:De}{pre:List De}(h:CS w0 w ci A c r1 r2 g1 g2 AL cL l uA uc us m2 m3 m4 m5 lo hi p pre)(ho:w'.os=w.os/\w'.tape=w.tape/\w'.output=w.output/\w.heap.size<=w'.heap.size)(hx:∀x,x<w.heap.size->offB ci m2 m3 m4 m5 x->w'.heap[x]?=w.heap[x]?)(hc:Bx w' ci (ckC A c r1 r2 g1 g2 AL cL l uA uc us m2 m3 m4 m5 d) 170)(h2:zDa Value.string w' m2 (kF (pre++[d])) (pre++[d]).length)(h3:zAu Value.string w' m3 (fun k=>fl (endB (pre++[d]) k)))(h4:zAu Value.string w' m4 (fun k=>fl (bornB (pre++[d]) k)))(h5:zAu Value.string w' m5 (fun k=>fl (goneB (pre++[d]) k))):
  CS w0 w' ci A c r1 r2 g1 g2 AL cL l uA uc us m2 m3 m4 m5 lo hi d (pre++[d]):=by
 have hoff:∀x,(x<w0.heap.size\/(lo<=x/\x<hi))->offB ci m2 m3 m4 m5 x:=fun x hx=>by
  refine⟨?_,?_,?_,?_,?_⟩<;>(rintro rfl;have:=h.ou x zd;omega)
 have hb:Below w0.heap.size w w':=⟨ho.1,ho.2.1,ho.2.2.1,ho.2.2.2,fun k hk=>hx k (aB hk h.bel.size) (hoff k (.inl hk))⟩;exact⟨h.bel.trans hb,hc,h.rg,h.st,fun w'' hf=>h.far w'' fun x h1 h2=>(hf x h1 h2).trans (hx x (aB h2 h.hh) (hoff x (.inr ⟨h1,h2⟩))),dC h.hh ho.2.2.2,h2,h3,h4,h5,h.ou,h.ne,.inr zd⟩
theorem grown_refl(w:World)(row:Option Nat):w.grownBy w row:=⟨rfl,rfl,rfl,aE _,fun _ _ _=>rfl⟩
theorem CS.done{w0 w w12 w13 w14:World}{ci:Nat}{A:Option Addr}{c r1 r2 g1 g2:Nat}{AL:Option Addr}{cL:Nat}{l:List Rg}{uA:Option Addr}{uc:Nat}{us:List BA}{m2 m3 m4 m5 lo hi m:Nat}{p d:De}{pre:List De}(h:CS w0 w ci A c r1 r2 g1 g2 AL cL l uA uc us m2 m3 m4 m5 lo hi p pre)(hid:pre.any (zBA d.id)=false)(hm:zDa Value.string w12 m2 (fun k=>if k=d.id then some (Value.int .i64 d.kd) else kF pre k) (pre.length+1))(hg:w.grownBy w12 (some m2))(hs:w12.heap.size=w.heap.size)
  (hw13:w13=w12.setRow ci (ckC A c r1 r2 g1 g2 AL cL l uA uc us m2 m3 m4 m5 d)) (hg14:w13.grownBy w14 (some m)) (hmm:m=m3\/m=m4\/m=m5)
  (h3:zAu Value.string w14 m3 (fun k=>fl (endB (pre++[d]) k))) (h4:zAu Value.string w14 m4 (fun k=>fl (bornB (pre++[d]) k))) (h5:zAu Value.string w14 m5 (fun k=>fl (goneB (pre++[d]) k))) :
  CS w0 w14 ci A c r1 r2 g1 g2 AL cL l uA uc us m2 m3 m4 m5 lo hi d (pre++[d]):=by
 subst hw13;have hc12:Bx w12 ci (ckC A c r1 r2 g1 g2 AL cL l uA uc us m2 m3 m4 m5 p) 170:=(hg.block _ h.ck.lt (by simp;exact h.cne.1)).trans h.ck;have hsz:(w12.setRow ci (ckC A c r1 r2 g1 g2 AL cL l uA uc us m2 m3 m4 m5 d)).heap.size=w.heap.size:=by rw[setRow_size,hs]
 have hb:∀x,x<w.heap.size->x≠m->w14.heap[x]?=(w12.setRow ci (ckC A c r1 r2 g1 g2 AL cL l uA uc us m2 m3 m4 m5 d)).heap[x]?:=fun x hx hn=>hg14.block x (by rw[hsz];exact hx) (by simp;exact hn)
 have hcm:ci≠m:=by
  have:=h.cne
  rcases hmm with rfl|rfl|rfl
  ·exact this.2.1
  ·exact this.2.2.1
  ·exact this.2.2.2
 have h2m:m2≠m:=by
  have:=h.ne
  rcases hmm with rfl|rfl|rfl
  ·exact this.1
  ·exact this.2.1
  ·exact this.2.2.1
 refine h.next ⟨?_,?_,?_,?_⟩ (fun x hx ho=>?_) ?_ ?_ h3 h4 h5
 ·rw[hg14.os,setRow_os,hg.os]
 ·rw[hg14.tape,setRow_tape,hg.tape]
 ·rw[hg14.output,setRow_output,hg.output]
 ·have:=hg14.size
  rw[hsz]at this;exact this
 ·obtain⟨o1,o2,o3,o4,o5⟩:=ho
  have hxm:x≠m:=by rcases hmm with rfl|rfl|rfl<;>assumption
  rw[hb x hx hxm,setRow_other _ _ _ _ o1,hg.block x hx (by simp;exact o2)]
 ·exact(hb ci h.ck.lt hcm).trans (setRow_heap _ _ _ _ _ _ hc12)
 ·have hk:zDa Value.string w14 m2 (fun k=>if k=d.id then some (Value.int .i64 d.kd) else kF pre k) (pre.length+1):=
   hm.keep ((hb m2 h.k2.lt h2m).trans (setRow_other _ _ _ _ h.cne.1.symm))
  rw[kF_push hid]at hk
  simpa using hk
theorem CS.mid{w0 w w12:World}{ci:Nat}{A:Option Addr}{c r1 r2 g1 g2:Nat}{AL:Option Addr}{cL:Nat}{l:List Rg}{uA:Option Addr}{uc:Nat}{us:List BA}{m2 m3 m4 m5 lo hi:Nat}{p:De}{pre:List De}(h:CS w0 w ci A c r1 r2 g1 g2 AL cL l uA uc us m2 m3 m4 m5 lo hi p pre)(hg:w.grownBy w12 (some m2))(X:Array Value): zAu Value.string (w12.setRow ci X) m3 (fun k=>fl (endB pre k))/\zAu Value.string (w12.setRow ci X) m4 (fun k=>fl (bornB pre k))/\zAu Value.string (w12.setRow ci X) m5 (fun k=>fl (goneB pre k)):=by
 have k:∀{x:Nat},x<w.heap.size->x≠ci->x≠m2->(w12.setRow ci X).heap[x]?=w.heap[x]?:=fun hx h1 h2=>by
  rw[setRow_other _ _ _ _ h1,hg.block _ hx (by simp;exact h2)]
 have hn:=h.ne;have hc:=h.cne;exact⟨h.k3.keep (k h.k3.lt hc.2.1.symm hn.1.symm),h.k4.keep (k h.k4.lt hc.2.2.1.symm hn.2.1.symm),h.k5.keep (k h.k5.lt hc.2.2.2.symm hn.2.2.1.symm)⟩
theorem run_storeVar_ck(ci:Nat)(A:Option Addr)(c r1 r2 g1 g2:Nat)(AL:Option Addr)(cL:Nat)(l:List Rg)(uA:Option Addr)(uc:Nat)(us:List BA)(m2 m3 m4 m5:Nat)(p d:De)(w:World)(hg:Bx w ci (ckC A c r1 r2 g1 g2 AL cL l uA uc us m2 m3 m4 m5 p) 170): (storeVar 126 ⟨ci,11,none⟩ (deV d)).run Tryz.prog w=.ok () (w.setRow ci (ckC A c r1 r2 g1 g2 AL cL l uA uc us m2 m3 m4 m5 d)):=by
 have h:=run_storeCells_at Tryz.prog ci 11 170 (deC d).toList 0 _ w hg zd (fun v hv=>by simp at hv;rcases hv with h|h|h|h|h|h|h|h|h|h|h|h|h|h|h|h<;>(subst h;rfl));have hi:(Tryz.prog.info? 126).map (·.size)=some (deC d).size:=zb
 cases hq:Tryz.prog.info? 126 with
 |none=>rw[hq]at hi;cases hi
 |some i =>
  have hs:(deC d).size=i.size:=by rw[hq]at hi;simpa using hi.symm
  have h3:(storeCells ⟨ci,11,none⟩ (deC d).toList 0).run Tryz.prog w=.ok () (w.setRow ci (ckC A c r1 r2 g1 g2 AL cL l uA uc us m2 m3 m4 m5 d)):=h;show(storeVar 126 ⟨ci,11,none⟩ (.agg (deC d))).run Tryz.prog w=_
  generalize deC d=dc at *;generalize w.setRow ci (ckC A c r1 r2 g1 g2 AL cL l uA uc us m2 m3 m4 m5 d)=w2 at *;simp[storeVar,sizeOf,typeInfo,hq,Value.cells,hs,h3]
theorem wpList_store_var{P:Program}{ops:Array Oper}{rest:List Oper}{o:Oper}{a:Act}{w w2:World}{Q:Exit->Act->World->Prop}(hgd:o.guard=none)(ty:TypeId)(x y:Operand)(ho:o.op=.store ty x y)(ad:Addr)(v:Value)(hx:a.eval x=.pointer (some ad))(hy:a.eval y=v)(hr:(storeVar ty ad v).run P w=.ok () w2)(h:wpList P ops Q rest (a.put o.dst undef) w2):wpList P ops Q (o::rest) a w:=
 wpList_plain hgd fun _ hK=>by
  unfold Oper.wp execOp;simp only[ho,hx,hy,Instr.storeAt,Instr.sureAddr,Sem.run_bind,Sem.run_pure,Result.andThen_ok,hr];exact hK _ _ h
theorem wp_store_var{P:Program}{o:Oper}{a:Act}{w w2:World}{K:Act->World->Prop}{Q:Exit->Act->World->Prop}(ty:TypeId)(x y:Operand)(ho:o.op=.store ty x y)(ad:Addr)(v:Value)(hx:a.eval x=.pointer (some ad))(hy:a.eval y=v)(hr:(storeVar ty ad v).run P w=.ok () w2)(h:K (a.put o.dst undef) w2):o.wp P a w K Q:=by
 unfold Oper.wp execOp;simp only[ho,hx,hy,Instr.storeAt,Instr.sureAddr,Sem.run_bind,Sem.run_pure,Result.andThen_ok,hr];exact h
theorem rangeD{w:World}{b:Nat}{d:De}(h:Bx w b (deC d) 126):w.rangeAt b 0 (deC d).toList:=fun j v hv=>by
 rw[bJ];exact h.cell (by rw[<-hv,Array.getElem?_toList])
theorem rangeP{w:World}{ci:Nat}{A:Option Addr}{c r1 r2 g1 g2:Nat}{AL:Option Addr}{cL:Nat}{l:List Rg}{uA:Option Addr}{uc:Nat}{us:List BA}{m2 m3 m4 m5:Nat}{p:De}(h:Bx w ci (ckC A c r1 r2 g1 g2 AL cL l uA uc us m2 m3 m4 m5 p) 170):w.rangeAt ci 11 (deC p).toList:=fun j v hv=>by
 refine h.cell ?_;have e:(ckC A c r1 r2 g1 g2 AL cL l uA uc us m2 m3 m4 m5 p).toList=(ckC A c r1 r2 g1 g2 AL cL l uA uc us m2 m3 m4 m5 p).toList.take 11++(deC p).toList:=rfl;rw[<-Array.getElem?_toList,e,List.getElem?_append_right zd];rw[<-hv]
 congr 1
 simp
theorem yields_deed{ops:Array Oper}{S:World->Prop}{op:Oper}{a:Act}(hw:Region.wanted op (yielded ops a.tmps)=true)(x:Operand)(ho:op.op=.load 126 x)(b o:Nat)(hx:a.eval x=.pointer (some ⟨b,o,none⟩))(d:De)(hS:∀w,S w->w.rangeAt b o (deC d).toList):YieldsIf Tryz.prog ops S op (deV d) a:=by
 exact yieldsIf_load_mid hw _ x ho b o hx (deC d).toList _ hS Tryz.underlying126 rfl zb
def divV(d:De):Int:=
 if (d.kd=1/\zBi d.th=false)\/(d.kd=5/\zBi d.fr=false) then 5 else if zCF d.bg=false then 1 else zCw d
theorem values_1(ci:Nat)(A:Option Addr)(c r1 r2 g1 g2:Nat)(AL:Option Addr)(cL:Nat)(l:List Rg)(uA:Option Addr)(uc:Nat)(us:List BA)(m2 m3 m4 m5:Nat)(p d:De)(f2 f3:BA->Option Value)(w:World)(hk:d.kd=1)(hc:Bx w ci (ckC A c r1 r2 g1 g2 AL cL l uA uc us m2 m3 m4 m5 p) 170)(hw:WR w A r1 r2 g1 g2 AL l)(hu:Strs w uA us)(hd:DeOk w d)(h2:zAu Value.string w m2 f2)(h3:zAu Value.string w m3 f3): Calls Tryz.prog 153 #[.pointer (some ⟨ci,0,none⟩),deV d,.agg #[.bool true,.bool false,.bool false,.bool false,.bool false,.bool false,.bool false,.bool true,.bool false]] w (zAg (.int .i64 (divV d)) w):=by
 generalize hres:divV d=res;have HR:=zq hres;clear hres;have HV:=zq (VS.start w ci #[.bool true,.bool false,.bool false,.bool false,.bool false,.bool false,.bool false,.bool true,.bool false] A c r1 r2 g1 g2 AL cL l uA uc us m2 m3 m4 m5 p d f2 f3 hc hw hu hd h2 h3);clear hc hw hu hd h2 h3;obtain⟨W,hW⟩:∃W,W=(w.alloc (.cells (deC d) 126)).alloc (.cells #[.bool true,.bool false,.bool false,.bool false,.bool false,.bool false,.bool false,.bool true,.bool false] 128):=⟨_,rfl⟩;rw[<-hW]at HV
 go_enter Tryz.func153,Tryz.ntmps153;(go_wp2_with fail);rw[<-hW];clear hW;have hsz:=HV.o.fx.lt;have x3:=HV.o.dx.c 3 rfl;have x12:=HV.o.dx.c 12 rfl;have y0:=HV.o.fx.c 0 rfl;have y1:=HV.o.fx.c 1 rfl;have y2:=HV.o.fx.c 2 rfl;have y3:=HV.o.fx.c 3 rfl;have y4:=HV.o.fx.c 4 rfl;have y5:=HV.o.fx.c 5 rfl;have y6:=HV.o.fx.c 6 rfl;have y7:=HV.o.fx.c 7 rfl;have y8:=HV.o.fx.c 8 rfl;have hz:=HV.o.dok.strs.2.1;(go_wp2_with fail);(with_reducible refine(zBE d.th _ hz).mono ?_);rintro e w2⟨rfl,hb2⟩;have HV2:=zq (HV.o.below hb2);clear hsz x3 x12 y0 y1 y2 y3 y4 y5 y6 y7 y8;clear hb2 HV
 cases hnm:zBi d.th with
 |false =>
  have HS:Hid (res=5):=by
   exact tdh
  clear hnm HR hk;have hsz:=HV2.o.fx.lt;have x3:=HV2.o.dx.c 3 rfl;exact tan
 |true =>
  have HR1:Hid ((if zCF d.bg=false then (1:Int) else zCw d)=res):=by
   exact tdh
  clear hnm HR hk;have HDY:=zq (fun W'=>isDay_c d.bg W');have hsz:=HV2.o.fx.lt;have x3:=HV2.o.dx.c 3 rfl;have x12:=HV2.o.dx.c 12 rfl;have y0:=HV2.o.fx.c 0 rfl;have y1:=HV2.o.fx.c 1 rfl;have y2:=HV2.o.fx.c 2 rfl;have y3:=HV2.o.fx.c 3 rfl;have y4:=HV2.o.fx.c 4 rfl;have y5:=HV2.o.fx.c 5 rfl;have y6:=HV2.o.fx.c 6 rfl;have y7:=HV2.o.fx.c 7 rfl;have y8:=HV2.o.fx.c 8 rfl;(go_wp2_with fail);(with_reducible refine(HDY.o _).mono ?_);rintro e w3⟨rfl,rfl⟩
  cases hb:zCF d.bg with
  |false =>
   exact tbm
  |true =>
   have HS:Hid (res=zCw d):=by
    show _=_
    rw[<-HR1.o,aW (by rw[hb];simp)]
   have HSH:=zq (checkShares_c d w2 HV2.o.dok);clear hb HR1 HDY;have x0:=HV2.o.dx.c 0 rfl;have x1:=HV2.o.dx.c 1 rfl;have x2:=HV2.o.dx.c 2 rfl;have x4:=HV2.o.dx.c 4 rfl;exact tac
theorem values_5(ci:Nat)(A:Option Addr)(c r1 r2 g1 g2:Nat)(AL:Option Addr)(cL:Nat)(l:List Rg)(uA:Option Addr)(uc:Nat)(us:List BA)(m2 m3 m4 m5:Nat)(p d:De)(f2 f3:BA->Option Value)(w:World)(hk:d.kd=5)(hc:Bx w ci (ckC A c r1 r2 g1 g2 AL cL l uA uc us m2 m3 m4 m5 p) 170)(hw:WR w A r1 r2 g1 g2 AL l)(hu:Strs w uA us)(hd:DeOk w d)(h2:zAu Value.string w m2 f2)(h3:zAu Value.string w m3 f3): Calls Tryz.prog 153 #[.pointer (some ⟨ci,0,none⟩),deV d,.agg #[.bool false,.bool true,.bool false,.bool false,.bool false,.bool false,.bool false,.bool true,.bool false]] w (zAg (.int .i64 (divV d)) w):=by
 generalize hres:divV d=res;have HR:=zq hres;clear hres;have HV:=zq (VS.start w ci #[.bool false,.bool true,.bool false,.bool false,.bool false,.bool false,.bool false,.bool true,.bool false] A c r1 r2 g1 g2 AL cL l uA uc us m2 m3 m4 m5 p d f2 f3 hc hw hu hd h2 h3);clear hc hw hu hd h2 h3;obtain⟨W,hW⟩:∃W,W=(w.alloc (.cells (deC d) 126)).alloc (.cells #[.bool false,.bool true,.bool false,.bool false,.bool false,.bool false,.bool false,.bool true,.bool false] 128):=⟨_,rfl⟩;rw[<-hW]at HV
 go_enter Tryz.func153,Tryz.ntmps153;(go_wp2_with fail);rw[<-hW];clear hW;have hsz:=HV.o.fx.lt;have x4:=HV.o.dx.c 4 rfl;have x12:=HV.o.dx.c 12 rfl;have y0:=HV.o.fx.c 0 rfl;have y1:=HV.o.fx.c 1 rfl;have y2:=HV.o.fx.c 2 rfl;have y3:=HV.o.fx.c 3 rfl;have y4:=HV.o.fx.c 4 rfl;have y5:=HV.o.fx.c 5 rfl;have y6:=HV.o.fx.c 6 rfl;have y7:=HV.o.fx.c 7 rfl;have y8:=HV.o.fx.c 8 rfl;have hz:=HV.o.dok.strs.2.2.1;(go_wp2_with fail);(with_reducible refine(zBE d.fr _ hz).mono ?_);rintro e w2⟨rfl,hb2⟩;have HV2:=zq (HV.o.below hb2);clear hsz x4 x12 y0 y1 y2 y3 y4 y5 y6 y7 y8;clear hb2 HV
 cases hnm:zBi d.fr with
 |false =>
  have HS:Hid (res=5):=by
   exact tdh
  clear hnm HR hk;have hsz:=HV2.o.fx.lt;have x4:=HV2.o.dx.c 4 rfl;exact tan
 |true =>
  have HR1:Hid ((if zCF d.bg=false then (1:Int) else zCw d)=res):=by
   exact tdh
  clear hnm HR hk;have HDY:=zq (fun W'=>isDay_c d.bg W');have hsz:=HV2.o.fx.lt;have x4:=HV2.o.dx.c 4 rfl;have x12:=HV2.o.dx.c 12 rfl;have y0:=HV2.o.fx.c 0 rfl;have y1:=HV2.o.fx.c 1 rfl;have y2:=HV2.o.fx.c 2 rfl;have y3:=HV2.o.fx.c 3 rfl;have y4:=HV2.o.fx.c 4 rfl;have y5:=HV2.o.fx.c 5 rfl;have y6:=HV2.o.fx.c 6 rfl;have y7:=HV2.o.fx.c 7 rfl;have y8:=HV2.o.fx.c 8 rfl;(go_wp2_with fail);(with_reducible refine(HDY.o _).mono ?_);rintro e w3⟨rfl,rfl⟩
  cases hb:zCF d.bg with
  |false =>
   exact tbm
  |true =>
   have HS:Hid (res=zCw d):=by
    show _=_
    rw[<-HR1.o,aW (by rw[hb];simp)]
   have HSH:=zq (checkShares_c d w2 HV2.o.dok);clear hb HR1 HDY;have x0:=HV2.o.dx.c 0 rfl;have x1:=HV2.o.dx.c 1 rfl;have x2:=HV2.o.dx.c 2 rfl;have x3:=HV2.o.dx.c 3 rfl;exact tac
def restF(d:De):Int:=if zCF d.bg=false\/zCF d.en=false then 1 else if d.en<=d.bg then 8 else 0
def giftF2(l:List Rg)(us:List BA)(d:De):Int:=
 if zBi d.th=false\/zBi d.fr=false\/zBi d.to_=false then 5
 else if d.fr=d.to_ then 12
 else if parF d≠0 then parF d
 else if zBo l us d≠0 then zBo l us d else restF d
theorem giftF_two(l:List Rg)(us:List BA)(d:De):giftF l us d=giftF2 l us d:=by
 unfold giftF giftF2 zBo restF
 by_cases h1:zCX l d.ar=0
 ·by_cases h2:zAW l d.ar=[]\/d.us=[]
  ·simp[h1,h2]
  ·simp[h1,h2]
 ·simp[h1]
theorem values_3(ci:Nat)(A:Option Addr)(c r1 r2 g1 g2:Nat)(AL:Option Addr)(cL:Nat)(l:List Rg)(uA:Option Addr)(uc:Nat)(us:List BA)(m2 m3 m4 m5:Nat)(p d:De)(f2 f3:BA->Option Value)(w:World)(hk:d.kd=3)(g:GoodR l)(hul:us.length<=1000000)(hc:Bx w ci (ckC A c r1 r2 g1 g2 AL cL l uA uc us m2 m3 m4 m5 p) 170)(hw:WR w A r1 r2 g1 g2 AL l)(hu:Strs w uA us)(hd:DeOk w d)(h2:zAu Value.string w m2 f2)(h3:zAu Value.string w m3 f3): Calls Tryz.prog 153 #[.pointer (some ⟨ci,0,none⟩),deV d,.agg #[.bool true,.bool true,.bool true,.bool false,.bool true,.bool true,.bool true,.bool false,.bool false]] w (zAg (.int .i64 (giftF2 l us d)) w):=by
 generalize hres:giftF2 l us d=res;have HR:=zq hres;clear hres;have HV:=zq (VS.start w ci #[.bool true,.bool true,.bool true,.bool false,.bool true,.bool true,.bool true,.bool false,.bool false] A c r1 r2 g1 g2 AL cL l uA uc us m2 m3 m4 m5 p d f2 f3 hc hw hu hd h2 h3);clear hc hw hu hd h2 h3;obtain⟨W,hW⟩:∃W,W=(w.alloc (.cells (deC d) 126)).alloc (.cells #[.bool true,.bool true,.bool true,.bool false,.bool true,.bool true,.bool true,.bool false,.bool false] 128):=⟨_,rfl⟩;rw[<-hW]at HV
 go_enter Tryz.func153,Tryz.ntmps153;(go_wp2_with fail);rw[<-hW];clear hW;have hsz:=HV.o.fx.lt;have x3:=HV.o.dx.c 3 rfl;have x4:=HV.o.dx.c 4 rfl;have x5:=HV.o.dx.c 5 rfl;have y0:=HV.o.fx.c 0 rfl;have y1:=HV.o.fx.c 1 rfl;have y2:=HV.o.fx.c 2 rfl;have y3:=HV.o.fx.c 3 rfl;have y4:=HV.o.fx.c 4 rfl;have y5:=HV.o.fx.c 5 rfl;have y6:=HV.o.fx.c 6 rfl;have y7:=HV.o.fx.c 7 rfl;have y8:=HV.o.fx.c 8 rfl;have hz:=HV.o.dok.strs.2.1;(go_wp2_with fail);(with_reducible refine(zBE d.th _ hz).mono ?_);rintro e w2⟨rfl,hb2⟩;have HV2:=zq (HV.o.below hb2);clear hsz x3 x4 x5 y0 y1 y2 y3 y4 y5 y6 y7 y8 hz;clear hb2 HV
 cases hnm0:zBi d.th with
 |false =>
  exact tai
 |true =>
  have hsz:=HV2.o.fx.lt;have x3:=HV2.o.dx.c 3 rfl;have x4:=HV2.o.dx.c 4 rfl;have x5:=HV2.o.dx.c 5 rfl;have y0:=HV2.o.fx.c 0 rfl;have y1:=HV2.o.fx.c 1 rfl;have y2:=HV2.o.fx.c 2 rfl;have y3:=HV2.o.fx.c 3 rfl;have y4:=HV2.o.fx.c 4 rfl;have y5:=HV2.o.fx.c 5 rfl;have y6:=HV2.o.fx.c 6 rfl;have y7:=HV2.o.fx.c 7 rfl;have y8:=HV2.o.fx.c 8 rfl;have hz:=HV2.o.dok.strs.2.2.1;(go_wp2_with fail);(with_reducible refine(zBE d.fr _ hz).mono ?_);rintro e w3⟨rfl,hb3⟩;have HV3:=zq (HV2.o.below hb3);clear hsz x3 x4 x5 y0 y1 y2 y3 y4 y5 y6 y7 y8 hz;clear hb3 HV2
  cases hnm1:zBi d.fr with
  |false =>
   exact tah
  |true =>
   have hsz:=HV3.o.fx.lt;have x3:=HV3.o.dx.c 3 rfl;have x4:=HV3.o.dx.c 4 rfl;have x5:=HV3.o.dx.c 5 rfl;have y0:=HV3.o.fx.c 0 rfl;have y1:=HV3.o.fx.c 1 rfl;have y2:=HV3.o.fx.c 2 rfl;have y3:=HV3.o.fx.c 3 rfl;have y4:=HV3.o.fx.c 4 rfl;have y5:=HV3.o.fx.c 5 rfl;have y6:=HV3.o.fx.c 6 rfl;have y7:=HV3.o.fx.c 7 rfl;have y8:=HV3.o.fx.c 8 rfl;have hz:=HV3.o.dok.strs.2.2.2.1;(go_wp2_with fail);(with_reducible refine(zBE d.to_ _ hz).mono ?_);rintro e w4⟨rfl,hb4⟩;have HV4:=zq (HV3.o.below hb4);clear hsz x3 x4 x5 y0 y1 y2 y3 y4 y5 y6 y7 y8 hz;clear hb4 HV3
   cases hnm2:zBi d.to_ with
   |false =>
    exact tag
   |true =>
    have HR1:Hid ((if d.fr=d.to_ then (12:Int) else if parF d≠0 then parF d else if zBo l us d≠0 then zBo l us d else restF d)=res):=by
     exact tbg
    clear hnm0 hnm1 hnm2 HR
    by_cases hft:d.fr=d.to_
    ·exact taj
    have hfb:(d.fr.toList == d.to_.toList)=false:=zBh hft
    have HR2:Hid ((if parF d≠0 then parF d else if zBo l us d≠0 then zBo l us d else restF d)=res):=by
     show _=_
     rw[<-HR1.o,aW hft]
    clear hft HR1
    have hpf:parF d=0:=by
     unfold parF;rw[aD za]
    have HR3:Hid ((if zBo l us d≠0 then zBo l us d else restF d)=res):=by
     show _=_
     have hn:¬parF d≠0:=fun h=>h hpf
     rw[<-HR2.o,aW hn]
    clear hpf HR2 hk;have x4:=HV4.o.dx.c 4 rfl;have x5:=HV4.o.dx.c 5 rfl;have HPL:=zq (place_c ci A c r1 r2 g1 g2 AL cL l uA uc us m2 m3 m4 m5 p d w4 HV4.o.ck g HV4.o.wrl HV4.o.st hul HV4.o.dok);have hsz:=HV4.o.fx.lt;have x0:=HV4.o.dx.c 0 rfl;have x1:=HV4.o.dx.c 1 rfl;have x2:=HV4.o.dx.c 2 rfl;have x3:=HV4.o.dx.c 3 rfl;have x4:=HV4.o.dx.c 4 rfl;have x5:=HV4.o.dx.c 5 rfl;have x6:=HV4.o.dx.c 6 rfl;have x7:=HV4.o.dx.c 7 rfl;have x8:=HV4.o.dx.c 8 rfl;have x9:=HV4.o.dx.c 9 rfl;have x10:=HV4.o.dx.c 10 rfl;have x11:=HV4.o.dx.c 11 rfl;have x12:=HV4.o.dx.c 12 rfl;have x13:=HV4.o.dx.c 13 rfl;have x14:=HV4.o.dx.c 14 rfl;have x15:=HV4.o.dx.c 15 rfl;have y0:=HV4.o.fx.c 0 rfl;have y1:=HV4.o.fx.c 1 rfl;have y2:=HV4.o.fx.c 2 rfl;have y3:=HV4.o.fx.c 3 rfl;have y4:=HV4.o.fx.c 4 rfl;have y5:=HV4.o.fx.c 5 rfl;have y6:=HV4.o.fx.c 6 rfl;have y7:=HV4.o.fx.c 7 rfl;have y8:=HV4.o.fx.c 8 rfl;(go_wp2_with fail);(with_reducible refine HPL.o.mono ?_);rintro e w4p⟨rfl,hbp⟩;have HV5:=zq (HV4.o.below hbp);clear hsz x0 x1 x2 x3 x4 x5 x6 x7 x8 x9 x10 x11 x12 x13 x14 x15 y0 y1 y2 y3 y4 y5 y6 y7 y8;clear hbp HV4 HPL
    by_cases hpz:zBo l us d=0
    case neg =>
     have hpb:(zBo l us d != 0)=true:=by simpa using hpz
     have HS:Hid (res=zBo l us d):=by
      show _=_
      rw[<-HR3.o,aD hpz]
     clear HR3 hpz;exact tc8
    have HRP:Hid (restF d=res):=by
     show _=_
     rw[<-HR3.o,aW (fun h=>h hpz)]
    rw[hpz];clear hpz HR3;have HDY:=zq (fun n W'=>isDay_c n W');have hsz:=HV5.o.fx.lt;have x11:=HV5.o.dx.c 11 rfl;have x12:=HV5.o.dx.c 12 rfl;have x13:=HV5.o.dx.c 13 rfl;have y0:=HV5.o.fx.c 0 rfl;have y1:=HV5.o.fx.c 1 rfl;have y2:=HV5.o.fx.c 2 rfl;have y3:=HV5.o.fx.c 3 rfl;have y4:=HV5.o.fx.c 4 rfl;have y5:=HV5.o.fx.c 5 rfl;have y6:=HV5.o.fx.c 6 rfl;have y7:=HV5.o.fx.c 7 rfl;have y8:=HV5.o.fx.c 8 rfl;(go_wp2_with fail);(with_reducible refine(HDY.o _ _).mono ?_);rintro e w4qa⟨rfl,rfl⟩
    cases hb1:zCF d.bg with
    |false =>
     have HS:Hid (res=1):=by
      show _=_
      rw[<-HRP.o];unfold restF;rw[aD (.inl hb1)]
     clear hb1 HRP HDY;exact tc8
    |true =>
     (go_wp2_with fail);(with_reducible refine(HDY.o _ _).mono ?_);rintro e w4qb⟨rfl,rfl⟩
     cases hb2:zCF d.en with
     |false =>
      have HS:Hid (res=1):=by
       show _=_
       rw[<-HRP.o];unfold restF;rw[aD (.inr hb2)]
      clear hb1 hb2 HRP HDY;exact tc8
     |true =>
      have HRZ:Hid ((if d.en<=d.bg then (8:Int) else 0)=res):=by
       exact tbu
      clear hb1 hb2 HDY HRP
      by_cases hle:d.en<=d.bg
      ·have hleb:decide (d.en<=d.bg)=true:=aT hle
       have HS:Hid (res=8):=by
        show _=_
        rw[<-HRZ.o,aD hle]
       clear HRZ;exact tc8
      ·have hleb:decide (d.en<=d.bg)=false:=aU hle
       have HS:Hid (res=0):=by
        show _=_
        rw[<-HRZ.o,aW hle]
       clear HRZ;exact tc8
end Go.Proofs.YtbbchlpccgkikaaGreatDoor
