/- Parts of the proof, joined: Package right (places): the first statement of newWorld. Walks over th. -/
import Derived.Test.YtoaelidmmcbkfaaGreatDoorSt09
set_option maxRecDepth 100000
set_option maxHeartbeats 8000000
namespace Go.Proofs.YtoaelidmmcbkfaaGreatDoor
open Go.RowKit Dw
theorem boxOf_size (SL lv:Value) (r1 r2 g1 g2 n:Nat):(boxOf SL lv r1 r2 g1 g2 n).size=6:=rfl
theorem run_store6 {w:World} {s:Nat} {cs:Array Value} (hcs:cs.size=6) (hs:w.heap[s]?=some (.cells cs 97 (0,0))) (new:Array Value) (hn:new.size=6) (h1:∀ v∈new.toList,v.oneCell'=true) :
  (Instr.storeAt 97 (.pointer (some ⟨s,0,none⟩)) (.agg new)).run Tryz.prog w = .ok () (w.setRow s new):=by
 have hst:=run_storeCells_at Tryz.prog s 0 97 new.toList 0 cs w hs (by simp [hn,hcs]) h1
 have e:(cs.toList.take (0+0)++new.toList++cs.toList.drop (0+0+new.toList.length)).toArray=new:=by
  have:cs.toList.drop (0+0+new.toList.length)=[]:=aA (by simp [hn,hcs])
  rw [this];simp
 rw [e] at hst;have hsz:(sizeOf 97).run Tryz.prog w = .ok 6 w:=zb;simp [Instr.storeAt,Instr.sureAddr,storeVar,hsz,Value.cells,hn,hst]
theorem J1.s11 {w0 w:World} {B n r1 r2 g1 g2 s:Nat} {SL:Value} {done:Nat→Bool} {vals:Nat→Value} (h:J1 w0 B SL n r1 r2 g1 g2 s done vals w) (h9:done 9=true) (h10:done 10=true) (v:Value) :
  J1 w0 B SL n r1 r2 g1 g2 s (zBx done 11 true) (zBx vals 11 v) (w.setRow s (boxOf SL zAj r1 r2 g1 g2 n)):=by
 obtain ⟨hv,⟨cs,hcs,hs⟩,hB⟩:=h.d10 h10;have hne:∀ {k:Nat},k≠s→(w.setRow s (boxOf SL zAj r1 r2 g1 g2 n)).heap[k]?=w.heap[k]?:=fun hk=>setRow_other w s _ _ hk
 have hmap:∀ {r:Nat} {f:BA→Option Value},zAt Value.string w r f→r≠s:=fun hm e=>by
  obtain ⟨es,clk,L,hr,_⟩:=hm;rw [e,hs] at hr;cases hr
 have hcell:∀ {g:Nat} {c:Array Value} {t:TypeId},t≠97→w.heap[g]?=some (.cells c t (0,0))→g≠s:=fun ht hg e=>by
  rw [e,hs] at hg
  injection hg with hg
  injection hg with _ hg
  exact ht hg.symm
 exact {
  d0:=fun hd=>by rw [zAa _ _ zc] at hd ⊢;exact h.d0 hd
  d1:=fun hd=>by
   rw [zAa _ _ zc] at hd ⊢;obtain ⟨h1,h2,h3⟩:=h.d1 hd;exact ⟨h1,h2.keep (hne (hmap h2)),h3⟩
  d2:=fun hd=>by
   rw [zAa _ _ zc] at hd ⊢;obtain ⟨h1,h2,h3⟩:=h.d2 hd;exact ⟨h1,h2.keep (hne (hmap h2)),h3⟩
  d12:=fun hd hd'=>by rw [zAa _ _ zc] at hd hd';exact h.d12 hd hd'
  d3:=fun hd=>by rw [zAa _ _ zc] at hd ⊢;exact h.d3 hd
  d4:=fun hd=>by rw [zAa _ _ zc] at hd ⊢;exact h.d4 hd
  d5:=fun hd=>by
   rw [zAa _ _ zc] at hd ⊢;obtain ⟨h1,h2,h3⟩:=h.d5 hd;exact ⟨h1,(hne (hcell zc h2)).trans h2,h3⟩
  d6:=fun hd=>by rw [zAa _ _ zc] at hd ⊢;exact h.d6 hd
  d7:=fun hd=>by rw [zAa _ _ zc] at hd ⊢;exact h.d7 hd
  d8:=fun hd=>by
   rw [zAa _ _ zc] at hd ⊢;obtain ⟨h1,h2,h3⟩:=h.d8 hd;exact ⟨h1,(hne (hcell zc h2)).trans h2,h3⟩
  d9:=fun hd=>by rw [zAa _ _ zc] at hd ⊢;exact h.d9 hd
  d9':=fun hd=>by
   rw [zAa _ _ zc] at hd;rw [zAa _ _ zc,zAa _ _ zc,zAa _ _ zc,zAa _ _ zc];exact h.d9' hd
  d10:=fun hd=>by
   rw [zAa _ _ zc] at hd ⊢;exact ⟨(h.d10 hd).1,⟨_,boxOf_size _ _ _ _ _ _ _,setRow_heap w s cs _ _ _ hs⟩,hB⟩
  d11:=fun _=>setRow_heap w s cs _ _ _ hs
  d11':=fun _=>by
   rw [zAa _ _ zc,zAa _ _ zc];exact ⟨h9,h10⟩
  below:=⟨h.below.os,h.below.tape,h.below.output,by simpa using h.below.size,fun k hk=>(hne za).trans (h.below.block k hk)⟩
  size:=by simpa using h.size }
theorem region1 {ops:Array Oper} {Q:Exit→Act→World→Prop} {a0:Act} {w:World} {id:Nat} {A:Option Addr} {n c:Nat} (hn:n≤200) (hsz:ops.size=12) (hap:apartB ops=true) (hb:backB ops=true) (hk0:notDst ops 0=true)
  (ha0:a0.eval (.tmp 0) = .slice A n c) (has:22<a0.tmps.size)
  (o0:∃ ty ps af,ops[0]?=some ⟨some 13,.move (.tmp 0),ty,ps,af,none⟩)
  (o1:∃ ty ps af,ops[1]?=some ⟨some 14,.makeMap 93 none,ty,ps,af,none⟩)
  (o2:∃ ty ps af,ops[2]?=some ⟨some 15,.makeMap 93 none,ty,ps,af,none⟩)
  (o3:∃ ty ps af,ops[3]?=some ⟨some 16,.move (.tmp 0),ty,ps,af,none⟩)
  (o4:∃ ty ps af,ops[4]?=some ⟨some 17,.call { callee:=.builtin .len,args:=#[.tmp 16],argTypes:=#[22] },ty,ps,af,none⟩)
  (o5:∃ ty ps af,ops[5]?=some ⟨some 18,.makeSlice 94 (.tmp 17) (.tmp 17),ty,ps,af,none⟩)
  (o6:∃ ty ps af,ops[6]?=some ⟨some 19,.move (.tmp 0),ty,ps,af,none⟩)
  (o7:∃ ty ps af,ops[7]?=some ⟨some 20,.call { callee:=.builtin .len,args:=#[.tmp 19],argTypes:=#[22] },ty,ps,af,none⟩)
  (o8:∃ ty ps af,ops[8]?=some ⟨some 21,.makeSlice 95 (.tmp 20) (.tmp 20),ty,ps,af,none⟩)
  (o9:∃ ty ps af,ops[9]?=some ⟨some 22,.build 97 #[(0,.tmp 13),(1,.tmp 14),(3,.tmp 15),(4,.tmp 18),(5,.tmp 21)],ty,ps,af,none⟩)
  (o10:∃ ty ps af,ops[10]?=some ⟨some 3,.alloc 97,ty,ps,af,none⟩)
  (o11:∃ ty ps af,ops[11]?=some ⟨none,.store 97 (.tmp 3) (.tmp 22),ty,ps,af,none⟩)
  (e43:depB ops 4 3=true) (e54:depB ops 5 4=true) (e76:depB ops 7 6=true) (e87:depB ops 8 7=true)
  (e90:depB ops 9 0=true) (e91:depB ops 9 1=true) (e92:depB ops 9 2=true) (e95:depB ops 9 5=true) (e98:depB ops 9 8=true) (e119:depB ops 11 9=true) (e1110:depB ops 11 10=true)
  (hK:∀ (r1 r2 g1 g2 s:Nat) (vals:Nat→Value) (w':World),NW w w' w.heap.size (.slice A n c) zAj r1 r2 g1 g2 s n (fun _=>none) (fun _=>none) (Array.replicate n (.int .i64 0)) (Array.replicate n zAj) →
   vals 0 = .slice A n c→vals 1 = .map (some r1)→vals 2 = .map (some r2)→vals 3 = .slice A n c→vals 4 = .int .i64 (n:Int)→vals 5=slAt g1 n→vals 6 = .slice A n c→vals 7 = .int .i64 (n:Int)→vals 8=slAt g2 n →
   vals 9 = .agg (boxOf (.slice A n c) zAj r1 r2 g1 g2 n)→vals 10 = .pointer (some ⟨s,0,none⟩)→Q .normal (zAl ops vals (List.range 12) a0) w') :
  (Code.region id ops true).wp Tryz.prog Q a0 w:=by
 have hAp:=apart_of hap;refine zDq zb hAp hb (fun _=>undef) (fun done vals w'=>∃ r1 r2 g1 g2 s,J1 w w.heap.size (.slice A n c) n r1 r2 g1 g2 s done vals w') ?_ ?_ ?_
 ·exact ⟨0,0,0,0,0,zg,zg,zg,zg,zg,zg,zg,zg,zg,zg,zg,zg,zg,zg,zg,(bN _ _).drew,aB _⟩
 ·intro i done vals w1 hi ⟨r1,r2,g1,g2,s,hJ⟩ hd hdep
  rw [hsz] at hi;have hlen:∀ ty:TypeId,(Builtin.len_ #[22] ty #[.slice A n c]).run Tryz.prog w1 = .ok (.int .i64 (n:Int)) w1:=fun _=>zb
  have hev0:(zAl ops vals (zAz ops.size done) a0).eval (.tmp 0) = .slice A n c:=(eval_kept hk0).trans ha0
  match i,hi with
  | 0,_ =>
   obtain ⟨ty,ps,af,ho⟩:=o0;refine zAk ho rfl (v:=.slice A n c) (w':=w1) (by simp [execOp,hev0]) ⟨_,zu,_,_,_,_,_,hJ.s0⟩
  | 1,_ =>
   obtain ⟨ty,ps,af,ho⟩:=o1;refine zAk ho rfl (v:=.map (some w1.heap.size)) (w':=w1.alloc (.map #[] 0)) qp ⟨_,zu,_,_,_,_,_,hJ.s1 hd⟩
  | 2,_ =>
   obtain ⟨ty,ps,af,ho⟩:=o2;refine zAk ho rfl (v:=.map (some w1.heap.size)) (w':=w1.alloc (.map #[] 0)) qp ⟨_,zu,_,_,_,_,_,hJ.s2 hd⟩
  | 3,_ =>
   obtain ⟨ty,ps,af,ho⟩:=o3;refine zAk ho rfl (v:=.slice A n c) (w':=w1) (by simp [execOp,hev0]) ⟨_,zu,_,_,_,_,_,hJ.s3⟩
  | 4,_ =>
   obtain ⟨ty,ps,af,ho⟩:=o4;have h3:=zAT e43 hdep
   have hev:(zAl ops vals (zAz ops.size done) a0).eval (.tmp 16) = .slice A n c:=by
    obtain ⟨ty',ps',af',ho'⟩:=o3;rw [zAo hAp (a:=a0) (j:=3) (d:=16) za zv h3 (aT (m:=22) zc has),hJ.d3 h3]
   refine zAk ho rfl (v:=.int .i64 (n:Int)) (w':=w1) (by simp [execOp,resolve,invoke,builtin,hev,hlen]) ⟨_,zu,_,_,_,_,_,hJ.s4⟩
  | 5,_ =>
   obtain ⟨ty,ps,af,ho⟩:=o5;have h4:=zAT e54 hdep
   have hev:(zAl ops vals (zAz ops.size done) a0).eval (.tmp 17) = .int .i64 (n:Int):=by
    obtain ⟨ty',ps',af',ho'⟩:=o4;rw [zAo hAp (a:=a0) (j:=4) (d:=17) za zv h4 (aT (m:=22) zc has),hJ.d4 h4]
   refine zAk ho rfl (v:=slAt w1.heap.size n) (w':=w1.alloc (.cells (Array.replicate n (.int .i64 0)) 3)) (by simp [execOp,hev,run_make_n _ _ elInt n za za rfl]) ⟨_,zu,_,_,_,_,_,hJ.s5 hd⟩
  | 6,_ =>
   obtain ⟨ty,ps,af,ho⟩:=o6;refine zAk ho rfl (v:=.slice A n c) (w':=w1) (by simp [execOp,hev0]) ⟨_,zu,_,_,_,_,_,hJ.s6⟩
  | 7,_ =>
   obtain ⟨ty,ps,af,ho⟩:=o7;have h3:=zAT e76 hdep
   have hev:(zAl ops vals (zAz ops.size done) a0).eval (.tmp 19) = .slice A n c:=by
    obtain ⟨ty',ps',af',ho'⟩:=o6;rw [zAo hAp (a:=a0) (j:=6) (d:=19) za zv h3 (aT (m:=22) zc has),hJ.d6 h3]
   refine zAk ho rfl (v:=.int .i64 (n:Int)) (w':=w1) (by simp [execOp,resolve,invoke,builtin,hev,hlen]) ⟨_,zu,_,_,_,_,_,hJ.s7⟩
  | 8,_ =>
   obtain ⟨ty,ps,af,ho⟩:=o8;have h4:=zAT e87 hdep
   have hev:(zAl ops vals (zAz ops.size done) a0).eval (.tmp 20) = .int .i64 (n:Int):=by
    obtain ⟨ty',ps',af',ho'⟩:=o7;rw [zAo hAp (a:=a0) (j:=7) (d:=20) za zv h4 (aT (m:=22) zc has),hJ.d7 h4]
   refine zAk ho rfl (v:=slAt w1.heap.size n) (w':=w1.alloc (.cells (Array.replicate n zAj) 94)) (by simp [execOp,hev,run_make_n _ _ elInts n za za rfl]) ⟨_,zu,_,_,_,_,_,hJ.s8 hd⟩
  | 9,_ =>
   obtain ⟨ty,ps,af,ho⟩:=o9;have q0:=zAT e90 hdep;have q1:=zAT e91 hdep;have q2:=zAT e92 hdep;have q5:=zAT e95 hdep;have q8:=zAT e98 hdep
   have ev0:(zAl ops vals (zAz ops.size done) a0).eval (.tmp 13) = .slice A n c:=by
    obtain ⟨ty',ps',af',ho'⟩:=o0;rw [zAo hAp (a:=a0) (j:=0) (d:=13) za zv q0 (aT (m:=22) zc has),hJ.d0 q0]
   have ev1:(zAl ops vals (zAz ops.size done) a0).eval (.tmp 14) = .map (some r1):=by
    obtain ⟨ty',ps',af',ho'⟩:=o1;rw [zAo hAp (a:=a0) (j:=1) (d:=14) za zv q1 (aT (m:=22) zc has),(hJ.d1 q1).1]
   have ev2:(zAl ops vals (zAz ops.size done) a0).eval (.tmp 15) = .map (some r2):=by
    obtain ⟨ty',ps',af',ho'⟩:=o2;rw [zAo hAp (a:=a0) (j:=2) (d:=15) za zv q2 (aT (m:=22) zc has),(hJ.d2 q2).1]
   have ev5:(zAl ops vals (zAz ops.size done) a0).eval (.tmp 18)=slAt g1 n:=by
    obtain ⟨ty',ps',af',ho'⟩:=o5;rw [zAo hAp (a:=a0) (j:=5) (d:=18) za zv q5 (aT (m:=22) zc has),(hJ.d5 q5).1]
   have ev8:(zAl ops vals (zAz ops.size done) a0).eval (.tmp 21)=slAt g2 n:=by
    obtain ⟨ty',ps',af',ho'⟩:=o8;rw [zAo hAp (a:=a0) (j:=8) (d:=21) za zv q8 (aT (m:=22) zc has),(hJ.d8 q8).1]
   have hbuild:(Instr.build 97 #[(0,.slice A n c),(1,.map (some r1)),(3,.map (some r2)),(4,slAt g1 n),(5,slAt g2 n)]).run Tryz.prog w1 = .ok (.agg (boxOf (.slice A n c) zAj r1 r2 g1 g2 n)) w1:=zb;refine zAk ho rfl (v:=.agg (boxOf (.slice A n c) zAj r1 r2 g1 g2 n)) (w':=w1) (by simp [execOp,ev0,ev1,ev2,ev5,ev8,hbuild]) ⟨_,zu,_,_,_,_,_,hJ.s9 q1 q2 q5 q8⟩
  | 10,_ =>
   obtain ⟨ty,ps,af,ho⟩:=o10;have halloc:(Instr.alloc 97 true (.tuple #[])).run Tryz.prog w1 = .ok (.pointer (some ⟨w1.heap.size,0,none⟩)) (w1.alloc (.cells #[zAj,.map none,zAj,.map none,zAj,zAj] 97)):=zb;refine zAk ho rfl (v:=.pointer (some ⟨w1.heap.size,0,none⟩)) (w':=w1.alloc (.cells #[zAj,.map none,zAj,.map none,zAj,zAj] 97)) (by simp [execOp,halloc]) ⟨_,zu,_,_,_,_,_,hJ.s10 hd _ rfl⟩
  | 11,_ =>
   obtain ⟨ty,ps,af,ho⟩:=o11;have q9:=zAT e119 hdep;have q10:=zAT e1110 hdep
   have ev9:(zAl ops vals (zAz ops.size done) a0).eval (.tmp 22) = .agg (boxOf (.slice A n c) zAj r1 r2 g1 g2 n):=by
    obtain ⟨ty',ps',af',ho'⟩:=o9;rw [zAo hAp (a:=a0) (j:=9) (d:=22) za zv q9 (aT (m:=22) zc has),hJ.d9 q9]
   have ev10:(zAl ops vals (zAz ops.size done) a0).eval (.tmp 3) = .pointer (some ⟨s,0,none⟩):=by
    obtain ⟨ty',ps',af',ho'⟩:=o10;rw [zAo hAp (a:=a0) (j:=10) (d:=3) za zv q10 (aT (m:=22) zc has),(hJ.d10 q10).1]
   obtain ⟨_,⟨cs,hcs,hs⟩,_⟩:=hJ.d10 q10;have hst:=run_store6 hcs hs (boxOf (.slice A n c) zAj r1 r2 g1 g2 n) rfl (by simp [boxOf,Value.oneCell'])
   refine wpOp_skip ho rfl (w':=w1.setRow s (boxOf (.slice A n c) zAj r1 r2 g1 g2 n)) (by simp [execOp,ev9,ev10,hst]) ⟨undef,zu,_,_,_,_,_,hJ.s11 q9 q10 undef⟩
 ·intro done vals w' hall ⟨r1,r2,g1,g2,s,hJ⟩
  rw [hsz] at hall ⊢;have d1:=hJ.d1 (hall 1 za);have d2:=hJ.d2 (hall 2 za);have d5:=hJ.d5 (hall 5 za);have d8:=hJ.d8 (hall 8 za);have d10:=hJ.d10 (hall 10 za)
  exact hK r1 r2 g1 g2 s vals w' ⟨hJ.d11 (hall 11 za),d1.2.1,d2.2.1,d5.2.1,d8.2.1,hJ.d12 (hall 1 za) (hall 2 za),d1.2.2,d2.2.2,d5.2.2,d8.2.2,d10.2.2,hJ.below⟩
   (hJ.d0 (hall 0 za)) d1.1 d2.1 (hJ.d3 (hall 3 za)) (hJ.d4 (hall 4 za)) d5.1 (hJ.d6 (hall 6 za)) (hJ.d7 (hall 7 za)) d8.1 (hJ.d9 (hall 9 za)) d10.1
abbrev encI:Int→List Value:=fun z=>[.int .i64 z]
def zCM (l:List Rg) (k:Nat):List Nat:=(List.range k).filter fun i=>!zAH l i
theorem leafTo_par {l:List Rg} {k:Nat} (h:zAH l k=true):zCM l (k+1)=zCM l k:=by
 unfold zCM;rw [zBI];simp [h]
theorem leafTo_leaf {l:List Rg} {k:Nat} (h:zAH l k=false):zCM l (k+1)=zCM l k++[k]:=by
 unfold zCM;rw [zBI];simp [h]
theorem leafTo_le (l:List Rg) (k:Nat):(zCM l k).length≤k:=by
 unfold zCM;have:=cV (fun i=>!zAH l i) (List.range k)
 simpa using this
def lmF (l:List Rg):Nat→BA→Option Value
 | 0,_=>none
 | k+1,s=>if zAH l k then lmF l k s else if s=nmAt l k then some (.int .i64 ((zCM l k).length:Int)) else lmF l k s
def zBl (l:List Rg) (k x:Nat):List Int:=((zCM l k).zipIdx.filter fun p=>under l p.1 x).map fun p=>(p.2:Int)
theorem belowK_par {l:List Rg} {k:Nat} (h:zAH l k=true) (x:Nat):zBl l (k+1) x=zBl l k x:=by
 unfold zBl;rw [leafTo_par h]
theorem belowK_leaf {l:List Rg} {k:Nat} (h:zAH l k=false) (x:Nat):zBl l (k+1) x=zBl l k x++if under l k x then [((zCM l k).length:Int)] else []:=by
 unfold zBl;rw [leafTo_leaf h,List.zipIdx_append,List.filter_append,dC]
 congr 1
 cases hu:under l k x<;>simp [hu]
theorem belowK_le (l:List Rg) (k x:Nat):(zBl l k x).length≤k:=by
 unfold zBl;rw [cO];refine cM (cV _ _) ?_
 rw [List.length_zipIdx];exact leafTo_le l k
theorem underF_upN {l:List Rg}:∀ {f i k:Nat},zBW l f i k=true→∃ d,upN l d i=some k
 | 0,_,_,h=>by simp [zBW] at h
 | f+1,i,k,h=>by
  rw [zBW] at h
  by_cases e:i=k
  ·exact ⟨0,by simp [upN,e]⟩
  ·cases hu:up l i with
   | none=>rw [hu] at h;simp [e] at h
   | some j =>
    rw [hu] at h;have h':zBW l f j k=true:=by simpa [e] using h
    obtain ⟨d,hd⟩:=underF_upN h';exact ⟨d+1,by rw [upN,hu];exact hd⟩
theorem upN_underF {l:List Rg}:∀ {f i k d:Nat},upN l f i=none→upN l d i=some k→zBW l f i k=true
 | 0,_,_,_,h,_=>by simp [upN] at h
 | f+1,i,k,0,_,h=>by
  have:i=k:=by simpa [upN] using h
  subst this;simp [zBW]
 | f+1,i,k,d+1,h,hd=>by
  rw [upN] at h hd
  cases hu:up l i with
  | none=>rw [hu] at hd;cases hd
  | some j =>
   rw [hu] at h hd;have:=upN_underF h hd;rw [zBW,hu];simp [this]
theorem not_under_up {l:List Rg} (g:GoodR l) {y y' f:Nat} (hy:y<l.length) (hu:up l y=some y'):zBW l f y' y=false:=by
 cases h:zBW l f y' y with
 | false=>rfl
 | true =>
  exfalso
  obtain ⟨d,hd⟩:=underF_upN h;have e:upN l (d+1) y=some y:=by rw [upN,hu];exact hd
  have h1:=g.ends y hy;have h2:=loop_forever e (l.length+2)
  rw [upN_none_mono h1 (by
   have:1*(l.length+2)≤(d+1)*(l.length+2):=aS _ za;omega)] at h2
  cases h2
structure RowsI (w:World) (B g1 n:Nat) (bl:Array Value) (R:Nat→List Int):Prop where
 size:bl.size=n
 own:∀ (x:Nat) (v:Value),bl[x]?=some v→zAN encI 1 w B 3 v (R x)
 ne1:∀ (x:Nat) (v:Value),bl[x]?=some v→v.ownBlock≠some g1
 sep:∀ (x y:Nat) (v u:Value),x≠y→bl[x]?=some v→bl[y]?=some u→v.ownBlock=none∨v.ownBlock≠u.ownBlock
theorem own_keepT {α:Type} {enc:α→List Value} {k:Nat} {w w':World} {base:Nat} {e:TypeId} {v:Value} {l:List α} (h:zAN enc k w base e v l) (hk:∀ (g:Nat) (cs:Array Value),w.heap[g]?=some (.cells cs e (0,0))→w'.heap[g]?=w.heap[g]?):zAN enc k w' base e v l:=by
 refine ⟨h.1,?_⟩
 rcases h.2 with hn | ⟨g,cap,cur,rfl,hb,hgg,rest⟩
 ·exact .inl hn
 ·exact .inr ⟨g,cap,cur,rfl,hb,(hk g cur hgg).trans hgg,rest⟩
theorem zCp {α:Type} {enc:α→List Value} {k:Nat} {w:World} {base:Nat} {e:TypeId} {v:Value} {l:List α} (h:zAN enc k w base e v l) {g:Nat} (hg:v.ownBlock=some g):base≤g∧∃ cs,w.heap[g]?=some (.cells cs e (0,0)):=by
 rcases h.2 with ⟨rfl,_⟩ | ⟨g',cap,cur,rfl,hb,hgg,rest⟩
 ·simp [Value.ownBlock] at hg
 ·have:g'=g:=by simpa [Value.ownBlock] using hg
  subst this;exact ⟨hb,cur,hgg⟩
section
variable {w w':World} {B g1 n:Nat} {bl:Array Value} {R:Nat→List Int}
theorem RowsI.nil (w:World) (B g1 n:Nat):RowsI w B g1 n (Array.replicate n zAj) (fun _=>[]) where
 size:=zg
 own x v h:=by
  rw [Array.getElem?_replicate] at h
  split at h
  ·injection h with h;subst h;exact zAN.nil _ _ _ _ _
  ·cases h
 ne1 x v h:=by
  rw [Array.getElem?_replicate] at h
  split at h
  ·injection h with h;subst h;simp [Value.ownBlock]
  ·cases h
 sep x y v u _ h _:=by
  rw [Array.getElem?_replicate] at h
  split at h
  ·injection h with h;subst h;exact .inl rfl
  ·cases h
theorem RowsI.keepT (h:RowsI w B g1 n bl R) (hk:∀ (g:Nat) (cs:Array Value),w.heap[g]?=some (.cells cs 3 (0,0))→w'.heap[g]?=w.heap[g]?):RowsI w' B g1 n bl R :=
 ⟨h.size,fun x v hv=>own_keepT (h.own x v hv) hk,h.ne1,h.sep⟩
theorem RowsI.congr {R':Nat→List Int} (h:RowsI w B g1 n bl R) (hR:∀ x,x<n→R x=R' x):RowsI w B g1 n bl R' :=
 ⟨h.size,fun x v hv=>by
  have hx:x<n:=by rw [←h.size];exact (Array.getElem?_eq_some_iff.1 hv).1
  rw [←hR x hx];exact h.own x v hv,h.ne1,h.sep⟩
theorem RowsI.alloc (h:RowsI w B g1 n bl R) (o:Obj):RowsI (w.alloc o) B g1 n bl R:=h.keepT fun _ _ hg=>cX w o _ (Array.getElem?_eq_some_iff.1 hg).1
theorem RowsI.push (h:RowsI w B g1 n bl R) {y:Nat} {v v':Value} {m:Int} (hy:bl[y]?=some v) (hg1:g1<w.heap.size) (hg:w.grownBy w' v.ownBlock) (ho:zAN encI 1 w' B 3 v' (R y++[m])) (hat:v'.ownBlock=v.ownBlock∨v'.ownBlock=some w.heap.size) :
  RowsI w' B g1 n (bl.setIfInBounds y v') (fun x=>if x=y then R y++[m] else R x):=by
 have hyl:y<bl.size:=(Array.getElem?_eq_some_iff.1 hy).1
 have hlt:∀ (x:Nat) (u:Value),bl[x]?=some u→∀ k,u.ownBlock=some k→k<w.heap.size:=fun x u hu k hk=>by
  obtain ⟨_,cs,hcs⟩:=zCp (h.own x u hu) hk;exact (Array.getElem?_eq_some_iff.1 hcs).1
 have hget:∀ (x:Nat) (u:Value),(bl.setIfInBounds y v')[x]?=some u→(x=y∧u=v')∨(x≠y∧bl[x]?=some u):=fun x u hu=>by
  rw [Array.getElem?_setIfInBounds] at hu
  by_cases e:y=x
  ·rw [aE e,aE hyl] at hu
   injection hu with hu
   exact .inl ⟨e.symm,hu.symm⟩
  ·rw [aC e] at hu
   exact .inr ⟨fun e'=>e e'.symm,hu⟩
 refine ⟨by simp [h.size],fun x u hu=>?_,fun x u hu=>?_,fun x z u t hxz hu ht=>?_⟩
 ·rcases hget x u hu with ⟨rfl,rfl⟩ | ⟨hne,hu'⟩
  ·simpa using ho
  ·simp only [hne,if_false]
   exact (h.own x u hu').grown hg (h.sep x y u v hne hu' hy)
 ·rcases hget x u hu with ⟨rfl,rfl⟩ | ⟨hne,hu'⟩
  ·rcases hat with e | e
   ·rw [e];exact h.ne1 _ _ hy
   ·rw [e];intro e2;injection e2 with e2;omega
  ·exact h.ne1 x u hu'
 ·rcases hget x u hu with ⟨rfl,rfl⟩ | ⟨hne,hu'⟩
  ·rcases hget z t ht with ⟨rfl,rfl⟩ | ⟨hne2,ht'⟩
   ·exact absurd rfl hxz
   ·rcases hat with e | e
    ·rw [e];exact h.sep _ _ _ _ (Ne.symm hne2) hy ht'
    ·right
     rw [e];intro e2;have:=hlt z t ht' _ e2.symm;omega
  ·rcases hget z t ht with ⟨rfl,rfl⟩ | ⟨hne2,ht'⟩
   ·rcases hat with e | e
    ·rw [e];exact h.sep _ _ _ _ hne hu' hy
    ·right
     rw [e];intro e2;have:=hlt x u hu' _ e2;omega
   ·exact h.sep x z u t hxz hu' ht'
end
structure J2 (w0:World) (B s g2 n y:Nat) (M:Int) (v:Value) (L:List Int) (done:Nat→Bool) (vals:Nat→Value) (w:World):Prop where
 d0:done 0=true→vals 0 = .pointer (some ⟨s,5,none⟩)
 d1:done 1=true→vals 1=slAt g2 n
 d2:done 2=true→vals 2 = .int .i64 (y:Int)
 d3:done 3=true→vals 3 = .pointer (some ⟨s,5,none⟩)
 d4:done 4=true→vals 4=slAt g2 n
 d5:done 5=true→vals 5 = .int .i64 (y:Int)
 d6:done 6=true→vals 6 = .pointer (some ⟨g2,y,none⟩)
 d7:done 7=true→vals 7=v
 d8:done 8=true→vals 8 = .int .i64 M
 d9:done 9=true→vals 9 = .slice (some ⟨w0.heap.size,0,none⟩) 1 1
 d11:done 11=true→vals 11 = .pointer (some ⟨g2,y,none⟩)
 d10':done 10=true→done 9=true
 d12':done 12=true→∀ j,j<12→done j=true
 w9:done 9=false→w=w0.drew
 w10:done 9=true→done 10=false→w=(w0.alloc (.cells #[.int .i64 M] 3)).drew
 w12:done 10=true→∃ A' c' wA,vals 10 = .slice A' (L.length+1) c'∧zAN encI 1 wA B 3 (.slice A' (L.length+1) c') (L++[M])∧(w0.alloc (.cells #[.int .i64 M] 3)).grownBy wA v.ownBlock ∧
  ((Value.slice A' (L.length+1) c').ownBlock=v.ownBlock∨(Value.slice A' (L.length+1) c').ownBlock=some (w0.heap.size+1))∧(done 12=false→w=wA)∧(done 12=true→w=wA.setCell ⟨g2,y,none⟩ (.slice A' (L.length+1) c'))
theorem J2.keep {w0 w:World} {B s g2 n y:Nat} {M:Int} {v:Value} {L:List Int} {done:Nat→Bool} {vals:Nat→Value} (h:J2 w0 B s g2 n y M v L done vals w) (h12:done 12=false) {p:Addr} (hp:p.block<w0.heap.size) (hne:v.ownBlock≠some p.block) :
  w.heap[p.block]?=w0.heap[p.block]?∧w0.heap.size≤w.heap.size:=by
 cases h9:done 9 with
 | false=>rw [h.w9 h9];exact ⟨rfl,aB _⟩
 | true =>
  cases h10:done 10 with
  | false =>
   rw [h.w10 h9 h10];exact ⟨cX w0 _ _ hp,zg⟩
  | true =>
   obtain ⟨A',c',wA,_,_,hg,_,hw,_⟩:=h.w12 h10;rw [hw h12];exact ⟨(hg.block _ zj (fun e=>hne e.symm)).trans (cX w0 _ _ hp),by have:=hg.size;simp at this;omega⟩
theorem J2.pure {w0 w:World} {B s g2 n y:Nat} {M:Int} {v:Value} {L:List Int} {done:Nat→Bool} {vals:Nat→Value} (h:J2 w0 B s g2 n y M v L done vals w) {i:Nat} {u:Value} (hi:i≠9∧i≠10∧i≠12)
  (hu:(i=0→u = .pointer (some ⟨s,5,none⟩))∧(i=1→u=slAt g2 n)∧(i=2→u = .int .i64 (y:Int))∧(i=3→u = .pointer (some ⟨s,5,none⟩))∧(i=4→u=slAt g2 n)∧(i=5→u = .int .i64 (y:Int))∧(i=6→u = .pointer (some ⟨g2,y,none⟩))∧(i=7→u=v)∧(i=8→u = .int .i64 M)∧(i=11→u = .pointer (some ⟨g2,y,none⟩))) (hd:done i=false) :
  J2 w0 B s g2 n y M v L (zBx done i true) (zBx vals i u) w:=by
 obtain ⟨n9,n10,n12⟩:=hi;obtain ⟨u0,u1,u2,u3,u4,u5,u6,u7,u8,u11⟩:=hu;have e9:zBx done i true 9=done 9:=zAa _ _ (Ne.symm n9);have e10:zBx done i true 10=done 10:=zAa _ _ (Ne.symm n10);have e12:zBx done i true 12=done 12:=zAa _ _ (Ne.symm n12)
 have step:∀ {j:Nat} {c:Value},(done j=true→vals j=c)→(i=j→u=c)→zBx done i true j=true→zBx vals i u j=c:=fun {j c} h1 h2 h3=>by
  by_cases e:j=i
  ·subst e;rw [zAp];exact h2 rfl
  ·rw [zAa _ _ e] at h3 ⊢;exact h1 h3
 exact {
  d0:=step h.d0 u0
  d1:=step h.d1 u1
  d2:=step h.d2 u2
  d3:=step h.d3 u3
  d4:=step h.d4 u4
  d5:=step h.d5 u5
  d6:=step h.d6 u6
  d7:=step h.d7 u7
  d8:=step h.d8 u8
  d9:=fun hh=>by rw [e9] at hh;rw [zAa _ _ (Ne.symm n9)];exact h.d9 hh
  d11:=step h.d11 u11
  d10':=fun hh=>by rw [e10] at hh;rw [e9];exact h.d10' hh
  d12':=fun hh=>by
   rw [e12] at hh;intro j hj
   by_cases e:j=i
   ·subst e;exact zAp _ _ _
   ·rw [zAa _ _ e];exact h.d12' hh j hj
  w9:=fun hh=>by rw [e9] at hh;exact h.w9 hh
  w10:=fun hh hh'=>by rw [e9] at hh;rw [e10] at hh';exact h.w10 hh hh'
  w12:=fun hh=>by
   rw [e10] at hh;obtain ⟨A',c',wA,h1,h2,h3,h4,h5,h6⟩:=h.w12 hh;exact ⟨A',c',wA,by rw [zAa _ _ (Ne.symm n10)];exact h1,h2,h3,h4,fun hx=>h5 (by rw [e12] at hx;exact hx),fun hx=>h6 (by rw [e12] at hx;exact hx)⟩ }
theorem region26 {ops:Array Oper} {Q:Exit→Act→World→Prop} {a0:Act} {w0:World} {id B s g2 n y:Nat} {M:Int} {Av:Option Addr} {cv:Nat} {L:List Int} (hL:L.length≤200) (hy:y<n) (hsz:ops.size=13) (hap:apartB ops=true) (hb:backB ops=true)
  (hk3:notDst ops 3=true) (hk11:notDst ops 11=true) (hk12:notDst ops 12=true) (ha3:a0.eval (.tmp 3) = .pointer (some ⟨s,0,none⟩)) (ha11:a0.eval (.tmp 11) = .int .i64 M) (ha12:a0.eval (.tmp 12) = .int .i64 (y:Int)) (has:115<a0.tmps.size)
  (hcs:w0.cell? ⟨s,5,none⟩=some (slAt g2 n)) (hcg:w0.cell? ⟨g2,y,none⟩=some (.slice Av L.length cv)) (hfg:w0.frozen? ⟨g2,y,none⟩=false) (hown:zAN encI 1 w0 B 3 (.slice Av L.length cv) L) (hB:B≤w0.heap.size)
  (hns:(Value.slice Av L.length cv).ownBlock≠some s) (hng:(Value.slice Av L.length cv).ownBlock≠some g2)
  (o0:∃ ty ps af,ops[0]?=some ⟨some 104,.fieldAddr 97 (.tmp 3) 5,ty,ps,af,none⟩)
  (o1:∃ ty ps af,ops[1]?=some ⟨some 105,.load 95 (.tmp 104),ty,ps,af,none⟩)
  (o2:∃ ty ps af,ops[2]?=some ⟨some 106,.move (.tmp 12),ty,ps,af,none⟩)
  (o3:∃ ty ps af,ops[3]?=some ⟨some 107,.fieldAddr 97 (.tmp 3) 5,ty,ps,af,none⟩)
  (o4:∃ ty ps af,ops[4]?=some ⟨some 108,.load 95 (.tmp 107),ty,ps,af,none⟩)
  (o5:∃ ty ps af,ops[5]?=some ⟨some 109,.move (.tmp 12),ty,ps,af,none⟩)
  (o6:∃ ty ps af,ops[6]?=some ⟨some 110,.indexAddr 95 (.tmp 108) (.tmp 109),ty,ps,af,none⟩)
  (o7:∃ ty ps af,ops[7]?=some ⟨some 111,.load 94 (.tmp 110),ty,ps,af,none⟩)
  (o8:∃ ty ps af,ops[8]?=some ⟨some 112,.move (.tmp 11),ty,ps,af,none⟩)
  (o9:∃ ty ps af,ops[9]?=some ⟨some 113,.buildSlice 94 1 #[(0,.tmp 112)],ty,ps,af,none⟩)
  (o10:∃ ty ps af,ops[10]?=some ⟨some 114,.call { callee:=.builtin .append,args:=#[.tmp 111,.tmp 113],argTypes:=#[94,94] },ty,ps,af,none⟩)
  (o11:∃ ty ps af,ops[11]?=some ⟨some 115,.indexAddr 95 (.tmp 105) (.tmp 106),ty,ps,af,none⟩)
  (o12:∃ ty ps af,ops[12]?=some ⟨none,.store 94 (.tmp 115) (.tmp 114),ty,ps,af,none⟩)
  (e10:depB ops 1 0=true) (e43:depB ops 4 3=true) (e64:depB ops 6 4=true) (e65:depB ops 6 5=true) (e76:depB ops 7 6=true) (e98:depB ops 9 8=true) (e107:depB ops 10 7=true) (e109:depB ops 10 9=true) (e111:depB ops 11 1=true) (e112:depB ops 11 2=true)
  (e12:((List.range 12).all fun j=>depB ops 12 j)=true)
  (hK:∀ (A':Option Addr) (c':Nat) (wA:World) (vals:Nat→Value),zAN encI 1 wA B 3 (.slice A' (L.length+1) c') (L++[M])→(w0.alloc (.cells #[.int .i64 M] 3)).grownBy wA (Value.slice Av L.length cv).ownBlock →
   ((Value.slice A' (L.length+1) c').ownBlock=(Value.slice Av L.length cv).ownBlock∨(Value.slice A' (L.length+1) c').ownBlock=some (w0.heap.size+1)) →
   vals 0 = .pointer (some ⟨s,5,none⟩)→vals 1=slAt g2 n→vals 2 = .int .i64 (y:Int)→vals 3 = .pointer (some ⟨s,5,none⟩)→vals 4=slAt g2 n→vals 5 = .int .i64 (y:Int)→vals 6 = .pointer (some ⟨g2,y,none⟩)→vals 7 = .slice Av L.length cv→vals 8 = .int .i64 M →
   vals 9 = .slice (some ⟨w0.heap.size,0,none⟩) 1 1→vals 10 = .slice A' (L.length+1) c'→vals 11 = .pointer (some ⟨g2,y,none⟩)→Q .normal (zAl ops vals (List.range 13) a0) (wA.setCell ⟨g2,y,none⟩ (.slice A' (L.length+1) c'))) :
  (Code.region id ops true).wp Tryz.prog Q a0 w0:=by
 have hAp:=apart_of hap;have hsl:s<w0.heap.size:=World.block_lt_of_cell? w0 _ hcs;have hgl:g2<w0.heap.size:=World.block_lt_of_cell? w0 _ hcg;refine zDq zb hAp hb (fun _=>undef) (J2 w0 B s g2 n y M (.slice Av L.length cv) L) ?_ ?_ ?_
 ·exact ⟨zg,zg,zg,zg,zg,zg,zg,zg,zg,zg,zg,zg,zg,fun _=>rfl,zg,zg⟩
 ·intro i done vals w1 hi hJ hd hdep
  rw [hsz] at hi
  have h12:i≠12→done 12=false:=fun hne=>by
   cases h:done 12 with
   | false=>rfl
   | true=>rw [hJ.d12' h i za] at hd;cases hd
  have hc5:i≠12→w1.cell? ⟨s,5,none⟩=some (slAt g2 n):=fun hne=>by
   rw [←hcs];exact World.cell?_of_block (hJ.keep (h12 hne) (p:=⟨s,5,none⟩) hsl hns).1
  have hcy:i≠12→w1.cell? ⟨g2,y,none⟩=some (.slice Av L.length cv):=fun hne=>by
   rw [←hcg];exact World.cell?_of_block (hJ.keep (h12 hne) (p:=⟨g2,y,none⟩) hgl hng).1
  have hidx:(Instr.indexAt 95 (slAt g2 n) (.int .i64 (y:Int))).run Tryz.prog w1 = .ok (.pointer (some ⟨g2,y,none⟩)) w1:=by
   have hi:(0:Int)≤(y:Int)∧(y:Int)<(n:Int):=za;simp [go_sem,hi]
  have hfld:(Instr.fieldAt 97 (.pointer (some ⟨s,0,none⟩)) 5).run Tryz.prog w1 = .ok (.pointer (some ⟨s,5,none⟩)) w1:=by
   simp [go_sem]
  have hev3:(zAl ops vals (zAz ops.size done) a0).eval (.tmp 3) = .pointer (some ⟨s,0,none⟩):=(eval_kept hk3).trans ha3;have hev11:(zAl ops vals (zAz ops.size done) a0).eval (.tmp 11) = .int .i64 M:=(eval_kept hk11).trans ha11;have hev12:(zAl ops vals (zAz ops.size done) a0).eval (.tmp 12) = .int .i64 (y:Int):=(eval_kept hk12).trans ha12
  match i,hi with
  | 0,_ =>
   obtain ⟨ty,ps,af,ho⟩:=o0;exact zAk ho rfl (v:=.pointer (some ⟨s,5,none⟩)) (w':=w1) (by simp [execOp,hev3,hfld]) ⟨_,zu,hJ.pure zc zg hd⟩
  | 1,_ =>
   obtain ⟨ty,ps,af,ho⟩:=o1;have q:=zAT e10 hdep
   have ev:(zAl ops vals (zAz ops.size done) a0).eval (.tmp 104) = .pointer (some ⟨s,5,none⟩):=by
    obtain ⟨ty',ps',af',ho'⟩:=o0;rw [zAo hAp (a:=a0) (j:=0) (d:=104) za zv q (aT (m:=115) zc has),hJ.d0 q]
   have hld:(Instr.loadAt 95 (.pointer (some ⟨s,5,none⟩))).run Tryz.prog w1 = .ok (slAt g2 n) w1:=by simp [go_sem,hc5 zc]
   exact zAk ho rfl (v:=slAt g2 n) (w':=w1) (by simp [execOp,ev,hld]) ⟨_,zu,hJ.pure zc zg hd⟩
  | 2,_ =>
   obtain ⟨ty,ps,af,ho⟩:=o2;exact zAk ho rfl (v:=.int .i64 (y:Int)) (w':=w1) (by simp [execOp,hev12]) ⟨_,zu,hJ.pure zc zg hd⟩
  | 3,_ =>
   obtain ⟨ty,ps,af,ho⟩:=o3;exact zAk ho rfl (v:=.pointer (some ⟨s,5,none⟩)) (w':=w1) (by simp [execOp,hev3,hfld]) ⟨_,zu,hJ.pure zc zg hd⟩
  | 4,_ =>
   obtain ⟨ty,ps,af,ho⟩:=o4;have q:=zAT e43 hdep
   have ev:(zAl ops vals (zAz ops.size done) a0).eval (.tmp 107) = .pointer (some ⟨s,5,none⟩):=by
    obtain ⟨ty',ps',af',ho'⟩:=o3;rw [zAo hAp (a:=a0) (j:=3) (d:=107) za zv q (aT (m:=115) zc has),hJ.d3 q]
   have hld:(Instr.loadAt 95 (.pointer (some ⟨s,5,none⟩))).run Tryz.prog w1 = .ok (slAt g2 n) w1:=by simp [go_sem,hc5 zc]
   exact zAk ho rfl (v:=slAt g2 n) (w':=w1) (by simp [execOp,ev,hld]) ⟨_,zu,hJ.pure zc zg hd⟩
  | 5,_ =>
   obtain ⟨ty,ps,af,ho⟩:=o5;exact zAk ho rfl (v:=.int .i64 (y:Int)) (w':=w1) (by simp [execOp,hev12]) ⟨_,zu,hJ.pure zc zg hd⟩
  | 6,_ =>
   obtain ⟨ty,ps,af,ho⟩:=o6;have q4:=zAT e64 hdep;have q5:=zAT e65 hdep
   have ev4:(zAl ops vals (zAz ops.size done) a0).eval (.tmp 108)=slAt g2 n:=by
    obtain ⟨ty',ps',af',ho'⟩:=o4;rw [zAo hAp (a:=a0) (j:=4) (d:=108) za zv q4 (aT (m:=115) zc has),hJ.d4 q4]
   have ev5:(zAl ops vals (zAz ops.size done) a0).eval (.tmp 109) = .int .i64 (y:Int):=by
    obtain ⟨ty',ps',af',ho'⟩:=o5;rw [zAo hAp (a:=a0) (j:=5) (d:=109) za zv q5 (aT (m:=115) zc has),hJ.d5 q5]
   exact zAk ho rfl (v:=.pointer (some ⟨g2,y,none⟩)) (w':=w1) (by simp [execOp,ev4,ev5,hidx]) ⟨_,zu,hJ.pure zc zg hd⟩
  | 7,_ =>
   obtain ⟨ty,ps,af,ho⟩:=o7;have q:=zAT e76 hdep
   have ev:(zAl ops vals (zAz ops.size done) a0).eval (.tmp 110) = .pointer (some ⟨g2,y,none⟩):=by
    obtain ⟨ty',ps',af',ho'⟩:=o6;rw [zAo hAp (a:=a0) (j:=6) (d:=110) za zv q (aT (m:=115) zc has),hJ.d6 q]
   have hld:(Instr.loadAt 94 (.pointer (some ⟨g2,y,none⟩))).run Tryz.prog w1 = .ok (.slice Av L.length cv) w1:=by simp [go_sem,hcy zc]
   exact zAk ho rfl (v:=.slice Av L.length cv) (w':=w1) (by simp [execOp,ev,hld]) ⟨_,zu,hJ.pure zc zg hd⟩
  | 8,_ =>
   obtain ⟨ty,ps,af,ho⟩:=o8;exact zAk ho rfl (v:=.int .i64 M) (w':=w1) (by simp [execOp,hev11]) ⟨_,zu,hJ.pure zc zg hd⟩
  | 9,_ =>
   obtain ⟨ty,ps,af,ho⟩:=o9;have q:=zAT e98 hdep
   have ev:(zAl ops vals (zAz ops.size done) a0).eval (.tmp 112) = .int .i64 M:=by
    obtain ⟨ty',ps',af',ho'⟩:=o8;rw [zAo hAp (a:=a0) (j:=8) (d:=112) za zv q (aT (m:=115) zc has),hJ.d8 q]
   have hw:=hJ.w9 hd
   have h10:done 10=false:=by
    cases h:done 10 with
    | false=>rfl
    | true=>rw [hJ.d10' h] at hd;cases hd
   have hbs:(Instr.buildSlice 94 1 #[(0,.int .i64 M)]).run Tryz.prog w1 = .ok (.slice (some ⟨w1.heap.size,0,none⟩) 1 1) (w1.alloc (.cells #[.int .i64 M] 3)):=zb;refine zAk ho rfl (v:=.slice (some ⟨w1.heap.size,0,none⟩) 1 1) (w':=w1.alloc (.cells #[.int .i64 M] 3)) (by simp [execOp,ev,hbs]) ⟨_,zu,?_⟩
   subst hw;have ne:∀ {j:Nat},j≠9→zBx done 9 true j=done j:=fun hj=>zAa _ _ hj
   have nv:∀ {j:Nat} {u:Value},j≠9→zBx vals 9 u j=vals j:=fun hj=>zAa _ _ hj
   exact {
    d0:=fun hh=>yz
    d1:=fun hh=>qb
    d2:=fun hh=>qc
    d3:=fun hh=>qd
    d4:=fun hh=>qe
    d5:=fun hh=>qf
    d6:=fun hh=>qg
    d7:=fun hh=>qh
    d8:=fun hh=>qi
    d9:=fun _=>zAp _ _ _
    d11:=fun hh=>yy
    d10':=fun _=>zAp _ _ _
    d12':=fun hh=>by rw [ne zc,h12 zc] at hh;cases hh
    w9:=fun hh=>by rw [zAp] at hh;cases hh
    w10:=fun _ _=>rfl
    w12:=fun hh=>by rw [ne zc,h10] at hh;cases hh }
  | 10,_ =>
   obtain ⟨ty,ps,af,ho⟩:=o10;have q7:=zAT e107 hdep;have q9:=zAT e109 hdep
   have ev7:(zAl ops vals (zAz ops.size done) a0).eval (.tmp 111) = .slice Av L.length cv:=by
    obtain ⟨ty',ps',af',ho'⟩:=o7;rw [zAo hAp (a:=a0) (j:=7) (d:=111) za zv q7 (aT (m:=115) zc has),hJ.d7 q7]
   have ev9:(zAl ops vals (zAz ops.size done) a0).eval (.tmp 113) = .slice (some ⟨w0.heap.size,0,none⟩) 1 1:=by
    obtain ⟨ty',ps',af',ho'⟩:=o9;rw [zAo hAp (a:=a0) (j:=9) (d:=113) za zv q9 (aT (m:=115) zc has),hJ.d9 q9]
   have hw:=hJ.w10 q9 hd;have f12:=h12 zc;obtain ⟨i0,hi0,hz0,hz1,hz2⟩:=info_parts elInt.info
   obtain ⟨v',wA,hrun,h2,h3,_,h5⟩:=run_append_own_at (P:=Tryz.prog) w1 B 94 ty 3 i0 _ 1 8 elInt.ty hi0 hz0 hz1 hz2 rfl zc (.slice Av L.length cv) L.length (L.flatMap encI) (by rw [hw];exact (hown.alloc _)) ⟨w0.heap.size,0,none⟩ 1 1 [.int .i64 M] rfl
    (by rw [hw];exact World.news_of_block (cs:=#[.int .i64 M]) (t:=3) (fr:=(0,0)) (bY w0 _)) yi yk za (by rw [hw];simp;omega)
   have ho':zAN encI 1 wA B 3 v' (L++[M]):=by
    unfold zAN
    simpa using h2
   obtain ⟨A',c',rfl⟩:∃ A' c',v' = .slice A' (L.length+1) c':=by
    rcases h2.2 with ⟨rfl,hn⟩ | ⟨g,cap,cur,rfl,_⟩
    ·omega
    ·exact ⟨_,_,rfl⟩
   refine zAk ho rfl (v:=.slice A' (L.length+1) c') (w':=wA) (by simp [execOp,resolve,invoke,builtin,ev7,ev9,hrun]) ⟨_,zu,?_⟩
   have ne:∀ {j:Nat},j≠10→zBx done 10 true j=done j:=fun hj=>zAa _ _ hj
   have nv:∀ {j:Nat} {u:Value},j≠10→zBx vals 10 u j=vals j:=fun hj=>zAa _ _ hj
   have h3':(w0.alloc (.cells #[.int .i64 M] 3)).grownBy wA (Value.slice Av L.length cv).ownBlock:=by
    rw [hw] at h3;exact ⟨h3.os,h3.tape,h3.output,h3.size,h3.block⟩
   have h5':(Value.slice A' (L.length+1) c').ownBlock=(Value.slice Av L.length cv).ownBlock∨(Value.slice A' (L.length+1) c').ownBlock=some (w0.heap.size+1):=by
    rw [hw] at h5
    simpa using h5
   exact {
    d0:=fun hh=>yz
    d1:=fun hh=>qb
    d2:=fun hh=>qc
    d3:=fun hh=>qd
    d4:=fun hh=>qe
    d5:=fun hh=>qf
    d6:=fun hh=>qg
    d7:=fun hh=>qh
    d8:=fun hh=>qi
    d9:=fun hh=>by rw [ne zc] at hh;rw [nv zc];exact hJ.d9 hh
    d11:=fun hh=>yy
    d10':=fun _=>by rw [ne zc];exact q9
    d12':=fun hh=>by rw [ne zc,f12] at hh;cases hh
    w9:=fun hh=>by rw [ne zc,q9] at hh;cases hh
    w10:=fun _ hh=>by rw [zAp] at hh;cases hh
    w12:=fun _=>⟨A',c',wA,zAp _ _ _,ho',h3',h5',fun _=>rfl,fun hh=>by rw [ne zc,f12] at hh;cases hh⟩ }
  | 11,_ =>
   obtain ⟨ty,ps,af,ho⟩:=o11;have q1:=zAT e111 hdep;have q2:=zAT e112 hdep
   have ev1:(zAl ops vals (zAz ops.size done) a0).eval (.tmp 105)=slAt g2 n:=by
    obtain ⟨ty',ps',af',ho'⟩:=o1;rw [zAo hAp (a:=a0) (j:=1) (d:=105) za zv q1 (aT (m:=115) zc has),hJ.d1 q1]
   have ev2:(zAl ops vals (zAz ops.size done) a0).eval (.tmp 106) = .int .i64 (y:Int):=by
    obtain ⟨ty',ps',af',ho'⟩:=o2;rw [zAo hAp (a:=a0) (j:=2) (d:=106) za zv q2 (aT (m:=115) zc has),hJ.d2 q2]
   exact zAk ho rfl (v:=.pointer (some ⟨g2,y,none⟩)) (w':=w1) (by simp [execOp,ev1,ev2,hidx]) ⟨_,zu,hJ.pure zc zg hd⟩
  | 12,_ =>
   obtain ⟨ty,ps,af,ho⟩:=o12;have qa:∀ j,j<12→done j=true:=fun j hj=>zAT (List.all_eq_true.1 e12 j (List.mem_range.2 hj)) hdep
   obtain ⟨A',c',wA,hv10,hoA,hgA,hat,hwA,_⟩:=hJ.w12 (qa 10 za);have hw:=hwA hd
   have ev11:(zAl ops vals (zAz ops.size done) a0).eval (.tmp 115) = .pointer (some ⟨g2,y,none⟩):=by
    obtain ⟨ty',ps',af',ho'⟩:=o11;rw [zAo hAp (a:=a0) (j:=11) (d:=115) za zv (qa 11 za) (aT (m:=115) zc has),hJ.d11 (qa 11 za)]
   have ev10:(zAl ops vals (zAz ops.size done) a0).eval (.tmp 114) = .slice A' (L.length+1) c':=by
    obtain ⟨ty',ps',af',ho'⟩:=o10;rw [zAo hAp (a:=a0) (j:=10) (d:=114) za zv (qa 10 za) (aT (m:=115) zc has),hv10]
   have hblk:=hJ.keep hd (p:=⟨g2,y,none⟩) hgl hng
   have hcA:wA.cell? ⟨g2,y,none⟩=some (.slice Av L.length cv):=by
    rw [hw] at hblk;rw [←hcg];exact World.cell?_of_block hblk.1
   have hfA:wA.frozen? ⟨g2,y,none⟩=false:=by
    rw [hw] at hblk;rw [←hfg];exact World.frozen?_of_block hblk.1
   have hst:(Instr.storeAt 94 (.pointer (some ⟨g2,y,none⟩)) (.slice A' (L.length+1) c')).run Tryz.prog wA = .ok () (wA.setCell ⟨g2,y,none⟩ (.slice A' (L.length+1) c')):=by
    simp [go_sem,hcA,hfA]
   rw [hw];refine wpOp_skip ho rfl (w':=wA.setCell ⟨g2,y,none⟩ (.slice A' (L.length+1) c')) (by simp [execOp,ev10,ev11,hst]) ⟨undef,zu,?_⟩
   have ne:∀ {j:Nat},j≠12→zBx done 12 true j=done j:=fun hj=>zAa _ _ hj
   have nv:∀ {j:Nat} {u:Value},j≠12→zBx vals 12 u j=vals j:=fun hj=>zAa _ _ hj
   exact {
    d0:=fun hh=>yz
    d1:=fun hh=>qb
    d2:=fun hh=>qc
    d3:=fun hh=>qd
    d4:=fun hh=>qe
    d5:=fun hh=>qf
    d6:=fun hh=>qg
    d7:=fun hh=>qh
    d8:=fun hh=>qi
    d9:=fun hh=>by rw [ne zc] at hh;rw [nv zc];exact hJ.d9 hh
    d11:=fun hh=>yy
    d10':=fun _=>by rw [ne zc];exact qa 9 za
    d12':=fun _ j hj=>by rw [ne za];exact qa j hj
    w9:=fun hh=>by rw [ne zc,qa 9 za] at hh;cases hh
    w10:=fun _ hh=>by rw [ne zc,qa 10 za] at hh;cases hh
    w12:=fun _=>⟨A',c',wA,by rw [nv zc];exact hv10,hoA,hgA,hat,(fun hh=>by rw [zAp] at hh;cases hh),fun _=>rfl⟩ }
 ·intro done vals w' hall hJ
  rw [hsz] at hall ⊢;obtain ⟨A',c',wA,hv10,hoA,hgA,hat,_,hw⟩:=hJ.w12 (hall 10 za);rw [hw (hall 12 za)];exact hK A' c' wA vals hoA hgA hat (hJ.d0 (hall 0 za)) (hJ.d1 (hall 1 za)) (hJ.d2 (hall 2 za)) (hJ.d3 (hall 3 za)) (hJ.d4 (hall 4 za)) (hJ.d5 (hall 5 za)) (hJ.d6 (hall 6 za)) (hJ.d7 (hall 7 za)) (hJ.d8 (hall 8 za)) (hJ.d9 (hall 9 za)) hv10 (hJ.d11 (hall 11 za))
end Go.Proofs.YtoaelidmmcbkfaaGreatDoor
