/- Package right: the checker is made, in whatever order its parts come up. -/
import Derived.Test.YtbbchlpccgkikaaGreatDoorSh06
set_option maxRecDepth 100000
set_option maxHeartbeats 8000000
namespace Go.Proofs.YtbbchlpccgkikaaGreatDoor
open Go.RowKit Dw
def zDe:De:=⟨emp,0,0,emp,emp,emp,emp,emp,false,false,none,[],0,none,[],0,0,0,none,[],0,emp⟩
def zCk:Array Value:=#[zAm,.map none,zAm,.map none,zAm,zAm,zAm,.map none,.map none,.map none,.map none,
  .string emp,.int .i64 0,.int .i64 0,.string emp,.string emp,.string emp,.string emp,.string emp,.bool false,.bool false,zAm,zAm,.int .i64 0,.int .i64 0,zAm,.string emp]
theorem wpOp_enter{P:Program}{ops:Array Oper}{Q:Exit->Act->World->Prop}{i:Nat}{o:Oper}{K:Act->World->Prop}{a:Act}{w:World}{f:FuncId}{args:Array Value}(ho:ops[i]?=some o)(hg:o.guard=none)(hr:(execOp a.eval o).run P w=.ok (.enter f args) w)(h:Calls P f args w fun e w''=>∃u,e=.returned u/\K (a.put o.dst u) w''):wpOp P ops Q i K a w:=by
 unfold wpOp;simp only[ho];rw[aD (by simp[Region.wanted,hg])]
 left
 unfold Oper.wp;rw[hr];exact h.mono fun e w'' ⟨u,he,hK⟩=>by subst he;exact hK
def F18(TI:Nat)(RA:Option Addr)(rc:Nat)(rs:List Rg)(UA:Option Addr)(uc:Nat)(us:List BA)(r1 r2 g1 g2:Nat)(AL:Option Addr)(cL:Nat)(i lo hi:Nat)(v:Value)(w:World):Prop:=
 (i=0->v=.pointer (some ⟨TI,0,none⟩))/\(i=1->v=.slice RA rs.length rc) /\
 (i=2->v=wv RA rc r1 r2 g1 g2 AL cL rs/\∀w'':World,(∀x,lo<=x->x<hi->w''.heap[x]?=w.heap[x]?)->Rgs w'' RA rs->WR w'' RA r1 r2 g1 g2 AL rs) /\
 (i=3->v=.pointer (some ⟨TI,1,none⟩))/\(i=4->v=.slice UA us.length uc) /\
 (i=5\/i=6\/i=7\/i=8->v=.map (some lo)/\lo<hi/\w.heap[lo]?=some (.map #[] 0)) /\
 (i=10->v=.pointer (some ⟨lo,0,none⟩)/\lo<hi/\∃cs:Array Value,cs.size=27/\w.heap[lo]?=some (.cells cs 170 (0,0)))
theorem F18.keep{TI:Nat}{RA:Option Addr}{rc:Nat}{rs:List Rg}{UA:Option Addr}{uc:Nat}{us:List BA}{r1 r2 g1 g2:Nat}{AL:Option Addr}{cL i lo hi:Nat}{v:Value}{w w':World}(h:F18 TI RA rc rs UA uc us r1 r2 g1 g2 AL cL i lo hi v w)(hk:∀x,lo<=x->x<hi->w'.heap[x]?=w.heap[x]?):F18 TI RA rc rs UA uc us r1 r2 g1 g2 AL cL i lo hi v w':=by
 obtain⟨h0,h1,h2,h3,h4,h5,h6⟩:=h;refine⟨h0,h1,fun e=>⟨(h2 e).1,fun w'' hf=>(h2 e).2 w'' fun x a b=>(hf x a b).trans (hk x a b)⟩,h3,h4,fun e=>?_,fun e=>?_⟩
 ·obtain⟨a,b,c⟩:=h5 e
  exact⟨a,b,(hk lo (aE _) b).trans c⟩
 ·obtain⟨a,b,cs,c,d⟩:=h6 e
  exact⟨a,b,cs,c,(hk lo (aE _) b).trans d⟩
structure JC (w0:World) (TI:Nat) (RA:Option Addr) (rc:Nat) (rs:List Rg) (UA:Option Addr) (uc:Nat) (us:List BA) (own:Nat->Nat×Nat) (r1 r2 g1 g2:Nat) (AL:Option Addr) (cL:Nat) (done:Nat->Bool) (vals:Nat->Value) (w:World):Prop where
 bel:Below w0.heap.size w0 w
 fs:∀i,i<11->i≠9->done i=true->w0.heap.size<=(own i).1/\(own i).1<=(own i).2/\(own i).2<=w.heap.size/\F18 TI RA rc rs UA uc us r1 r2 g1 g2 AL cL i (own i).1 (own i).2 (vals i) w
 dj:∀i j,i<11->j<11->i≠9->j≠9->i≠j->done i=true->done j=true->(own i).2<=(own j).1\/(own j).2<=(own i).1
 f9:done 9=true->vals 9=.agg (ckC RA rc r1 r2 g1 g2 AL cL rs UA uc us (own 5).1 (own 6).1 (own 7).1 (own 8).1 zDe)/\done 2=true/\done 5=true/\done 6=true/\done 7=true/\done 8=true
 f11:done 11=true->w.heap[(own 10).1]?=some (.cells (ckC RA rc r1 r2 g1 g2 AL cL rs UA uc us (own 5).1 (own 6).1 (own 7).1 (own 8).1 zDe) 170 (0,0))/\done 9=true/\done 10=true
section
variable {w0:World} {TI:Nat} {RA:Option Addr} {rc:Nat} {rs:List Rg} {UA:Option Addr} {uc:Nat} {us:List BA} {own:Nat→Nat×Nat} {r1 r2 g1 g2:Nat} {AL:Option Addr} {cL:Nat} {done:Nat→Bool} {vals:Nat→Value} {w w':World}
theorem JC.step(h:JC w0 TI RA rc rs UA uc us own r1 r2 g1 g2 AL cL done vals w){i:Nat}(hi:i<11)(h9:i≠9)(h2:i≠2)(hd:done i=false)(hb:Below w.heap.size w w'){v:Value}(hF:F18 TI RA rc rs UA uc us r1 r2 g1 g2 AL cL i w.heap.size w'.heap.size v w'): JC w0 TI RA rc rs UA uc us (zBp own i (w.heap.size,w'.heap.size)) r1 r2 g1 g2 AL cL (zBp done i true) (zBp vals i v) w' where
 bel:=zAa h.bel hb
 fs j hj hj9 hjd:=by
  by_cases e:j=i
  ·subst e
   rw[zAr,zAr];exact⟨h.bel.size,hb.size,aE _,hF⟩
  ·rw[zAb _ _ e]at hjd
   rw[zAb _ _ e,zAb _ _ e];obtain⟨a,b,c,d⟩:=h.fs j hj hj9 hjd;exact⟨a,b,dC c hb.size,d.keep fun x _ hx=>hb.block x (aB hx c)⟩
 dj j k hj hk hj9 hk9 hne hjd hkd:=by
  by_cases e:j=i
  ·subst e
   have e2:k≠j:=fun e=>hne e.symm
   exact tcb
  ·rw[zAb _ _ e]at hjd
   rw[zAb _ _ e]
   by_cases e2:k=i
   ·subst e2
    rw[zAr];exact .inl (h.fs j hj hj9 hjd).2.2.1
   ·exact tcl
 f9 hd9:=by
  rw[zAb _ _ (fun e=>h9 e.symm)]at hd9;obtain⟨a,b,c,d,e,f⟩:=h.f9 hd9;have n:∀j,done j=true->j≠i:=fun j hj e=>by rw[e,hd]at hj;cases hj
  rw[zAb _ _ (fun e=>h9 e.symm),zAb _ _ (n 2 b),zAb _ _ (n 5 c),zAb _ _ (n 6 d),zAb _ _ (n 7 e),zAb _ _ (n 8 f),zAb _ _ (n 5 c),zAb _ _ (n 6 d),zAb _ _ (n 7 e),zAb _ _ (n 8 f)];exact⟨a,b,c,d,e,f⟩
 f11 hd11:=by
  rw[zAb _ _ za]at hd11;obtain⟨a,b,c⟩:=h.f11 hd11;obtain⟨_,q2,q5,q6,q7,q8⟩:=h.f9 b;have n:∀j,done j=true->j≠i:=fun j hj e=>by rw[e,hd]at hj;cases hj
  rw[zAb _ _ (n 9 b),zAb _ _ (n 10 c),zAb _ _ (n 5 q5),zAb _ _ (n 6 q6),zAb _ _ (n 7 q7),zAb _ _ (n 8 q8),zAb _ _ (n 10 c)];exact⟨(hb.block _ (aB ((h.fs 10 za za c).2.2.2.2.2.2.2.2.2 rfl).2.1 (h.fs 10 za za c).2.2.1)).trans a,b,c⟩
theorem JC.step2(h:JC w0 TI RA rc rs UA uc us own r1 r2 g1 g2 AL cL done vals w)(hd:done 2=false)(hb:Below w.heap.size w w'){r1' r2' g1' g2':Nat}{AL':Option Addr}{cL':Nat}(hF:∀w'':World,(∀x,w.heap.size<=x->x<w'.heap.size->w''.heap[x]?=w'.heap[x]?)->Rgs w'' RA rs->WR w'' RA r1' r2' g1' g2' AL' rs): JC w0 TI RA rc rs UA uc us (zBp own 2 (w.heap.size,w'.heap.size)) r1' r2' g1' g2' AL' cL' (zBp done 2 true) (zBp vals 2 (wv RA rc r1' r2' g1' g2' AL' cL' rs)) w' where
 bel:=zAa h.bel hb
 fs j hj hj9 hjd:=by
  by_cases e:j=2
  ·subst e
   rw[zAr,zAr];exact⟨h.bel.size,hb.size,aE _,zd,zd,fun _=>⟨rfl,hF⟩,zd,zd,zd,zd⟩
  ·rw[zAb _ _ e]at hjd
   rw[zAb _ _ e,zAb _ _ e];obtain⟨a,b,c,d⟩:=h.fs j hj hj9 hjd;have d':=d.keep (w':=w') fun x _ hx=>hb.block x (aB hx c)
   exact⟨a,b,dC c hb.size,d'.1,d'.2.1,fun e2=>absurd e2 e,d'.2.2.2.1,d'.2.2.2.2.1,d'.2.2.2.2.2.1,d'.2.2.2.2.2.2⟩
 dj j k hj hk hj9 hk9 hne hjd hkd:=by
  by_cases e:j=2
  ·subst e
   have e2:k≠2:=fun e=>hne e.symm
   exact tcb
  ·rw[zAb _ _ e]at hjd
   rw[zAb _ _ e]
   by_cases e2:k=2
   ·subst e2
    rw[zAr];exact .inl (h.fs j hj hj9 hjd).2.2.1
   ·exact tcl
 f9 hd9:=by
  rw[zAb _ _ zc]at hd9;have:=(h.f9 hd9).2.1;rw[hd]at this;cases this
 f11 hd11:=by
  rw[zAb _ _ zc]at hd11;have:=(h.f9 (h.f11 hd11).2.1).2.1;rw[hd]at this;cases this
theorem JC.step9(h:JC w0 TI RA rc rs UA uc us own r1 r2 g1 g2 AL cL done vals w)(q:done 2=true/\done 5=true/\done 6=true/\done 7=true/\done 8=true): JC w0 TI RA rc rs UA uc us own r1 r2 g1 g2 AL cL (zBp done 9 true) (zBp vals 9 (.agg (ckC RA rc r1 r2 g1 g2 AL cL rs UA uc us (own 5).1 (own 6).1 (own 7).1 (own 8).1 zDe))) w where
 bel:=h.bel
 fs j hj hj9 hjd:=by
  rw[zAb _ _ hj9]at hjd;rw[zAb _ _ hj9];exact h.fs j hj hj9 hjd
 dj j k hj hk hj9 hk9 hne hjd hkd:=by
  rw[zAb _ _ hj9]at hjd;rw[zAb _ _ hk9]at hkd;exact h.dj j k hj hk hj9 hk9 hne hjd hkd
 f9 _:=by
  rw[zAr,zAb _ _ zc,zAb _ _ zc,zAb _ _ zc,zAb _ _ zc,zAb _ _ zc];exact⟨rfl,q⟩
 f11 hd11:=by
  rw[zAb _ _ zc]at hd11;rw[zAr,zAb _ _ zc];exact⟨(h.f11 hd11).1,rfl,(h.f11 hd11).2.2⟩
theorem JC.step11(h:JC w0 TI RA rc rs UA uc us own r1 r2 g1 g2 AL cL done vals w)(h9:done 9=true)(h10:done 10=true)(v:Value): JC w0 TI RA rc rs UA uc us own r1 r2 g1 g2 AL cL (zBp done 11 true) (zBp vals 11 v) (w.setRow (own 10).1 (ckC RA rc r1 r2 g1 g2 AL cL rs UA uc us (own 5).1 (own 6).1 (own 7).1 (own 8).1 zDe)) where
 bel:=⟨h.bel.os,h.bel.tape,h.bel.output,by rw[setRow_size];exact h.bel.size,fun k hk=>by
  have:=(h.fs 10 za za h10).1;rw[setRow_other _ _ _ _ za];exact h.bel.block k hk⟩
 fs j hj hj9 hjd:=by
  rw[zAb _ _ za]at hjd;rw[zAb _ _ za];obtain⟨a,b,c,d⟩:=h.fs j hj hj9 hjd;refine⟨a,b,by rw[setRow_size];exact c,?_⟩
  by_cases e:j=10
  ·subst e
   obtain⟨p1,p2,cs,p3,p4⟩:=d.2.2.2.2.2.2 rfl;exact⟨zd,zd,zd,zd,zd,zd,fun _=>⟨p1,p2,_,zk,setRow_heap _ _ _ _ _ _ p4⟩⟩
  ·have:=h.dj j 10 hj za hj9 za e hjd h10
   have p2:=((h.fs 10 za za h10).2.2.2.2.2.2.2.2.2 rfl).2.1;exact d.keep fun x h1 h2=>setRow_other _ _ _ _ za
 dj j k hj hk hj9 hk9 hne hjd hkd:=by
  rw[zAb _ _ za]at hjd hkd;exact h.dj j k hj hk hj9 hk9 hne hjd hkd
 f9 hd9:=by
  rw[zAb _ _ zc]at hd9;rw[zAb _ _ zc,zAb _ _ zc,zAb _ _ zc,zAb _ _ zc,zAb _ _ zc,zAb _ _ zc];exact h.f9 hd9
 f11 _:=by
  rw[zAb _ _ zc,zAb _ _ zc];obtain⟨p1,p2,cs,p3,p4⟩:=(h.fs 10 za za h10).2.2.2.2.2.2.2.2.2 rfl;exact⟨setRow_heap _ _ _ _ _ _ p4,h9,h10⟩
theorem JC.cs(h:JC w0 TI RA rc rs UA uc us own r1 r2 g1 g2 AL cL done vals w)(hall:∀j,j<12->done j=true)(hr:Rgs w0 RA rs)(hs:Strs w0 UA us): CS w0 w (own 10).1 RA rc r1 r2 g1 g2 AL cL rs UA uc us (own 5).1 (own 6).1 (own 7).1 (own 8).1 (own 2).1 (own 2).2 zDe []:=by
 have f:=fun i (hi:i<11) (h9:i≠9)=>h.fs i hi h9 (hall i za)
 have m:∀i,(i=5\/i=6\/i=7\/i=8)->w.heap[(own i).1]?=some (.map #[] 0)/\(own i).1<(own i).2:=fun i hi=>by
  have:=(f i za za).2.2.2.2.2.2.2.2.1 hi;exact⟨this.2.2,this.2.1⟩
 have mi:∀i,(i=5\/i=6\/i=7\/i=8)->zAu Value.string w (own i).1 (fun _=>none):=fun i hi=>⟨#[],0,[],(m i hi).1,rfl,fun _=>rfl⟩
 have d:=fun i j (hi:i<11) (hj:j<11) (hi9:i≠9) (hj9:j≠9) (hne:i≠j)=>h.dj i j hi hj hi9 hj9 hne (hall i za) (hall j za)
 have l10:=((f 10 za za).2.2.2.2.2.2.2.2.2 rfl).2.1;have l5:=(m 5 zd).2;have l6:=(m 6 zd).2;have l7:=(m 7 zd).2;have l8:=(m 8 zd).2;have l2:=(f 2 za za).2.1
 exact{
  bel:=h.bel
  ck:=(h.f11 (hall 11 za)).1
  rg:=hr
  st:=hs
  far:=((f 2 za za).2.2.2.2.2.1 rfl).2
  hh:=(f 2 za za).2.2.1
  k2:=⟨#[],0,[],(m 5 zd).1,rfl,fun _=>rfl,rfl,fun _ h=>qg⟩
  k3:=mi 6 zd
  k4:=mi 7 zd
  k5:=mi 8 zd
  ou:=fun x hx=>by
   rcases hx with rfl|rfl|rfl|rfl|rfl
   ·have:=d 2 10 za za za za za
    have:=(f 10 za za).1;omega
   ·have:=d 2 5 za za za za za
    have:=(f 5 za za).1;omega
   ·have:=d 2 6 za za za za za
    have:=(f 6 za za).1;omega
   ·have:=d 2 7 za za za za za
    have:=(f 7 za za).1;omega
   ·have:=d 2 8 za za za za za
    have:=(f 8 za za).1;omega
  ne:=by
   have d1:=d 5 6 za za za za za;have d2:=d 5 7 za za za za za;have d3:=d 5 8 za za za za za;have d4:=d 6 7 za za za za za;have d5:=d 6 8 za za za za za;have d6:=d 7 8 za za za za za;omega
  la:=.inl rfl }
end
theorem run_store27{w:World}{s:Nat}{cs:Array Value}(hcs:cs.size=27)(hs:w.heap[s]?=some (.cells cs 170 (0,0)))(new:Array Value)(hn:new.size=27)(h1:∀v∈new.toList,v.oneCell'=true): (Instr.storeAt 170 (.pointer (some ⟨s,0,none⟩)) (.agg new)).run Tryz.prog w=.ok () (w.setRow s new):=by
 have hst:=run_storeCells_at Tryz.prog s 0 170 new.toList 0 cs w hs (by simp[hn,hcs]) h1
 have e:(cs.toList.take (0+0)++new.toList++cs.toList.drop (0+0+new.toList.length)).toArray=new:=by
  exact tby
 rw[e]at hst;have hsz:(sizeOf 170).run Tryz.prog w=.ok 27 w:=zb;simp[Instr.storeAt,Instr.sureAddr,storeVar,hsz,Value.cells,hn,hst]
theorem ck_one(A:Option Addr)(c r1 r2 g1 g2:Nat)(AL:Option Addr)(cL:Nat)(l:List Rg)(uA:Option Addr)(uc:Nat)(us:List BA)(m2 m3 m4 m5:Nat)(p:De):∀v∈(ckC A c r1 r2 g1 g2 AL cL l uA uc us m2 m3 m4 m5 p).toList,v.oneCell'=true:=by
 simp[Value.oneCell']
theorem region18{ops:Array Oper}{Q:Exit->Act->World->Prop}{a0:Act}{w:World}{id:Nat}{TI:Nat}{RA:Option Addr}{rc:Nat}{rs:List Rg}{UA:Option Addr}{uc:Nat}{us:List BA}{DV:Value}(g:GoodR rs)(hbx:Bx w TI #[.slice RA rs.length rc,.slice UA us.length uc,DV] 26)(hr:Rgs w RA rs)(hs:Strs w UA us)(hsz:ops.size=12)(hap:apartB ops=true)(hb:backB ops=true)(hk1:notDst ops 1=true)(ha1:a0.eval (.tmp 1)=.pointer (some ⟨TI,0,none⟩))(has:61<a0.tmps.size)(o0:∃ty ps af,ops[0]?=some ⟨some 52,.fieldAddr 26 (.tmp 1) 0,ty,ps,af,none⟩)(o1:∃ty ps af,ops[1]?=some ⟨some 53,.load 22 (.tmp 52),ty,ps,af,none⟩)(o2:∃ty ps af,ops[2]?=some ⟨some 54,.call { callee:=.value (.func 86),args:=#[.tmp 53],argTypes:=#[22] },ty,ps,af,none⟩)
  (o3:∃ty ps af,ops[3]?=some ⟨some 55,.fieldAddr 26 (.tmp 1) 1,ty,ps,af,none⟩)
  (o4:∃ty ps af,ops[4]?=some ⟨some 56,.load 23 (.tmp 55),ty,ps,af,none⟩)
  (o5:∃ty ps af,ops[5]?=some ⟨some 57,.makeMap 100 none,ty,ps,af,none⟩)
  (o6:∃ty ps af,ops[6]?=some ⟨some 58,.makeMap 168 none,ty,ps,af,none⟩)
  (o7:∃ty ps af,ops[7]?=some ⟨some 59,.makeMap 168 none,ty,ps,af,none⟩)
  (o8:∃ty ps af,ops[8]?=some ⟨some 60,.makeMap 168 none,ty,ps,af,none⟩)
  (o9:∃ty ps af,ops[9]?=some ⟨some 61,.build 170 #[(0,.tmp 54),(1,.tmp 56),(2,.tmp 57),(3,.tmp 58),(4,.tmp 59),(5,.tmp 60)],ty,ps,af,none⟩)
  (o10:∃ty ps af,ops[10]?=some ⟨some 6,.alloc 170,ty,ps,af,none⟩)
  (o11:∃ty ps af,ops[11]?=some ⟨none,.store 170 (.tmp 6) (.tmp 61),ty,ps,af,none⟩)
  (e1_0:depB ops 1 0=true) (e2_1:depB ops 2 1=true) (e4_3:depB ops 4 3=true) (e9_2:depB ops 9 2=true) (e9_4:depB ops 9 4=true) (e9_5:depB ops 9 5=true) (e9_6:depB ops 9 6=true) (e9_7:depB ops 9 7=true) (e9_8:depB ops 9 8=true) (e11_9:depB ops 11 9=true) (e11_10:depB ops 11 10=true)
  (hK:∀(ci r1 r2 g1 g2:Nat)(AL:Option Addr)(cL m2 m3 m4 m5 lo hi:Nat)(vals:Nat->Value)(w':World),CS w w' ci RA rc r1 r2 g1 g2 AL cL rs UA uc us m2 m3 m4 m5 lo hi zDe [] ->
   vals 0=.pointer (some ⟨TI,0,none⟩)->vals 1=.slice RA rs.length rc->vals 2=wv RA rc r1 r2 g1 g2 AL cL rs->vals 3=.pointer (some ⟨TI,1,none⟩)->vals 4=.slice UA us.length uc->vals 5=.map (some m2)->vals 6=.map (some m3)->vals 7=.map (some m4)->vals 8=.map (some m5) ->
   vals 9=.agg (ckC RA rc r1 r2 g1 g2 AL cL rs UA uc us m2 m3 m4 m5 zDe)->vals 10=.pointer (some ⟨ci,0,none⟩)->Q .normal (zAj ops vals (List.range 12) a0) w') :
  (Code.region id ops true).wp Tryz.prog Q a0 w:=by
 have hAp:=apart_of hap;refine zDx zb hAp hb (fun _=>undef) (fun done vals w'=>∃own r1 r2 g1 g2 AL cL,JC w TI RA rc rs UA uc us own r1 r2 g1 g2 AL cL done vals w') ?_ ?_ ?_
 ·exact⟨fun _=>(0,0),0,0,0,0,none,0,zAd (aJ _ _) 1,zd,zd,zd,zd⟩
 ·intro i done vals w1 hi ⟨own,r1,r2,g1,g2,AL,cL,hJ⟩ hd hdep
  rw[hsz]at hi;have hev1:(zAj ops vals (zAC ops.size done) a0).eval (.tmp 1)=.pointer (some ⟨TI,0,none⟩):=(eval_kept hk1).trans ha1;have hbx1:=hbx.below hJ.bel
  match i,hi with
  |0,_ =>
   obtain⟨ty,ps,af,ho⟩:=o0;have hfa:(Instr.fieldAt 26 (.pointer (some ⟨TI,0,none⟩)) 0).run Tryz.prog w1=.ok (.pointer (some ⟨TI,0,none⟩)) w1:=zb;refine zAq ho rfl (v:=.pointer (some ⟨TI,0,none⟩)) (w':=w1) (by simp[execOp,hev1,hfa]) ⟨_,zo,_,r1,r2,g1,g2,AL,cL,hJ.step za za za hd (aJ _ _) (by simp[F18])⟩
  |1,_ =>
   obtain⟨ty,ps,af,ho⟩:=o1;have q0:=zAU e1_0 hdep
   have ev0:(zAj ops vals (zAC ops.size done) a0).eval (.tmp 52)=.pointer (some ⟨TI,0,none⟩):=by
    obtain⟨ty',ps',af',ho'⟩:=o0;rw[zAo hAp (a:=a0) (j:=0) (d:=52) za zn q0 (bV (m:=61) zc has),(hJ.fs 0 za za q0).2.2.2.1 rfl]
   have hc:=hbx1.cell (i:=0) (v:=.slice RA rs.length rc) rfl;have hld:(Instr.loadAt 22 (.pointer (some ⟨TI,0,none⟩))).run Tryz.prog w1=.ok (.slice RA rs.length rc) w1:=by simp[go_sem,Instr.loadAt,hc]
   refine zAq ho rfl (v:=.slice RA rs.length rc) (w':=w1) (by simp[execOp,ev0,hld]) ⟨_,zo,_,r1,r2,g1,g2,AL,cL,hJ.step za za za hd (aJ _ _) (by simp[F18])⟩
  |2,_ =>
   obtain⟨ty,ps,af,ho⟩:=o2;have q1:=zAU e2_1 hdep
   have ev1:(zAj ops vals (zAC ops.size done) a0).eval (.tmp 53)=.slice RA rs.length rc:=by
    obtain⟨ty',ps',af',ho'⟩:=o1;rw[zAo hAp (a:=a0) (j:=1) (d:=53) za zn q1 (bV (m:=61) zc has),(hJ.fs 1 za za q1).2.2.2.2.1 rfl]
   have hef:(zAj ops vals (zAC ops.size done) a0).eval (.func 86)=.func (.func 86) #[] #[]:=rfl;refine wpOp_enter ho rfl (f:=86) (args:=#[.slice RA rs.length rc]) (by simp[go_sem];simpa[Act.eval]using ev1) ?_;refine(newWorld2_c RA rc rs w1 g (hr.below hJ.bel)).mono ?_;rintro e w2⟨r1',r2',g1',g2',AL',cL',rfl,hf,hb2⟩;exact⟨_,rfl,_,zo,_,r1',r2',g1',g2',AL',cL',hJ.step2 hd hb2 hf⟩
  |3,_ =>
   obtain⟨ty,ps,af,ho⟩:=o3;have hfa:(Instr.fieldAt 26 (.pointer (some ⟨TI,0,none⟩)) 1).run Tryz.prog w1=.ok (.pointer (some ⟨TI,1,none⟩)) w1:=zb;refine zAq ho rfl (v:=.pointer (some ⟨TI,1,none⟩)) (w':=w1) (by simp[execOp,hev1,hfa]) ⟨_,zo,_,r1,r2,g1,g2,AL,cL,hJ.step za za za hd (aJ _ _) (by simp[F18])⟩
  |4,_ =>
   obtain⟨ty,ps,af,ho⟩:=o4;have q3:=zAU e4_3 hdep
   have ev3:(zAj ops vals (zAC ops.size done) a0).eval (.tmp 55)=.pointer (some ⟨TI,1,none⟩):=by
    obtain⟨ty',ps',af',ho'⟩:=o3;rw[zAo hAp (a:=a0) (j:=3) (d:=55) za zn q3 (bV (m:=61) zc has),(hJ.fs 3 za za q3).2.2.2.2.2.2.1 rfl]
   have hc:=hbx1.cell (i:=1) (v:=.slice UA us.length uc) rfl;have hld:(Instr.loadAt 23 (.pointer (some ⟨TI,1,none⟩))).run Tryz.prog w1=.ok (.slice UA us.length uc) w1:=by simp[go_sem,Instr.loadAt,hc]
   refine zAq ho rfl (v:=.slice UA us.length uc) (w':=w1) (by simp[execOp,ev3,hld]) ⟨_,zo,_,r1,r2,g1,g2,AL,cL,hJ.step za za za hd (aJ _ _) (by simp[F18])⟩
  |5,_ =>
   obtain⟨ty,ps,af,ho⟩:=o5;exact taq
  |6,_ =>
   obtain⟨ty,ps,af,ho⟩:=o6;exact taq
  |7,_ =>
   obtain⟨ty,ps,af,ho⟩:=o7;exact taq
  |8,_ =>
   obtain⟨ty,ps,af,ho⟩:=o8;exact taq
  |9,_ =>
   obtain⟨ty,ps,af,ho⟩:=o9;have q2:=zAU e9_2 hdep;have q4:=zAU e9_4 hdep;have q5:=zAU e9_5 hdep;have q6:=zAU e9_6 hdep;have q7:=zAU e9_7 hdep;have q8:=zAU e9_8 hdep
   have ev2:(zAj ops vals (zAC ops.size done) a0).eval (.tmp 54)=wv RA rc r1 r2 g1 g2 AL cL rs:=by
    obtain⟨ty',ps',af',ho'⟩:=o2;rw[zAo hAp (a:=a0) (j:=2) (d:=54) za zn q2 (bV (m:=61) zc has),((hJ.fs 2 za za q2).2.2.2.2.2.1 rfl).1]
   have ev4:(zAj ops vals (zAC ops.size done) a0).eval (.tmp 56)=.slice UA us.length uc:=by
    obtain⟨ty',ps',af',ho'⟩:=o4;rw[zAo hAp (a:=a0) (j:=4) (d:=56) za zn q4 (bV (m:=61) zc has),(hJ.fs 4 za za q4).2.2.2.2.2.2.2.1 rfl]
   have ev5:(zAj ops vals (zAC ops.size done) a0).eval (.tmp 57)=.map (some (own 5).1):=by
    obtain⟨ty',ps',af',ho'⟩:=o5;rw[zAo hAp (a:=a0) (j:=5) (d:=57) za zn q5 (bV (m:=61) zc has),((hJ.fs 5 za za q5).2.2.2.2.2.2.2.2.1 zd).1]
   have ev6:(zAj ops vals (zAC ops.size done) a0).eval (.tmp 58)=.map (some (own 6).1):=by
    obtain⟨ty',ps',af',ho'⟩:=o6;rw[zAo hAp (a:=a0) (j:=6) (d:=58) za zn q6 (bV (m:=61) zc has),((hJ.fs 6 za za q6).2.2.2.2.2.2.2.2.1 zd).1]
   have ev7:(zAj ops vals (zAC ops.size done) a0).eval (.tmp 59)=.map (some (own 7).1):=by
    obtain⟨ty',ps',af',ho'⟩:=o7;rw[zAo hAp (a:=a0) (j:=7) (d:=59) za zn q7 (bV (m:=61) zc has),((hJ.fs 7 za za q7).2.2.2.2.2.2.2.2.1 zd).1]
   have ev8:(zAj ops vals (zAC ops.size done) a0).eval (.tmp 60)=.map (some (own 8).1):=by
    obtain⟨ty',ps',af',ho'⟩:=o8;rw[zAo hAp (a:=a0) (j:=8) (d:=60) za zn q8 (bV (m:=61) zc has),((hJ.fs 8 za za q8).2.2.2.2.2.2.2.2.1 zd).1]
   have hbuild:(Instr.build 170 #[(0,wv RA rc r1 r2 g1 g2 AL cL rs),(1,.slice UA us.length uc),(2,.map (some (own 5).1)),(3,.map (some (own 6).1)),(4,.map (some (own 7).1)),(5,.map (some (own 8).1))]).run Tryz.prog w1=.ok (.agg (ckC RA rc r1 r2 g1 g2 AL cL rs UA uc us (own 5).1 (own 6).1 (own 7).1 (own 8).1 zDe)) w1:=zb;refine zAq ho rfl (v:=.agg (ckC RA rc r1 r2 g1 g2 AL cL rs UA uc us (own 5).1 (own 6).1 (own 7).1 (own 8).1 zDe)) (w':=w1) (by simp[execOp,ev2,ev4,ev5,ev6,ev7,ev8,hbuild]) ⟨_,zo,own,r1,r2,g1,g2,AL,cL,hJ.step9 ⟨q2,q5,q6,q7,q8⟩⟩
  |10,_ =>
   obtain⟨ty,ps,af,ho⟩:=o10;have halloc:(Instr.alloc 170 true (.tuple #[])).run Tryz.prog w1=.ok (.pointer (some ⟨w1.heap.size,0,none⟩)) (w1.alloc (.cells zCk 170)):=zb;refine zAq ho rfl (v:=.pointer (some ⟨w1.heap.size,0,none⟩)) (w':=w1.alloc (.cells zCk 170)) (by simp[execOp,halloc]) ⟨_,zo,_,r1,r2,g1,g2,AL,cL,hJ.step za za za hd ((aJ _ _).alloc (aE _) _) ?_⟩;exact⟨zd,zd,zd,zd,zd,zd,fun _=>⟨rfl,zd,zCk,rfl,aK _ _⟩⟩
  |11,_ =>
   obtain⟨ty,ps,af,ho⟩:=o11;have q9:=zAU e11_9 hdep;have q10:=zAU e11_10 hdep;obtain⟨p1,p2,cs,p3,p4⟩:=(hJ.fs 10 za za q10).2.2.2.2.2.2.2.2.2 rfl
   have ev9:(zAj ops vals (zAC ops.size done) a0).eval (.tmp 61)=.agg (ckC RA rc r1 r2 g1 g2 AL cL rs UA uc us (own 5).1 (own 6).1 (own 7).1 (own 8).1 zDe):=by
    obtain⟨ty',ps',af',ho'⟩:=o9;rw[zAo hAp (a:=a0) (j:=9) (d:=61) za zn q9 (bV (m:=61) zc has),(hJ.f9 q9).1]
   have ev10:(zAj ops vals (zAC ops.size done) a0).eval (.tmp 6)=.pointer (some ⟨(own 10).1,0,none⟩):=by
    obtain⟨ty',ps',af',ho'⟩:=o10;rw[zAo hAp (a:=a0) (j:=10) (d:=6) za zn q10 (bV (m:=61) zc has),p1]
   have hst:=run_store27 p3 p4 (ckC RA rc r1 r2 g1 g2 AL cL rs UA uc us (own 5).1 (own 6).1 (own 7).1 (own 8).1 zDe) rfl (ck_one _ _ _ _ _ _ _ _ _ _ _ _ _ _ _ _ _);refine wpOp_skip ho rfl (w':=w1.setRow (own 10).1 (ckC RA rc r1 r2 g1 g2 AL cL rs UA uc us (own 5).1 (own 6).1 (own 7).1 (own 8).1 zDe)) (by simp[execOp,ev9,ev10,hst]) ⟨undef,zo,own,r1,r2,g1,g2,AL,cL,hJ.step11 q9 q10 undef⟩
 ·intro done vals w' hall ⟨own,r1,r2,g1,g2,AL,cL,hJ⟩
  rw[hsz]at hall ⊢;have f:=fun i (hi:i<11) (h9:i≠9)=>(hJ.fs i hi h9 (hall i za)).2.2.2
  exact hK _ r1 r2 g1 g2 AL cL _ _ _ _ _ _ vals w' (hJ.cs hall hr hs) ((f 0 za za).1 rfl) ((f 1 za za).2.1 rfl) ((f 2 za za).2.2.1 rfl).1 ((f 3 za za).2.2.2.1 rfl) ((f 4 za za).2.2.2.2.1 rfl)
   ((f 5 za za).2.2.2.2.2.1 zd).1 ((f 6 za za).2.2.2.2.2.1 zd).1 ((f 7 za za).2.2.2.2.2.1 zd).1 ((f 8 za za).2.2.2.2.2.1 zd).1 (hJ.f9 (hall 9 za)).1 ((f 10 za za).2.2.2.2.2.2 rfl).1
end Go.Proofs.YtbbchlpccgkikaaGreatDoor
