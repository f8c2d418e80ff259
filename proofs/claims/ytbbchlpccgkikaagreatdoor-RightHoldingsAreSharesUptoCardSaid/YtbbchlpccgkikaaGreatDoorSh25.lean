/- Package right: a ledger's edges. -/
import Derived.Test.YtbbchlpccgkikaaGreatDoorSh24
set_option maxRecDepth 100000
set_option maxHeartbeats 8000000
namespace Go.Proofs.YtbbchlpccgkikaaGreatDoor
open Go.RowKit Dw
def edL(th:BA)(ds:List De)(k:Nat):List Int:=0::200001::(ds.take k).flatMap fun d=>if zCB th d=true then edgeL ds d else []
theorem edL_succ{th:BA}{ds:List De}{k:Nat}(h:k<ds.length):edL th ds (k+1)=edL th ds k++(if zCB th ds[k]=true then edgeL ds ds[k] else []):=by
 unfold edL;rw[bA h,List.flatMap_append];simp
theorem edL_len{th:BA}{ds:List De}:∀k,(edL th ds k).length<=2+2*k
 |0=>by simp[edL]
 |k+1=>by
  have ih:=edL_len (th:=th) (ds:=ds) k
  by_cases h:k<ds.length
  ·rw[edL_succ h,dI]
   have:(if zCB th ds[k]=true then edgeL ds ds[k] else []).length<=2:=by
    split
    ·unfold edgeL;split<;>simp
    ·simp
   omega
  ·have:edL th ds (k+1)=edL th ds k:=by
    unfold edL;rw[bC za,bC za]
   rw[this];omega
def EdR(W:World)(th:BA)(ds:List De)(m:Nat)(ov iv:Value)(wr:World):Prop:=
 ∃(k:Nat)(v:Value),v=ov/\k+m=ds.length/\iv=.int .i64 (k:Nat)/\zAs encI 1 wr W.heap.size 3 v (edL th ds k)/\Below W.heap.size W wr
theorem own_two(w:World)(a b:Int):zAs encI 1 (w.alloc (.cells #[.int .i64 a,.int .i64 b] 3)) w.heap.size 3 (.slice (some ⟨w.heap.size,0,none⟩) 2 2) [a,b]:=
 ⟨rfl,.inr ⟨w.heap.size,2,_,rfl,aE _,aK _ _,aE _,zm,rfl,rfl⟩⟩
theorem step_pushI{P:Program}{w:World}{e:TypeId}{z:Value}{bytes:Nat}{ops:Array Oper}{o:Oper}{a:Act}{K:Act->World->Prop}{Q:Exit->Act->World->Prop}{E:Prop}(hgd:o.guard=none)(s x:Operand)(t:TypeId)(ho:o.op=.call { callee:=.builtin .append,args:=#[s,x],argTypes:=#[t,t] })(hT:ElemT P t e z 1 bytes)(base:Nat)(v:Value)(l:List Int)(hs:a.eval s=v)(hown:zAs encI 1 w base e v l)
  (bk m c:Nat) (ys:List Int) (hx:a.eval x=.slice (some ⟨bk,0,none⟩) m c) {cs:Array Value} {T:TypeId} {fr:Nat×Nat} (hblk:w.heap[bk]?=some (.cells cs T fr)) (hcs:cs.toList=ys.flatMap encI) (hm:m=ys.length) (h0:0<m)
  (hlen:l.length+m<=maxLen) (hbytes:(l.length+m)*bytes<=140737488355328) (hbase:base<=w.heap.size)
  (h:∀g cap w',zAs encI 1 w' base e (.slice (some ⟨g,0,none⟩) (l.length+m) cap) (l++ys)->w.grownBy w' v.ownBlock->K (a.put o.dst (.slice (some ⟨g,0,none⟩) (l.length+m) cap)) w') :
  if Region.wanted o (yielded ops a.tmps)=true then Oper.wp P o a w K Q else E:=by
 obtain⟨i,hi,hz0,hz1,hz2⟩:=info_parts hT.info;have hl:∀l:List Int,(l.flatMap encI).length=l.length:=fun l=>by rw[flat_len (k:=1) (fun _=>rfl),cR]
 refine step_append_lies w hgd s x t ho base e i z 1 bytes hT.ty hi hz0 hz1 hz2 hT.zs hT.pos v l.length (l.flatMap encI) hs hown ⟨bk,0,none⟩ m c (ys.flatMap encI) hx (by rw[hl,hm,cR]) ?_ ?_ h0 hlen hbytes hbase w.heap.size rfl ?_
 ·rw[<-hcs];exact World.news_of_block hblk
 ·intro u hu
  obtain⟨n,_,hn⟩:=List.mem_flatMap.1 hu;rw[List.mem_singleton.1 hn];rfl
 ·intro g cap w' h1 h2 _ _
  refine h g cap w' ?_ h2;unfold zAs;rw[dI,List.flatMap_append,<-hm];exact h1
theorem zCd{α:Type}{enc:α->List Value}{k:Nat}{w:World}{b:Nat}{e:TypeId}{v:Value}{l:List α}(h:zAs enc k w b e v l)(h0:0<l.length):∃g cap,v=.slice (some ⟨g,0,none⟩) l.length cap:=by
 rcases h.2 with ⟨_,hn⟩|⟨g,cap,cur,hv,_⟩
 ·omega
 ·exact⟨g,cap,hv⟩
def GivesEd(th:BA)(ds:List De)(w:World)(e:Ending)(w':World):Prop:=∃(E:List Int)(g cap:Nat),e=.returned (.slice (some ⟨g,0,none⟩) E.length cap)/\E.length<=402/\E.Pairwise (· < ·)/\(∀x,x∈E↔x∈edL th ds ds.length)/\(∀j (h:j<E.length),w'.cell? ⟨g,j,none⟩=some (.int .i64 E[j]))/\Below w.heap.size w w'
theorem edges_c(RA:Option Addr)(rc:Nat)(rs:List Rg)(UA:Option Addr)(uc:Nat)(us:List BA)(DA:Option Addr)(dc:Nat)(ds:List De)(L:Nat)(th:BA)(w:World)(hl:LgIs RA rc rs UA uc us DA dc ds w L)(hd:Des w DA ds)(hdl:ds.length<=200)(hkd:∀d∈ds,1<=d.kd/\d.kd<=5): Calls Tryz.prog 67 #[.pointer (some ⟨L,0,none⟩),.string th,.slice none 0 0] w (GivesEd th ds w):=by
 have HLG:=zq hl;have HD:=zq hd;clear hl hd;obtain⟨r1,r2,g1,g2,AL,cL,vr,vi,ins,base,hlx,_,hrn,_⟩:=HLG.o;have HRN:=zq hrn;have HLX:=zq hlx;have l2:=(hlx.below (w':=w.alloc (.cells #[.int .i64 0,.int .i64 200001] 3)) ((aJ _ _).alloc (aE _) _)).c 2 rfl;have hsl:L<w.heap.size:=hlx.lt;clear hlx hrn
 go_enter Tryz.func67,Tryz.ntmps67;(go_upto_region 2 with fail);obtain⟨W,hW⟩:∃W,W=w.alloc (.cells #[.int .i64 0,.int .i64 200001] 3):=⟨_,rfl⟩;rw[<-hW]at l2 ⊢;have hbw:Below w.heap.size w W:=by rw[hW];exact(aJ _ _).alloc (aE _) _
 have HO0:Hid (zAs encI 1 W w.heap.size 3 (.slice (some ⟨w.heap.size,0,none⟩) 2 2) (edL th ds 0)):=by
  show zAs _ _ _ _ _ _ _
  rw[hW];exact own_two w 0 200001
 have hslW:L<W.heap.size:=aB hsl hbw.size;have HBW0:=zq hbw;clear hW hbw;go_wp2
 go_loopg[7,19] ds.length (EdR w th ds)
 case atStart=>exact⟨0,_,rfl,za,rfl,HO0.o,HBW0.o⟩
 clear l2 hsl hslW HO0 HBW0
 case round =>
  obtain⟨k,v,rfl,hkm,rfl,how,hb⟩:=hrel;have HK:=zq hkm;have HO:=zq how;have HBW:=zq hb;have hel:=edL_len (th:=th) (ds:=ds) k;clear hkm how hb
  by_cases hlt:k<ds.length
  ·obtain⟨b,o,hA,hb0,hc0⟩:=HD.o za
   subst hA;obtain⟨d,hdd⟩:∃d,ds[k]=d:=⟨_,rfl⟩;have hp:=(hc0 k hlt).1;rw[hdd]at hp;have hrg:wr.rangeAt b (o+k*16) (deC d).toList:=fun q v hv=>zAe HBW.o (hp q v hv)
   have HES:=zq (edL_succ (th:=th) hlt);have HKD:=zq (hkd _ (bI hlt));have HCN:=zq (fun(u:World)(hu:Below w.heap.size w u)=>concerns_c RA rc rs UA uc us (some ⟨b,o,none⟩) dc ds L k th u (HLG.o.below hu) (HD.o.below hu) hlt);rw[hdd]at HES HKD HCN;have HDD:=zq hdd;clear hp hc0 hdd;(go_upto_region 4 with fail);(iterate 8 go_step);refine eX _ _ zk b (o+k*16) zk (deC d).toList _ hrg Tryz.underlying126 rfl zb ?_;clear hrg;(go_upto_region 5 with fail);obtain⟨wd,hwd⟩:∃wd,wd=wr.alloc (.cells (deC d) 126):=⟨_,rfl⟩;rw[<-hwd];have hbd:Below wr.heap.size wr wd:=zv;have HD1:Hid (Bx wd wr.heap.size (deC d) 126):=yc;have HBD:=zq (zAa HBW.o hbd);have HOD:=zq (HO.o.below hbd);clear hwd hbd HO HBW;(go_wp2_with fail);(with_reducible refine(HCN.o _ HBD.o).mono ?_);rintro e w2⟨rfl,hb2⟩;have HB2:=zq (zAa HBD.o hb2);have HO2:=zq (HOD.o.below hb2);have HD2:=zq (HD1.o.below hb2);clear hb2 HBD HOD HD1 HCN
   cases hcb:zCB th d with
   |false =>
    have HN:Hid (zAs encI 1 w2 w.heap.size 3 v (edL th ds (k+1))):=by
     show zAs _ _ _ _ _ _ _
     rw[HES.o,hcb,aW zd,bE];exact HO2.o
    clear hcb;go_wp2
    go_roundg (gk-1)
    case measure=>have:=HK.o;omega
    case rel=>exact⟨k+1,v,rfl,zh,zi,HN.o,HB2.o⟩
   |true =>
    have d2:=HD2.o.c 2 rfl;have hsd:=HD2.o.lt;have HFO:=zq (fun W=>zBX d.kd W HKD.o);have hfp:=fldC_place d.kd HKD.o;(go_wp2_with fail);(with_reducible refine(HFO.o _).mono ?_);rintro e w3⟨rfl,hb3⟩;have HB3:=zq (zAa HB2.o hb3);have HO3:=zq (HO2.o.below hb3);have HD3:=zq (HD2.o.below hb3);clear hb3 d2 hsd HFO HB2 HO2 HD2
    cases hg:zAl d.kd with
    |true =>
     rw[hg]at hfp
     have HS2:Hid (edL th ds (k+1)=edL th ds k++[(zBL ds d).1,(zBL ds d).2]):=by
      show _=_
      rw[HES.o,hcb,aD rfl];unfold edgeL;rw[aD hg]
     obtain⟨rb,ro,rcap,hvr,c0,c1⟩:=run_at HRN.o hlt;rw[HDD.o]at c0 c1;subst hvr;generalize (zBL ds d).1=p1 at *;generalize (zBL ds d).2=p2 at *;have l9:=HLX.o.c 9 rfl;have KP:Hid (∀w',Below w.heap.size w w'->w'.cell? ⟨L,9,none⟩=some (.slice (some ⟨rb,ro,none⟩) ds.length rcap)/\w'.cell? ⟨rb,ro+k*2,none⟩=some (.int .i64 p1)/\w'.cell? ⟨rb,ro+k*2+1,none⟩=some (.int .i64 p2)):=fun w' hb=>⟨zAe hb l9,zAe hb c0,zAe hb c1⟩
     obtain⟨l9,c0,c1⟩:=KP.out w3 HB3.o;have hsl:L<w3.heap.size:=aB HLX.o.lt HB3.o.size;have hw3:w.heap.size<=w3.heap.size:=HB3.o.size;have HBD:Hid (Below w.heap.size w (w3.alloc (Obj.cells #[Value.int .i64 p1,Value.int .i64 p2] 3)).drew):=zAa (HB3.o.alloc hw3 _) (zAd (aJ _ _) 1);clear hcb hg;go_upto_region 7 with fail
     go_region_held3 (fun w'=>w'.cell? ⟨L,9,none⟩=some (.slice (some ⟨rb,ro,none⟩) ds.length rcap)/\w'.cell? ⟨rb,ro+k*2,none⟩=some (.int .i64 p1)/\w'.cell? ⟨rb,ro+k*2+1,none⟩=some (.int .i64 p2))
      (first|exact KP.out _ (zAa HB3.o (zAd (aJ _ _) 1))|exact KP.out _ (HB3.o.alloc hw3 _)|exact KP.out _ HBD.o|exact KP.out _ HB9.o|fail)
      (first
       |((have t1:zAs encI 1 (w3.alloc (Obj.cells #[Value.int .i64 p1,Value.int .i64 p2] 3)).drew w.heap.size 3 v (edL th ds k):=(HO3.o.alloc _).below (zAd (aJ _ _) 1));(have t2:(w3.alloc (Obj.cells #[Value.int .i64 p1,Value.int .i64 p2] 3)).drew.heap[w3.heap.size]?=some (.cells #[Value.int .i64 p1,Value.int .i64 p2] 3 (0,0)):=aK w3 (Obj.cells #[Value.int .i64 p1,Value.int .i64 p2] 3));(have t3:((edL th ds k).length+2)*8<=140737488355328:=za);(have t4:w.heap.size<=(w3.alloc (Obj.cells #[Value.int .i64 p1,Value.int .i64 p2] 3)).drew.heap.size:=HBD.o.size);(have t5:(edL th ds k).length+2<=maxLen:=zm);(refine step_pushI rfl (.tmp 33) (.tmp 50) 68 rfl elInt w.heap.size v (edL th ds k) rfl t1 w3.heap.size 2 2 [p1,p2] rfl t2 rfl rfl zc t5 t3 t4 ?_);intro g9 cap9 w9 ho9 hg9;(have hbt:Below w.heap.size (w3.alloc (Obj.cells #[Value.int .i64 p1,Value.int .i64 p2] 3)).drew w9:=(aJ _ _).grown hg9 t4 (fun j hj=>(bL t1 j hj).1));have HB9:Hid (Below w.heap.size w w9):=HBD.o.trans hbt;have HO9:=zq ho9;clear hbt ho9 hg9 t1 t2 t3 t4 t5 l9 c0 c1 hsl;obtain⟨l9,c0,c1⟩:=KP.out w9 HB9.o;have hsl:L<w9.heap.size:=aB HLX.o.lt HB9.o.size))
     have HE:Hid (zAs encI 1 w9 w.heap.size 3 (.slice (some ⟨g9,0,none⟩) ((edL th ds k).length+2) cap9) (edL th ds (k+1))):=by show zAs _ _ _ _ _ _ _;rw[HS2.o];exact HO9.o
     clear l9 c0 c1 hsl hfp;go_wp2
     go_roundg (gk-1)
     case measure=>have:=HK.o;omega
     case rel=>exact⟨k+1,_,rfl,zh,zi,HE.o,HB9.o⟩
    |false =>
     rw[hg]at hfp
     have HS2:Hid (edL th ds (k+1)=edL th ds k++[d.bg]):=by
      show _=_
      rw[HES.o,hcb,aD rfl];unfold edgeL;rw[aW (by rw[hg];simp)]
     have d12:=HD3.o.c 12 rfl;have hsd:=HD3.o.lt;have hw3:w.heap.size<=w3.heap.size:=HB3.o.size;clear hcb hg
     go_wp2_with (at_builtin;refine zBS _ _ _ elInt rfl rfl w.heap.size v (edL th ds k) rfl (HO3.o.alloc _) w3.heap.size 1 d.bg rfl (aK _ _) rfl zt zm za ze ?_;intro v1 w4 hown4 hg4 hb4)
     have HO4:Hid (zAs encI 1 w4 w.heap.size 3 v1 (edL th ds (k+1))):=by show zAs _ _ _ _ _ _ _;rw[HS2.o];exact hown4
     have HB4:=zq ((HB3.o.alloc hw3 _).trans hb4);clear hown4 hg4 hb4 d12 hsd;go_wp2
     go_roundg (gk-1)
     case measure=>have:=HK.o;omega
     case rel=>exact⟨k+1,_,rfl,zh,zi,HO4.o,HB4.o⟩
  ·obtain rfl:k=ds.length:=by have:=HK.o;omega
   have h2:2<=(edL th ds ds.length).length:=by unfold edL;simp
   obtain⟨E0,hE0⟩:∃E0,E0=edL th ds ds.length:=⟨_,rfl⟩;have HE0:=zq hE0;rw[<-hE0]at HO hel h2;clear hE0;obtain⟨g,cap,hv⟩:=zCd HO.o za;subst hv;obtain⟨q1,q2,q3,q4⟩:=own_holds HO.o za;have HQ:=zq q3;have HSO:=zq (sortI_c g cap E0 w.heap.size wr q1 q2 q3 za);clear q3;(go_wp2_with fail);(with_reducible refine HSO.o.mono ?_);rintro e w5⟨rfl,E1,hl1,ho1,hm1,hh1,hg1,hb1⟩;have HM1:=zq hm1;have HO1:=zq ho1;have HB5:=zq (HBW.o.trans hb1);rw[<-hl1];have HCO:=zq (compI_c g cap E1 w.heap.size w5 q1 hg1 hh1 za za);have HL1:=zq hl1;clear hm1 hh1 hb1 HSO hl1 ho1;(go_wp2_with fail);(with_reducible refine HCO.o.mono ?_);rintro e w6⟨E2,rfl,hl2,ho2,hm2,hc2,hb6⟩;have HO2:=zq (ho2 HO1.o);have HL2:=zq hl2;have HM2:=zq hm2;have HC2:=zq hc2;have HB6:=zq (HB5.o.trans hb6);clear hl2 hm2 hc2 hb6 HCO ho2;go_wp2;go_ret
   refine⟨E2,g,cap,rfl,?_,HO2.o,fun x=>?_,HC2.o,HB6.o⟩
   ·have:=HL1.o;have:=HL2.o;omega
   ·rw[<-HE0.o,HM2.o,HM1.o]
end Go.Proofs.YtbbchlpccgkikaaGreatDoor
