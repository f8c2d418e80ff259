/- Parts of the proof, joined: DERIVED: THE SHELF's CONTRACTS AT THIS DUMP, IN PLAIN WORDS (tools/lay. -/
import Derived.Ground.SlgmProg
import Derived.Shelf.SortM.Plain
import Derived.Shelf.SortM.SortNone
import Derived.Shelf.SlGeneric
import Derived.Test.YtieoifkdobcpiaaGreatDoorSa40
set_option maxRecDepth 100000
set_option maxHeartbeats 8000000
namespace Go.Proofs
open Go.Shelf
def Tryz.sortS80_ren:Go.Shelf.Ren:=⟨fun | 6=>80 | 8=>109 | 9=>121 | 19=>160 | 20=>161 | 21=>173 | 22=>174 | 23=>175 | 24=>176 | 25=>177 | 26=>178 | 27=>179 | 28=>180 | 29=>181 | 36=>228 | 31=>219 | 32=>220 | 37=>229 | 38=>230 | 39=>231 | 41=>263 | n=>n,fun | 27=>23 | 29=>9 | 3=>3 | 32=>188 | 26=>23 | 0=>0 | 44=>197 | 46=>95 | 4=>4 | 36=>229 | 35=>228 | 41=>133 | 5=>5 | 9=>9 | 53=>283 | 57=>287 | 63=>316 | 64=>219 | n=>n,fun | n=>n⟩
theorem Tryz.sortS80:Go.Proofs.SlLaysM.n6 Tryz.prog Tryz.sortS80_ren:={
 mixed:=zb
 f6:=⟨Tryz.f80.name,zc,Tryz.func80.trans (congrArg some zb)⟩
 f8:=Tryz.func109.trans (congrArg some zb)
 f9:=⟨Tryz.f121.name,zc,Tryz.func121.trans (congrArg some zb)⟩
 f19:=Tryz.func160.trans (congrArg some zb)
 f20:=Tryz.func161.trans (congrArg some zb)
 f21:=⟨Tryz.f173.name,zc,Tryz.func173.trans (congrArg some zb)⟩
 f22:=⟨Tryz.f174.name,zc,Tryz.func174.trans (congrArg some zb)⟩
 f23:=⟨Tryz.f175.name,zc,Tryz.func175.trans (congrArg some zb)⟩
 f24:=⟨Tryz.f176.name,zc,Tryz.func176.trans (congrArg some zb)⟩
 f25:=⟨Tryz.f177.name,zc,Tryz.func177.trans (congrArg some zb)⟩
 f26:=⟨Tryz.f178.name,zc,Tryz.func178.trans (congrArg some zb)⟩
 f27:=⟨Tryz.f179.name,zc,Tryz.func179.trans (congrArg some zb)⟩
 f28:=⟨Tryz.f180.name,zc,Tryz.func180.trans (congrArg some zb)⟩
 f29:=⟨Tryz.f181.name,zc,Tryz.func181.trans (congrArg some zb)⟩
 f31:=Tryz.func219.trans (congrArg some zb)
 f32:=Tryz.func220.trans (congrArg some zb)
 f36:=⟨Tryz.f228.name,zc,Tryz.func228.trans (congrArg some zb)⟩
 f37:=⟨Tryz.f229.name,zc,Tryz.func229.trans (congrArg some zb)⟩
 f38:=⟨Tryz.f230.name,zc,Tryz.func230.trans (congrArg some zb)⟩
 f39:=⟨Tryz.f231.name,zc,Tryz.func231.trans (congrArg some zb)⟩
 f41:=⟨Tryz.f263.name,zc,Tryz.func263.trans (congrArg some zb)⟩
 t0:=Tryz.underlying0
 a0:=Tryz.isAgg0
 z0:=Tryz.sizeOf0
 v0:=Tryz.zeroValue0
 t3:=Tryz.underlying3
 a3:=Tryz.isAgg3
 z3:=Tryz.sizeOf3
 v3:=Tryz.zeroValue3
 t4:=Tryz.underlying4
 a4:=Tryz.isAgg4
 z4:=Tryz.sizeOf4
 v4:=Tryz.zeroValue4
 t5:=Tryz.underlying5
 a5:=Tryz.isAgg5
 z5:=Tryz.sizeOf5
 v5:=Tryz.zeroValue5
 t9:=Tryz.underlying9
 a9:=Tryz.isAgg9
 z9:=Tryz.sizeOf9
 v9:=Tryz.zeroValue9
 t26:=Tryz.underlying23
 a26:=Tryz.isAgg23
 z26:=Tryz.sizeOf23
 v26:=Tryz.zeroValue23
 t27:=Tryz.underlying23
 a27:=Tryz.isAgg23
 z27:=Tryz.sizeOf23
 v27:=Tryz.zeroValue23
 t29:=Tryz.underlying9
 a29:=Tryz.isAgg9
 z29:=Tryz.sizeOf9
 v29:=Tryz.zeroValue9
 t32:=Tryz.underlying188
 a32:=Tryz.isAgg188
 z32:=Tryz.sizeOf188
 v32:=Tryz.zeroValue188
 t35:=Tryz.underlying228
 a35:=Tryz.isAgg228
 z35:=Tryz.sizeOf228
 v35:=Tryz.zeroValue228
 t36:=Tryz.underlying229
 a36:=Tryz.isAgg229
 z36:=Tryz.sizeOf229
 v36:=Tryz.zeroValue229
 t41:=Tryz.underlying133
 a41:=Tryz.isAgg133
 z41:=Tryz.sizeOf133
 v41:=Tryz.zeroValue133
 t44:=Tryz.underlying197
 a44:=Tryz.isAgg197
 z44:=Tryz.sizeOf197
 v44:=Tryz.zeroValue197
 t46:=Tryz.underlying95
 a46:=Tryz.isAgg95
 z46:=Tryz.sizeOf95
 v46:=Tryz.zeroValue95
 t53:=Tryz.underlying283
 a53:=Tryz.isAgg283
 z53:=Tryz.sizeOf283
 v53:=Tryz.zeroValue283
 t57:=Tryz.underlying287
 a57:=Tryz.isAgg287
 z57:=Tryz.sizeOf287
 v57:=Tryz.zeroValue287
 t63:=Tryz.underlying316
 a63:=Tryz.isAgg316
 z63:=Tryz.sizeOf316
 v63:=Tryz.zeroValue316
 t64:=Tryz.underlying219
 a64:=Tryz.isAgg219
 z64:=Tryz.sizeOf219
 v64:=Tryz.zeroValue219 }
end Go.Proofs
namespace Go.Proofs.YtieoifkdobcpiaaGreatDoor
open Go.Shelf Go.RowKit Go.Lib Go.Sort Dw
def bytL (s:ByteArray):List UInt8:=s.data.toList
def ofBy (l:List UInt8):ByteArray:=⟨l.toArray⟩
theorem ofBy_byt (s:ByteArray):ofBy (bytL s)=s:=by unfold ofBy bytL;cases s;simp
theorem byt_of (l:List UInt8):bytL (ofBy l)=l:=by unfold ofBy bytL;simp
theorem encStr_byt (s:ByteArray):encStr (bytL s)=Value.string s:=by
 show Value.string ⟨(bytL s).toArray⟩=_
 have:=ofBy_byt s;unfold ofBy at this;rw [this]
def srtP (l:List ByteArray):List ByteArray:=((l.map bytL).mergeSort fun x y=>decide (x≤y)).map ofBy
theorem srtP_mem (l:List ByteArray) (s:ByteArray):s∈srtP l↔s∈l:=by
 unfold srtP;rw [List.mem_map]
 constructor
 ·rintro ⟨x,hx,rfl⟩
  obtain ⟨y,hy,rfl⟩:=List.mem_map.1 ((List.mergeSort_perm _ _).mem_iff.1 hx);rw [ofBy_byt];exact hy
 ·intro h
  exact ⟨bytL s,(List.mergeSort_perm _ _).mem_iff.2 (List.mem_map_of_mem h),ofBy_byt s⟩
theorem srtP_inc {l:List ByteArray} (hn:l.Nodup):IncN (srtP l):=by
 have h1:=List.pairwise_mergeSort (le:=fun x y:List UInt8=>decide (x≤y)) (fun a b c h k=>by
  simp only [decide_eq_true_eq] at *;exact List.le_trans h k) (fun a b=>by
  simp only [Bool.or_eq_true,decide_eq_true_eq];exact List.le_total a b) (l.map bytL)
 have h2:((l.map bytL).mergeSort fun x y=>decide (x≤y)).Nodup:=by
  refine (List.mergeSort_perm _ _).nodup_iff.2 ?_
  exact List.Pairwise.map bytL (fun a b h e=>h (by rw [←ofBy_byt a,e,ofBy_byt])) hn
 unfold srtP IncN;rw [List.pairwise_map];refine (h1.and h2).imp fun {a b} h=>?_
 obtain ⟨h3,h4⟩:=h;rw [slt_list,Dw.toList_eq,Dw.toList_eq]
 show decide (bytL (ofBy a)<bytL (ofBy b))=true
 rw [byt_of,byt_of,decide_eq_true_iff];simp only [decide_eq_true_eq] at h3
 rcases List.le_iff_lt_or_eq.1 h3 with h | h
 ·exact h
 ·exact absurd h h4
theorem srtP_holL {K:List ByteArray} {f:zBm} (hk:IncN K) (hh:HoldOk K f) {l:List ByteArray} (hn:l.Nodup) (hm:∀ p,p∈l↔f p≠0):srtP l=holL K f :=
 incN_ext (srtP_inc hn) (holL_inc hk) fun x=>by rw [srtP_mem,hm,holL_mem hh]
theorem below_putRow {α:Type} [Inhabited α] (enc:α→Value) {w:World} {blk B:Nat} (n:Nat) (d:Array α) (os:Array Obj) (hB:B≤blk) (hb:blk<w.heap.size):Below B w (grow (putRow enc (Sort.ahead w n) blk 0 d) os):=by
 have hp:Below B w (putRow enc (Sort.ahead w n) blk 0 d) :=
  ⟨rfl,rfl,rfl,by rw [size_putRow];exact Nat.le_refl _,fun i hi=>by
   show ((Sort.ahead w n).heap.modify blk _)[i]?=_
   rw [Array.getElem?_modify,if_neg za]
   rfl⟩
 refine ⟨hp.os,hp.tape,hp.output,?_,fun i hi=>?_⟩
 ·rw [size_grow]
  exact Nat.le_trans hp.size (Nat.le_add_right _ _)
 ·rw [heap_grow_old _ _ (by have:=hp.size;omega)]
  exact hp.block i hi
theorem sortP_c (g cap:Nat) (L:List ByteArray) (base:Nat) (w:World) (hown:zAQ encS 1 w base 9 (.slice (some ⟨g,0,none⟩) L.length cap) L) (hl:L.length≤1000000) (h0:0<L.length) :
  Calls Tryz.prog 80 #[.slice (some ⟨g,0,none⟩) L.length cap] w fun e w'=>e = .returned (.tuple #[])∧Strs w' (some ⟨g,0,none⟩) (srtP L)∧Below base w w':=by
 obtain ⟨hbase,cs,hcs⟩:=zBi hown (g:=g) rfl;have hgl:g<w.heap.size:=(Array.getElem?_eq_some_iff.1 hcs).1;obtain ⟨A',c',he,hrd⟩:=hown.rd1
 injection he with hA _ _
 subst hA;obtain ⟨b,o,e2,hc⟩:=hrd h0
 injection e2 with e2
 injection e2 with e3 e4 _
 subst e3;subst e4
 have hH:Holds encStr w g 0 (L.map bytL).toArray:=fun j hj=>by
  have hj':j<L.length:=qm;refine ⟨?_,frozen_of_row w g _ cs _ hcs⟩
  rw [hc j hj'];simp [hj',encStr_byt]
 have hS:=AnyM.slices_Sort_string Tryz.sortS80 g 0 cap (L.map bytL) w hH hgl ze
 change Calls Tryz.prog 80 _ _ _ at hS
 rw [List.length_map] at hS;refine hS.mono fun e w' ⟨he,n,os,hw⟩=>⟨he,?_,?_⟩
 ·have hh:=holds_sortWorld encStr w g 0 n (L.map bytL).toArray ((L.map bytL).mergeSort fun x y=>decide (x≤y)).toArray os hgl hH zd
  have hw':w'=sortWorld encStr w g 0 n ((L.map bytL).mergeSort fun x y=>decide (x≤y)).toArray os:=hw
  rw [hw'];refine fun hp=>⟨g,0,rfl,fun i hi=>?_⟩
  have hi':i<((L.map bytL).mergeSort fun x y=>decide (x≤y)).length:=by unfold srtP at hi;simpa using hi
  have:=(hh i (by simpa using hi')).1
  rw [this];have e:(srtP L)[i]?=some (ofBy (((L.map bytL).mergeSort fun x y=>decide (x≤y))[i]'hi')):=by unfold srtP;rw [List.getElem?_map,List.getElem?_eq_getElem hi'];rfl
  rw [(List.getElem?_eq_some_iff.1 e).2,←encStr_byt,byt_of]
  congr 2
  show ((L.map bytL).mergeSort fun x y=>decide (x≤y)).toArray[i]! = _
  rw [getElem!_pos _ _ (by simpa using hi')]
  rfl
 ·rw [hw];exact below_putRow _ _ _ _ hbase hgl
def GivesPs (l:List ByteArray) (w:World) (e:Ending) (w':World):Prop:=∃ A c,e = .returned (.slice A l.length c)∧Strs w' A l∧Below w.heap.size w w'
def PsR (w:World) (g:Nat) (L:List (ByteArray×Value)) (m:Nat) (ov:Value) (wr:World):Prop :=
 ∃ (R:List (ByteArray×Value)) (v:Value) (acc:List ByteArray),v=ov∧R.length=m∧zBB Value.string wr w.heap.size g L R∧zAQ encS 1 wr w.heap.size 9 v acc∧(acc++R.map (·.1)).Perm (L.map (·.1))∧Below w.heap.size w wr
theorem PRange_push {w w':World} {it g:Nat} {L R:List (ByteArray×Value)} {α:Type} {enc:α→List Value} {k b:Nat} {e:TypeId} {v:Value} {l:List α} (h:zBB Value.string w it g L R) (ho:zAQ enc k w b e v l) (hg:w.grownBy w' v.ownBlock):zBB Value.string w' it g L R:=by
 refine h.keep (hg.block g h.map.lt fun e2=>?_) (hg.block it h.lt fun e2=>?_)
 ·obtain ⟨_,cs,hc⟩:=zBi ho e2.symm
  obtain ⟨es,clk,h1,_⟩:=h.map;rw [h1] at hc;cases hc
 ·obtain ⟨_,cs,hc⟩:=zBi ho e2.symm
  obtain ⟨es,clk,since,c0,seen,_,_,_,_,_,h6,_⟩:=h;rw [h6] at hc;cases hc
theorem parties_c (g:Nat) (K:List ByteArray) (f:zBm) (w:World) (hp:zAA w g f) (hk:IncN K) (hh:HoldOk K f) (hlen:K.length≤1000000):Calls Tryz.prog 35 #[.map (some g)] w (GivesPs (holL K f) w):=by
 obtain ⟨L,h1,h2,h3⟩:=hp;obtain ⟨o,hrun,hpr⟩:=zBB.start tMapP h1;have hgl:=h1.lt;have hLn:=h1.nodup
 have hLm:∀ p,p∈L.map (·.1)↔f p≠0:=fun p=>by
  rw [h2,List.mem_map]
  constructor
  ·rintro ⟨x,hx,rfl⟩;exact ⟨x.2,hx⟩
  ·rintro ⟨v,hv⟩;exact ⟨_,hv,rfl⟩
 have hLl:L.length≤1000000:=by
  have:(L.map (·.1)).length≤K.length:=List.Nodup.length_le_of_subset hLn fun x hx=>Classical.byContradiction fun hn=>(hLm x).1 hx (hh.out x hn)
  simp at this
  omega
 have HSE:Hid (∀ l:List ByteArray,l.Perm (L.map (·.1))→srtP l=holL K f):=fun l hl=>srtP_holL hk hh (hl.nodup_iff.2 hLn) fun p=>by rw [hl.mem_iff,hLm]
 have HPR:=zq hpr;have HB0:Hid (Below w.heap.size w (w.alloc o)):=(Below.refl _ _).alloc (Nat.le_refl _) _;clear h1 h2 h3 hpr hk hh hLn hLm
 go_enter Tryz.func35,Tryz.ntmps35
 go_wp2;clear hrun
 go_loopg [3] L.length (PsR w g L)
 case atStart=>exact ⟨L,_,[],rfl,rfl,HPR.o,zAQ.nil _ _ _ _ _,List.Perm.refl _,HB0.o⟩
 clear HPR HB0
 case round =>
  obtain ⟨R,v,acc,rfl,hm,hpr,how,hperm,hb⟩:=hrel;have HM:=zq hm;have HPR:=zq hpr;have HOW:=zq how;have HPM:=zq hperm;have HB:=zq hb
  have hal:acc.length+R.length≤1000000:=by
   have:=hperm.length_eq;simp at this
   omega
  clear hm hpr how hperm hb
  rcases zBB.next (P:=Tryz.prog) HPR.o str_inj za 0 with ⟨hR,hnx⟩ | ⟨x,R',w',hpx,hxL,hnx,hen,hpr',hg',hs'⟩
  ·have hpe:acc.Perm (L.map (·.1)):=by
    have:=HPM.o;rw [hR,List.map_nil,List.append_nil] at this;exact this
   have HS:=zq (HSE.o acc hpe);clear hR hpe
   obtain ⟨A,c,hv⟩:∃ A c,v = .slice A acc.length c:=by
    rcases HOW.o.2 with ⟨h,hn⟩ | ⟨g',cap,cur,h,_⟩
    ·exact ⟨none,0,by rw [h,hn]⟩
    ·exact ⟨_,_,h⟩
   subst hv
   by_cases h0:acc=[]
   ·subst h0
    have HNS:Hid (Calls Tryz.prog 80 #[.slice A 0 c] wr fun e w'=>e = .returned (.tuple #[])∧w'=wr):=AnyM.slices_Sort_string_none Tryz.sortS80 A c wr
    have HLE:Hid (holL K f=[]):=by show _=_;rw [←HS.o];unfold srtP;simp
    go_wp2_with fail
    with_reducible refine HNS.o.mono ?_
    rintro e w2 ⟨rfl,rfl⟩;go_wp2;go_ret
    unfold GivesPs;rw [HLE.o];exact ⟨A,c,rfl,(fun h=>by cases h),HB.o⟩
   ·have hpos:0<acc.length:=List.length_pos_iff.2 h0
    obtain ⟨g2,rfl⟩:∃ g2,A=some ⟨g2,0,none⟩:=by
     rcases HOW.o.2 with ⟨h,hn⟩ | ⟨g',cap,cur,h,_⟩
     ·omega
     ·injection h with h;exact ⟨_,h⟩
    have HSO:=zq (sortP_c g2 c acc w.heap.size wr HOW.o za hpos)
    have HLN:Hid (acc.length=(holL K f).length):=by
     show _=_
     rw [←HS.o];unfold srtP;simp
    clear h0
    go_wp2_with fail
    with_reducible refine HSO.o.mono ?_
    rintro e w2 ⟨rfl,hst,hb2⟩;have HST:=zq hst;have HB2:Hid (Below w.heap.size w w2):=HB.o.trans hb2;clear hst hb2;go_wp2;go_ret
    exact ⟨_,c,by rw [HLN.o];rfl,by rw [←HS.o];exact HST.o,HB2.o⟩
  ·obtain ⟨p,val⟩:=x
   have HB1:=zq (zDu HB.o HB.o.size hg' (Nat.le_refl _))
   have HO1:Hid (zAQ encS 1 w' w.heap.size 9 v acc):=HOW.o.grown hg' (by
    cases hvv:v.ownBlock with
    | none=>exact .inl rfl
    | some q =>
     refine .inr fun e=>?_
     injection e with e
     obtain ⟨_,cs,hc⟩:=zBi HOW.o hvv;have:=pr_nocell HPR.o 0;obtain ⟨es,clk,since,c0,seen,_,_,_,_,_,h6,_⟩:=HPR.o;rw [e,h6] at hc;cases hc)
   have HPR1:=zq hpr';have HPX:=zq hpx;have hRl:R.length=R'.length+1:=by have:=hpx.length_eq;rw [List.length_cons] at this;exact this
   have hws:w.heap.size≤w'.heap.size:=HB1.o.size;clear hpx hpr' hg' hs' hxL
   go_wp2_with (at_builtin;refine zDB _ _ _ elStr rfl rfl w.heap.size v acc rfl (HO1.o.alloc _) w'.heap.size 1 p rfl (heap_alloc_new _ _) rfl zt zk za ze ?_;intro v1 w4 hown4 hg4 hb4)
   have HO4:=zq hown4;have HB4:=zq ((HB1.o.alloc hws _).trans hb4);have HPR4:=zq (PRange_push (HPR1.o.below (ba _ _)) (HO1.o.alloc _) hg4);clear hown4 hg4 hb4;go_wp2
   go_roundg R'.length
   case measure=>have:=HM.o;omega
   case rel =>
    refine ⟨R',_,acc++[p],rfl,rfl,HPR4.o,HO4.o,?_,HB4.o⟩
    have h5:=HPX.o.map (·.1);rw [List.map_cons] at h5;rw [List.append_assoc,List.singleton_append];exact (List.Perm.append_left acc h5.symm).trans HPM.o
end Go.Proofs.YtieoifkdobcpiaaGreatDoor
namespace Go.Proofs.YtieoifkdobcpiaaGreatDoor
open Go.RowKit Dw
abbrev zSpot:Array Value:=#[.int .i64 0,.string ⟨#[]⟩,.int .i64 0]
def zDn (rs:List Rg) (us:List ByteArray) (pl use:ByteArray) (day:Int):Int:=if (leafB rs pl&&memS us use)=false then 5 else if zDr day=false then 1 else 0
def GivesSp (rs:List Rg) (us:List ByteArray) (pl use:ByteArray) (day:Int) (w:World) (e:Ending) (w':World):Prop :=
 Below w.heap.size w w'∧((zDn rs us pl use day≠0∧e = .returned (.tuple #[.agg zSpot,.int .i64 (zDn rs us pl use day)])) ∨
  (zDn rs us pl use day=0∧∃ n,(zAz rs)[n]?=some ((idx rs pl).getD 0)∧e = .returned (.tuple #[.agg (sptC n use day),.int .i64 0])))
theorem below_st3 {b g:Nat} {w W:World} (h:Below b w W) (hb:b≤g) (u v x:Value):Below b w (((W.setCell ⟨g,0,none⟩ u).setCell ⟨g,1,none⟩ v).setCell ⟨g,2,none⟩ x):=((h.setCell hb _).setCell hb _).setCell hb _
theorem leaf_idx {l:List Rg} (g:GoodR l) {s:ByteArray} (h:leafB l s=true):∃ n:Nat,lmF l l.length s=some (.int .i64 (n:Int))∧(zAz l)[n]?=some ((idx l s).getD 0)∧(idx l s).getD 0<l.length∧(l.getD ((idx l s).getD 0) default).nm=s:=by
 obtain ⟨i,n,hi,h1,h2,h3⟩:=leaf_at g h;have hx:idx l s=some i:=by rw [←h1];exact g.inc.idx hi
 refine ⟨n,h2,by rw [hx];exact h3,by rw [hx];exact hi,?_⟩
 rw [hx,Option.getD_some,List.getD_eq_getElem?_getD,List.getElem?_eq_getElem hi];exact h1
theorem spot_c (RA:Option Addr) (rc:Nat) (rs:List Rg) (UA:Option Addr) (uc:Nat) (us:List ByteArray) (DA:Option Addr) (dc:Nat) (ds:List De) (L:Nat) (pl use:ByteArray) (day:Int) (w:World)
  (g:GoodR rs) (hl:LgIs RA rc rs UA uc us DA dc ds w L) (hu:Strs w UA us) (hul:us.length≤20) :
  Calls Tryz.prog 29 #[.pointer (some ⟨L,0,none⟩),.string pl,.string use,.int .i64 day] w (GivesSp rs us pl use day w):=by
 have hbw:Below w.heap.size w (w.alloc (.cells zSpot 76)):=(Below.refl _ _).alloc (Nat.le_refl _) _;have HX:Hid (Bx (w.alloc (.cells zSpot 76)) w.heap.size zSpot 76):=Bx.new _ _ _;obtain ⟨W,hW⟩:∃ W,W=w.alloc (.cells zSpot 76):=⟨_,rfl⟩;rw [←hW] at HX hbw;have HB:=zq hbw;obtain ⟨r1,r2,g1,g2,AL,cL,vr,vi,ins,base,hlx,hwr,_⟩:=hl.below hbw;have HUW:=zq (hu.below hbw);have hlk:=zAv tMap kStr zInt hwr.m2 pl true;clear hl hu hbw hwr
 go_enter Tryz.func29,Tryz.ntmps29
 go_upto_region 1 with fail
 rw [←hW];clear hW;have l6:=hlx.cell (i:=6) rfl;have l1:=hlx.cell (i:=1) rfl;have hsl:=hlx.lt;have x0:=HX.o.cell (i:=0) rfl;have x1:=HX.o.cell (i:=1) rfl;have x2:=HX.o.cell (i:=2) rfl;have f0:=HX.o.frozen 0;have f1:=HX.o.frozen 1;have f2:=HX.o.frozen 2;have hsx:=HX.o.lt;have HCO:=zq (containsS_c UA uc us use W za HUW.o);have HDY:=zq (isDay_c day W);clear hlx
 cases hlb:leafB rs pl with
 | false =>
  have HF:Hid (zDn rs us pl use day=5):=by show _=_;unfold zDn;rw [hlb];rfl
  rw [leaf_no g hlb] at hlk;simp only [if_true,Option.getD_none,Option.isSome_none] at hlk;clear hlb;go_wp2;refine bodyPost_ret (v:=.tuple #[.agg zSpot,.int .i64 5]) ?_ rfl ?_
  ·simp [results,Tryz.results29,go_sem,x0,x1,x2]
  ·exact ⟨below_st3 HB.o (Nat.le_refl _) _ _ _,.inl ⟨by rw [HF.o];decide,by rw [HF.o]⟩⟩
 | true =>
  obtain ⟨n,hn1,hn2,_⟩:=leaf_idx g hlb;rw [hn1] at hlk;simp only [if_true,Option.getD_some,Option.isSome_some] at hlk;have HN:=zq hn2;have HLB:=zq hlb;clear hn1 hn2 hlb
  go_wp2_with fail
  with_reducible refine HCO.o.mono ?_
  rintro e w1 ⟨rfl,rfl⟩
  cases hmu:memS us use with
  | false =>
   have HF:Hid (zDn rs us pl use day=5):=by show _=_;unfold zDn;rw [HLB.o,hmu];rfl
   clear hmu;go_wp2;refine bodyPost_ret (v:=.tuple #[.agg zSpot,.int .i64 5]) ?_ rfl ?_
   ·simp [results,Tryz.results29,go_sem,x0,x1,x2]
   ·exact ⟨below_st3 HB.o (Nat.le_refl _) _ _ _,.inl ⟨by rw [HF.o];decide,by rw [HF.o]⟩⟩
  | true =>
   have HMU:=zq hmu;clear hmu
   go_wp2_with fail
   with_reducible refine HDY.o.mono ?_
   rintro e w2 ⟨rfl,rfl⟩
   cases hdy:zDr day with
   | false =>
    have HF:Hid (zDn rs us pl use day=1):=by show _=_;unfold zDn;rw [HLB.o,HMU.o,hdy];rfl
    clear hdy;go_wp2;refine bodyPost_ret (v:=.tuple #[.agg zSpot,.int .i64 1]) ?_ rfl ?_
    ·simp [results,Tryz.results29,go_sem,x0,x1,x2]
    ·exact ⟨below_st3 HB.o (Nat.le_refl _) _ _ _,.inl ⟨by rw [HF.o];decide,by rw [HF.o]⟩⟩
   | true =>
    have HF:Hid (zDn rs us pl use day=0):=by show _=_;unfold zDn;rw [HLB.o,HMU.o,hdy];rfl
    clear hdy;go_wp2;refine bodyPost_ret (v:=.tuple #[.agg (sptC n use day),.int .i64 0]) ?_ rfl ?_
    ·simp [results,Tryz.results29,go_sem,x0,x1,x2]
    ·exact ⟨below_st3 HB.o (Nat.le_refl _) _ _ _,.inr ⟨HF.o,n,HN.o,rfl⟩⟩
theorem short_of {rs:List Rg} {us:List ByteArray} {ds:List De} (h:zCH rs us ds=0):∀ d∈ds,d.ar.length≤100∧d.us.length≤20:=fun d hd=>by
 obtain ⟨k,hk,rfl⟩:=List.getElem_of_mem hd;have:=chkD_lens ((zBl h).2 k hk) (zBl h).1;exact ⟨this.1,this.2.1⟩
abbrev eSr:Sh→List Value:=fun x=>[.string x.pt,.string x.nu,.string x.de]
theorem elSr:ElemT Tryz.prog 33 42 (.agg #[.string ⟨#[]⟩,.string ⟨#[]⟩,.string ⟨#[]⟩]) 3 48:=⟨Tryz.underlying33,zb,rfl,zc⟩
theorem oneSr (x:Sh):∀ u∈eSr x,u.oneCell'=true:=zt
theorem own_shs {w:World} {b:Nat} {v:Value} {l:List Sh} (h:zAQ eSr 3 w b 42 v l):∃ A c,v = .slice A l.length c∧Shs w A l:=by
 obtain ⟨A,c,e,hr⟩:=h.rdk;refine ⟨A,c,e,fun hl=>?_⟩
 obtain ⟨b,o,e2,hc⟩:=hr hl;refine ⟨b,o,e2,fun i hi=>?_⟩
 have key:=flat_at (k:=3) (enc:=eSr) (fun _=>rfl) l i hi
 refine ⟨?_,?_,?_⟩
 ·have:=hc (i*3+0) _ (key 0 za)
  exact this
 ·have:=hc (i*3+1) _ (key 1 za)
  rw [←Nat.add_assoc] at this;exact this
 ·have:=hc (i*3+2) _ (key 2 za)
  rw [←Nat.add_assoc] at this;exact this
def shO (x:ByteArray×Rat):Sh:=⟨x.1,(outQ x.2).1,(outQ x.2).2⟩
def GivesSh (l:List Sh) (w:World) (e:Ending) (w':World):Prop:=∃ A c,e = .returned (.slice A l.length c)∧Shs w' A l∧Below w.heap.size w w'
def LiSR (W:World) (f:zBm) (P:List ByteArray) (m:Nat) (ov iv:Value) (wr:World):Prop :=
 ∃ (j:Nat) (v:Value),v=ov∧j+m=P.length∧iv = .int .i64 (j:Int)∧zAQ eSr 3 wr W.heap.size 42 v ((P.take j).map fun p=>shO (p,f p))∧Below W.heap.size W wr
theorem take_map_snoc (f:zBm) {P:List ByteArray} {j:Nat} (h:j<P.length):((P.take (j+1)).map fun p=>shO (p,f p))=((P.take j).map fun p=>shO (p,f p))++[shO (P[j],f P[j])]:=by
 rw [List.take_succ_eq_append_getElem h,List.map_append];rfl
theorem list_c (g:Nat) (K:List ByteArray) (f:zBm) (w:World) (hp:zAA w g f) (hk:IncN K) (hh:HoldOk K f) (hlen:K.length≤1000000) (hsz:∀ p,SzQ 10000000 (f p)) :
  Calls Tryz.prog 31 #[.map (some g)] w (GivesSh ((pairs (holL K f) f).map shO) w):=by
 have HPC:=zq (parties_c g K f w hp hk hh hlen);have HPM:=zq hp;have hPl:(holL K f).length≤1000000:=Nat.le_trans (List.length_filter_le _ _) hlen;have HPN:Hid (∀ p∈holL K f,f p≠0):=fun p hpm=>(holL_mem hh).1 hpm
 have HPA:Hid ((pairs (holL K f) f).map shO=(holL K f).map fun p=>shO (p,f p)):=by show _=_;unfold pairs;rw [List.map_map];rfl
 have HSZ:=zq hsz;rw [HPA.o];generalize holL K f=P at *;clear hp hk hh hsz HPA hlen
 go_enter Tryz.func31,Tryz.ntmps31
 go_wp2_with fail
 with_reducible refine HPC.o.mono ?_
 rintro e W ⟨A,c,rfl,hst,hb⟩;have HST:=zq hst;have HB:=zq hb;have HPW:=zq (HPM.o.below hb);clear hst hb HPC HPM;go_wp2
 go_loopg [3,11] P.length (LiSR W f P)
 case atStart=>exact ⟨0,_,rfl,za,rfl,zAQ.nil _ _ _ _ _,Below.refl _ _⟩
 case round =>
  obtain ⟨j,v,rfl,hjm,rfl,how,hb⟩:=hrel;have HJ:=zq hjm;have HOW:=zq how;have HBW:=zq hb;clear hjm how hb
  by_cases hlt:j<P.length
  ·obtain ⟨b,o,hA,hb0,hc0⟩:=(HST.o.below HBW.o).at_ za
   subst hA;have hc:=hc0 j hlt;have HTS:=zq (take_map_snoc f hlt);have hne:=HPN.o _ (List.getElem_mem hlt);have hol:((P.take j).map fun p=>shO (p,f p)).length≤1000000:=ze
   generalize P[j]=p at *;obtain ⟨F,hF,hFp⟩:=(HPW.o.below HBW.o).is;have hlk:=zAv tMapP kStr zRatV hF p false
   rcases hFp p with ⟨h0,_⟩ | ⟨_,vv,hN,A3,c3,A4,c4,rfl,h3,h4⟩
   ·exact absurd h0 hne
   rw [hN] at hlk;simp only [Bool.false_eq_true,if_false,Option.getD_some] at hlk
   have HRT:Hid (Calls Tryz.prog 74 #[raV false A3 c3 (f p).num.natAbs A4 c4 (f p).den,.int .i64 1099511627776] wr (zAe (raOut (f p).num.natAbs (f p).den 1099511627776) wr)) :=
    Ratio_c A3 A4 c3 c4 (f p).num.natAbs (f p).den 1099511627776 wr h3 h4 (Nat.le_trans (HSZ.o p).1.1 za) (Nat.le_trans (HSZ.o p).2.1 za)
   have hro:raOut (f p).num.natAbs (f p).den 1099511627776 = .tuple #[.agg #[.string (zCI (f p).num.natAbs),.string (zCI (f p).den)],.bool true]:=by
    have z1:=digB_len (HSZ.o p).1.1;have z2:=digB_len (HSZ.o p).2.1;unfold raOut tooB;rw [decide_eq_false za,decide_eq_false za]
    rfl
   rw [hro] at HRT;have HSH:Hid (shO (p,f p)=⟨p,zCI (f p).num.natAbs,zCI (f p).den⟩):=rfl;rw [HSH.o] at HTS;generalize zCI (f p).num.natAbs=sn at *;generalize zCI (f p).den=sd at *;clear hc0 hF hFp hN h3 h4 hro hne
   go_wp2_with fail
   with_reducible refine HRT.o.mono ?_
   rintro e w3 ⟨rfl,hb3⟩;have hb4:=zAb hb3 (ba w3 (.cells #[.string sn,.string sd] 40));have HO4:=zq (HOW.o.below hb4);have HB4:=zq (zAb HBW.o hb4);have hW4:W.heap.size≤(w3.alloc (.cells #[.string sn,.string sd] 40)).heap.size:=HB4.o.size;clear hb3 hb4 hc hlk HRT;obtain ⟨lo,hlo⟩:∃ lo,lo=(P.take j).map fun p=>shO (p,f p):=⟨_,rfl⟩
   rw [←hlo] at HO4 HTS hol;clear hlo HOW;go_upto_region 6 with fail
   obtain ⟨w4,hw4⟩:∃ w4,w4=w3.alloc (.cells #[.string sn,.string sd] 40):=⟨_,rfl⟩;have HY:Hid (Bx (w3.alloc (.cells #[.string sn,.string sd] 40)) w3.heap.size #[.string sn,.string sd] 40):=Bx.new _ _ _;rw [←hw4] at HY HO4 HB4 hW4 ⊢;clear hw4;have y0:=HY.o.cell (i:=0) rfl;have y1:=HY.o.cell (i:=1) rfl;have hsy:=HY.o.lt
   go_wp2_with (at_builtin;refine zDB _ _ _ elSr rfl rfl W.heap.size v lo rfl (HO4.o.alloc _) w4.heap.size 1 (⟨p,sn,sd⟩:Sh) rfl (heap_alloc_new _ _) rfl (oneSr _) zk za ze ?_;intro v1 w5 hown5 hg5 hb5)
   have HO5:Hid (zAQ eSr 3 w5 W.heap.size 42 v1 ((P.take (j+1)).map fun p=>shO (p,f p))):=by show zAQ _ _ _ _ _ _ _;rw [HTS.o];exact hown5
   have HB5:=zq ((HB4.o.alloc hW4 _).trans hb5);clear hown5 hg5 hb5 y0 y1 hsy;go_wp2
   go_roundg (gk - 1)
   case measure=>have:=HJ.o;omega
   case rel=>exact ⟨j+1,_,rfl,by have:=HJ.o;omega,zi,HO5.o,HB5.o⟩
  ·have hje:j=P.length:=by have:=HJ.o;omega
   have HO:Hid (zAQ eSr 3 wr W.heap.size 42 v (P.map fun p=>shO (p,f p))):=by
    have:=HOW.o;rw [hje,List.take_length] at this;exact this
   obtain ⟨A5,c5,rfl,hs5⟩:=own_shs HO.o;have HS5:=zq hs5;clear hs5;go_wp2;go_ret
   exact ⟨A5,c5,rfl,HS5.o,zAb HB.o HBW.o⟩
def GivesSr (p:List (ByteArray×Rat)×Int) (w:World) (e:Ending) (w':World):Prop:=∃ A c,e = .returned (.tuple #[.slice A (p.1.map shO).length c,.int .i64 p.2])∧Shs w' A (p.1.map shO)∧Below w.heap.size w w'
theorem GivesSr.no {w w':World} {n:Int} (hb:Below w.heap.size w w'):GivesSr ([],n) w (.returned (.tuple #[.slice none 0 0,.int .i64 n])) w':=⟨none,0,rfl,(fun h=>absurd h zd),hb⟩
section
variable {rs:List Rg} {us:List ByteArray} {ds:List De} {th pl use:ByteArray} {day:Int}
theorem srF_chk (h:zCH rs us ds≠0):zCe rs us ds th pl use day=([],zCH rs us ds):=by unfold zCe;rw [if_pos h]
theorem srF_nm (h:zCH rs us ds=0) (h2:zBp th=false):zCe rs us ds th pl use day=([],5):=by
 unfold zCe;rw [if_neg (show ¬ (zCH rs us ds≠0) by rw [h];simp),if_pos h2]
theorem srF_sp (h:zCH rs us ds=0) (h2:zBp th=true) (h3:zDn rs us pl use day≠0):zCe rs us ds th pl use day=([],zDn rs us pl use day):=by
 unfold zCe;rw [if_neg (show ¬ (zCH rs us ds≠0) by rw [h];simp),if_neg (show ¬ (zBp th=false) by rw [h2];simp)]
 unfold zDn at h3 ⊢
 split
 ·rfl
 ·next h4 =>
  rw [if_neg h4] at h3
  split
  ·rfl
  ·next h5=>rw [if_neg h5] at h3;exact absurd rfl h3
theorem srF_at (h:zCH rs us ds=0) (h2:zBp th=true) (h3:zDn rs us pl use day=0):zCe rs us ds th pl use day=if zCp rs ds ((idx rs pl).getD 0) th use day ds.length=true then ([],2)
  else (pairs (holL (zCd rs ds ((idx rs pl).getD 0) th use day ds.length) (zAI rs ds ((idx rs pl).getD 0) th use day ds.length)) (zAI rs ds ((idx rs pl).getD 0) th use day ds.length),0):=by
 unfold zCe;rw [if_neg (show ¬ (zCH rs us ds≠0) by rw [h];simp),if_neg (show ¬ (zBp th=false) by rw [h2];simp)]
 unfold zDn at h3
 split
 ·next h4=>rw [if_pos h4] at h3;cases h3
 ·next h4 =>
  rw [if_neg h4] at h3
  split
  ·next h5=>rw [if_pos h5] at h3;cases h3
  ·rfl
end
theorem insN_len (p:ByteArray):∀ l:List ByteArray,(insN p l).length≤l.length+1
 | []=>by simp [insN]
 | a::l=>by
  unfold insN;have:=insN_len p l
  split
  ·simp
  ·split
   ·simp
   ·simp;omega
theorem keysAll_len:∀ (l:List Sh) (K:List ByteArray),(keysAll l K).length≤K.length+l.length
 | [],_=>Nat.le_refl _
 | s::l,K=>by
  have h1:=keysAll_len l (insN s.pt K);have h2:=insN_len s.pt K
  show (keysAll l (insN s.pt K)).length≤_
  simp only [List.length_cons];omega
theorem keys_len {rs:List Rg} {us:List ByteArray} {ds:List De} (h:zCH rs us ds=0) (i:Nat) (th use:ByteArray) (day:Int) (n:Nat) (hn:n≤ds.length):(zCd rs ds i th use day n).length≤1000000:=by
 have hsl:∀ d∈ds,d.sh.length≤20:=fun d hd=>by
  obtain ⟨k,hk,rfl⟩:=List.getElem_of_mem hd;exact (chkD_lens ((zBl h).2 k hk) (zBl h).1).2.2
 have hdl:=(zCx h).2.2
 have h1:∀ (l:List De) (K:List ByteArray),(∀ d∈l,d∈ds)→(l.foldl (zBj th day) K).length≤K.length+20*l.length:=fun l=>by
  induction l with
  | nil=>exact fun K _=>Nat.le_add_right _ _
  | cons d l ih =>
   intro K hd;have a:=ih (zBj th day K d) fun e he=>hd e (List.mem_cons_of_mem _ he)
   have b:(zBj th day K d).length≤K.length+20:=by
    unfold zBj
    split
    ·have:=keysAll_len d.sh K
     have:=hsl d (hd d List.mem_cons_self);omega
    ·omega
   show (l.foldl (zBj th day) (zBj th day K d)).length≤_
   rw [List.length_cons];omega
 have h2:∀ (l:List De) (K:List ByteArray),(∀ d∈l,d∈ds)→(l.foldl (zAO (movB rs ds i th use day)) K).length≤K.length+22*l.length:=fun l=>by
  induction l with
  | nil=>exact fun K _=>Nat.le_add_right _ _
  | cons d l ih =>
   intro K hd;have a:=ih (zAO (movB rs ds i th use day) K d) fun e he=>hd e (List.mem_cons_of_mem _ he)
   have b:(zAO (movB rs ds i th use day) K d).length≤K.length+22:=by
    unfold zAO zAJ
    split
    ·split
     ·have h3:=keysAll_len d.sh (insN d.fr K)
      have h4:=insN_len d.fr K;have:=hsl d (hd d List.mem_cons_self);omega
     ·have h3:=insN_len d.to_ (insN d.fr K)
      have h4:=insN_len d.fr K;omega
    ·omega
   show (l.foldl (zAO _) (zAO _ K d)).length≤_
   rw [List.length_cons];omega
 have e1:=h2 (ds.take n) (zDl th day ds) fun d hd=>List.mem_of_mem_take hd
 have e2:=h1 ds [] fun d hd=>hd
 have e3:(ds.take n).length≤200:=by rw [List.length_take];omega
 have e4:(zDl th day ds).length≤0+20*ds.length:=e2;unfold zCd;omega
theorem strs1 (W:World) (a:ByteArray):Strs (W.alloc (.cells #[.string a] 9)) (some ⟨W.heap.size,0,none⟩) [a]:=fun _=>⟨W.heap.size,0,rfl,fun i hi=>by
 rw [Nat.zero_add,cell_of_row _ W.heap.size i _ _ _ (heap_alloc_new _ _)]
 match i,hi with
 | 0,_=>rfl⟩
theorem Shares_c (RA:Option Addr) (rc:Nat) (rs:List Rg) (UA:Option Addr) (uc:Nat) (us:List ByteArray) (DA:Option Addr) (dc:Nat) (ds:List De) (th pl use:ByteArray) (day:Int) (w:World)
  (hr:Rgs w RA rs) (hu:Strs w UA us) (hd:Des w DA ds) (hz:∀ i (h:i<rs.length),(rs[i]).nm.size≤9223372036854775807) (hz2:∀ i (h:i<us.length),(us[i]).size≤9223372036854775807) (hdc:ds.length≤dc)
  (hth:th.size≤9223372036854775807) :
  Calls Tryz.prog 11 #[.agg (tiC RA rc rs UA uc us DA dc ds),.string th,.string pl,.string use,.int .i64 day] w (GivesSr (zCe rs us ds th pl use day) w):=by
 generalize hres:zCe rs us ds th pl use day=res;have HR:=zq hres;clear hres;have HX:Hid (Bx (w.alloc (.cells (tiC RA rc rs UA uc us DA dc ds) 26)) w.heap.size (tiC RA rc rs UA uc us DA dc ds) 26):=Bx.new _ _ _;have HB:Hid (Below w.heap.size w (w.alloc (.cells (tiC RA rc rs UA uc us DA dc ds) 26))):=(Below.refl _ _).alloc (Nat.le_refl _) _;obtain ⟨W,hW⟩:∃ W,W=w.alloc (.cells (tiC RA rc rs UA uc us DA dc ds) 26):=⟨_,rfl⟩;rw [←hW] at HX HB;have hba:Below W.heap.size W (W.alloc (.cells #[.string th] 9)):=(Below.refl _ _).alloc (Nat.le_refl _) _;have hbb:Below w.heap.size w (W.alloc (.cells #[.string th] 9)):=zAb HB.o hba;have HX1:=zq (HX.o.below hba)
 have HOP:Hid (Calls Tryz.prog 24 #[.agg (tiC RA rc rs UA uc us DA dc ds),.slice (some ⟨W.heap.size,0,none⟩) 1 1] (W.alloc (.cells #[.string th] 9)) (GivesOp (openF rs us ds [th]) RA rc rs UA uc us DA dc ds (W.alloc (.cells #[.string th] 9)))) :=
  open_c RA rc rs UA uc us DA dc ds (some ⟨W.heap.size,0,none⟩) 1 [th] _ (hr.below hbb) (hu.below hbb) (hd.below hbb) hz hz2 (strs1 W th) (fun i h=>by
   match i,h with
   | 0,_=>exact hth) zd hdc
 have HBB:=zq hbb;have HDw:=zq hd;have HUw:=zq hu;clear hr hu hd hba hbb
 go_enter Tryz.func11,Tryz.ntmps11
 go_upto_region 1 with fail
 rw [←hW];clear hW
 iterate 2 go_step
 refine wp_load_mid _ _ zn w.heap.size 0 zn (tiC RA rc rs UA uc us DA dc ds).toList _ (rangeB HX.o) Tryz.underlying26 rfl zb ?_
 go_wp2_with fail
 with_reducible refine HOP.o.mono ?_
 rintro e w1 ⟨P,rfl,hb1,hp0,hp1⟩;have HB1:=zq (zAb HBB.o hb1);have HX2:=zq (HX1.o.below hb1);have HP0:=zq hp0;have HP1:=zq hp1;clear hb1 hp0 hp1 HOP HX HX1 HB HBB
 by_cases hc:zCH rs us ds=0
 case neg =>
  have hof:openF rs us ds [th]=zCH rs us ds:=by unfold openF;rw [if_pos hc]
  have hcb:(zCH rs us ds != 0)=true:=by simpa using hc
  have HS:Hid (res=([],zCH rs us ds)):=by show _=_;rw [←HR.o,srF_chk hc]
  rw [hof];clear hc hof HP0 HP1;go_wp2;go_ret2
  rw [HS.o];exact GivesSr.no HB1.o
 cases hnm:zBp th with
 | false =>
  have hof:openF rs us ds [th]=5:=by
   unfold openF;rw [if_neg (show ¬ (zCH rs us ds≠0) by rw [hc];simp),if_neg]
   simpa using hnm
  have HS:Hid (res=([],5)):=by show _=_;rw [←HR.o,srF_nm hc hnm]
  rw [hof];clear hc hof HP0 HP1 hnm;go_wp2;go_ret2
  rw [HS.o];exact GivesSr.no HB1.o
 | true =>
  have hof:openF rs us ds [th]=0:=by
   unfold openF;rw [if_neg (show ¬ (zCH rs us ds≠0) by rw [hc];simp),if_pos]
   simpa using hnm
  have HC:=zq hc;have HNM:=zq hnm;rw [hof];obtain ⟨L,rfl,hlg⟩:=HP1.o hof;obtain ⟨hcr,hul,hdl⟩:=zCx HC.o;have HSC:=zq (spot_c RA rc rs UA uc us DA dc ds L pl use day w1 (good_of hcr) hlg (HUw.o.below HB1.o) hul);have HLG:=zq hlg;clear hc hnm hof HP0 HP1 hlg hcr
  go_wp2_with fail
  with_reducible refine HSC.o.mono ?_
  rintro e w2 ⟨hb2,hsp⟩;have HB2:=zq (zAb HB1.o hb2);have HL2:=zq (HLG.o.below hb2);have HX3:=zq (HX2.o.below hb2);clear hb2 HSC HLG HB1 HX2
  rcases hsp with ⟨hs0,rfl⟩ | ⟨hs0,n,hn,rfl⟩
  ·have HS:Hid (res=([],zDn rs us pl use day)):=by show _=_;rw [←HR.o,srF_sp HC.o HNM.o hs0]
   have hcb:(zDn rs us pl use day != 0)=true:=by simpa using hs0
   have hba:Below w2.heap.size w2 (w2.alloc (.cells zSpot 76)):=(Below.refl _ _).alloc (Nat.le_refl _) _;have HB3:=zq (zAb HB2.o hba);clear hs0 hba;go_wp2;go_ret2
   rw [HS.o];exact GivesSr.no HB3.o
  ·have HS:=zq (srF_at HC.o HNM.o hs0)
   rw [HR.o] at HS;have hba:Below w2.heap.size w2 (w2.alloc (.cells (sptC n use day) 76)):=(Below.refl _ _).alloc (Nat.le_refl _) _;have HX4:Hid (Bx (w2.alloc (.cells (sptC n use day) 76)) w2.heap.size (sptC n use day) 76):=Bx.new _ _ _;have HL3:=zq (HL2.o.below hba);have HB3:=zq (zAb HB2.o hba);have HX5:=zq (HX3.o.below hba);obtain ⟨w3,hw3⟩:∃ w3,w3=w2.alloc (.cells (sptC n use day) 76):=⟨_,rfl⟩;rw [←hw3] at HX4 HL3 HB3 HX5;obtain ⟨i,hi⟩:∃ i,i=(idx rs pl).getD 0:=⟨_,rfl⟩;rw [←hi] at HS hn;have HPT:=zq (parts_c RA rc rs UA uc us DA dc ds L n i ds.length use day th true w3 HL3.o (HDw.o.below HB3.o) HC.o hn (Nat.le_refl _) hdc (fun d hd=>Nat.le_trans (short_of HC.o d hd).2 zc))
   rw [Bool.true_and] at HPT;have HKS:=zq (parts_sum HC.o i th use day ds.length);have HKL:=zq (keys_len HC.o i th use day ds.length (Nat.le_refl _));have HPZ:=zq (fun p=>parts_sz HC.o i th use day ds.length (Nat.le_refl _) p)
   clear hs0 hba hn hi;go_upto_region 7 with fail
   rw [←hw3];clear hw3 HL2 HB2 HX3;have x0:=HX4.o.cell (i:=0) rfl;have x1:=HX4.o.cell (i:=1) rfl;have x2:=HX4.o.cell (i:=2) rfl;have hsx:=HX4.o.lt;have t2:=HX5.o.cell (i:=2) rfl;have hst:=HX5.o.lt
   go_wp2_with fail
   with_reducible refine HPT.o.mono ?_
   rintro e w4 ⟨hb4,hbad,hok⟩;have HB4:=zq (zAb HB3.o hb4);clear hb4 x0 x1 x2 hsx t2 hst
   cases hlo:zCp rs ds i th use day ds.length with
   | true =>
    have he:=hbad hlo;subst he;have HS2:Hid (res=([],2)):=by show _=_;rw [HS.o,if_pos hlo]
    clear hlo hbad hok;go_wp2;go_ret2
    rw [HS2.o];exact GivesSr.no HB4.o
   | false =>
    obtain ⟨g,rfl,hpm⟩:=hok hlo;have HS2:Hid (res=(pairs (holL (zCd rs ds i th use day ds.length) (zAI rs ds i th use day ds.length)) (zAI rs ds i th use day ds.length),0)):=by show _=_;rw [HS.o,if_neg (by rw [hlo];simp)]
    have HLC:=zq (list_c g _ _ w4 hpm HKS.o.1 HKS.o.2.1 HKL.o HPZ.o);clear hlo hbad hok hpm
    go_wp2_with fail
    with_reducible refine HLC.o.mono ?_
    rintro e w5 ⟨A5,c5,rfl,hs5,hb5⟩;have HB5:=zq (zAb HB4.o hb5);have HS5:=zq hs5;clear hb5 hs5;go_wp2;go_ret2
    rw [HS2.o];exact ⟨A5,c5,(by rw [List.length_map];rfl),HS5.o,HB5.o⟩
theorem szQ_in {q:Rat} {M k:Nat} (h0:0≤q) (h1:q≤1) (hd:q.den∣M) (hz:M≠0) (hM:M<10 ^ k):SzQ k q:=by
 have g1:=(Rat.le_iff q 1).1 h1;have g2:=Rat.num_nonneg.2 h0;have g3:=Nat.le_of_dvd (Nat.pos_of_ne_zero hz) hd;have g4:q.num≤q.den:=by simpa using g1
 exact szQ_of (M:=M) ⟨za,g3⟩ hM
theorem sumF_app (a b:List ByteArray) (f:zBm):zCt (a++b) f=zCt a f+zCt b f:=by
 induction a with
 | nil=>rw [List.nil_append,sumF_nil];grind
 | cons x a ih=>rw [List.cons_append,zBn,zBn,ih];grind
theorem sumF_den {f:zBm} {M:Nat} (hM:M≠0) (h:∀ p,(f p).den∣M):∀ N:List ByteArray,(zCt N f).den∣M
 | []=>Nat.one_dvd _
 | p::N=>den_add hM (h p) (sumF_den hM h N)
theorem sumF_takeLe {f:zBm} (h:∀ p,0≤f p) (N:List ByteArray) (j:Nat):zCt (N.take j) f≤zCt N f:=by
 have e:=sumF_app (N.take j) (N.drop j) f;rw [List.take_append_drop] at e;have:=sum_ge (N:=N.drop j) h
 grind
theorem sumF_snoc {f:zBm} {N:List ByteArray} {j:Nat} (h:j<N.length):zCt (N.take (j+1)) f=zCt (N.take j) f+f N[j]:=by
 rw [List.take_succ_eq_append_getElem h,sumF_app,zBn,sumF_nil]
 grind
theorem sums_sz {K L:List ByteArray} {M:Nat} {f:zBm} (h:HoldB K M f) (hs:zCt L f≤1) (hM:M<10 ^ 10000000) (j:Nat):0≤zCt (L.take j) f∧SzQ 10000000 (zCt (L.take j) f) :=
 ⟨sum_ge h.ok.pos,szQ_in (sum_ge h.ok.pos) (by have:=sumF_takeLe h.ok.pos L j;grind) (sumF_den h.nz h.den _) h.nz hM⟩
theorem shSum_snoc {l:List Sh} {k:Nat} (h:k<l.length):zBb (l.take (k+1))=zBb (l.take k)+shQ l[k]:=by
 rw [List.take_succ_eq_append_getElem h,shSum_app]
 show _+(shQ l[k]+0)=_
 grind
theorem shSum_den {l:List Sh} (h:∀ s∈l,0<zAy s.de) {M:Nat} (hM:M≠0) (hd:∀ s∈l,zAy s.de∣M):(zBb l).den∣M:=by
 induction l with
 | nil=>exact Nat.one_dvd _
 | cons s l ih=>exact den_add hM (Nat.dvd_trans (shQ_den (h s List.mem_cons_self)) (hd s List.mem_cons_self)) (ih (fun t ht=>h t (List.mem_cons_of_mem _ ht)) (fun t ht=>hd t (List.mem_cons_of_mem _ ht)))
theorem shs_sz {rs:List Rg} {us:List ByteArray} {ds:List De} (h:zCH rs us ds=0) {d:De} (hd:d∈ds) (hk:d.kd=1) (k:Nat):0≤zBb (d.sh.take k)∧SzQ 10000000 (zBb (d.sh.take k)):=by
 have ho:=((zBI h d hd).org hk).1;have hsh:=title_sh h d hd (.inl hk);have hp:=fun s (hs:s∈d.sh)=>zCb (ho.rat s hs)
 have hz:=denP_nz hp;have h1:=shs_le hsh;have h2:=shSum_take d.sh k
 have h3:denP d.sh<10 ^ 10000000:=by
  obtain ⟨a,ha⟩:∃ a,a=10000000:=⟨_,rfl⟩;rw [←ha];exact Nat.lt_of_lt_of_le (denP_lt fun s hs=>ratF_lt (ho.rat s hs)) (Nat.pow_le_pow_right za (by have:=shF_len hsh;omega))
 refine ⟨shSum_pos _,szQ_in (shSum_pos _) (by grind) (shSum_den (fun s hs=>hp s (List.mem_of_mem_take hs)) hz (fun s hs=>denP_dvd (List.mem_of_mem_take hs))) hz h3⟩
theorem orgSum_snoc (th:ByteArray) (day:Int) (l:List De) (d:De):zBC th day (l++[d])=zBC th day l+(if orgB th day d=true then zBb d.sh else 0):=by
 induction l with
 | nil=>show (_+(0:Rat))=0+_;grind
 | cons a l ih =>
  show _+zBC th day (l++[d])=(_+zBC th day l)+_
  rw [ih]
  grind
theorem orgSum_succ (th:ByteArray) (day:Int) {ds:List De} {i:Nat} (h:i<ds.length):zBC th day (ds.take (i+1))=zBC th day (ds.take i)+(if orgB th day ds[i]=true then zBb (ds[i]).sh else 0):=by
 rw [List.take_succ_eq_append_getElem h,orgSum_snoc]
theorem org_first {rs:List Rg} {us:List ByteArray} {ds:List De} (h:zCH rs us ds=0) {th:ByteArray} {day:Int} {i:Nat} (hi:i<ds.length) (hb:orgB th day ds[i]=true):zBC th day (ds.take i)=0:=by
 obtain ⟨k1,k2,_⟩:=zCm.1 hb;refine (org_none (th:=th) (day:=day) (ds.take i) (fun _=>0) fun d hd=>?_).2
 cases hq:orgB th day d with
 | false=>rfl
 | true =>
  obtain ⟨q1,q2,_⟩:=zCm.1 hq;obtain ⟨j,hj,rfl⟩:=List.getElem_of_mem hd;have hj2:j<i:=by rw [List.length_take] at hj;omega
  have:=List.pairwise_iff_getElem.1 (title_org h) j i za hi hj2;rw [List.getElem_take] at q1 q2;exact absurd ⟨q1,k1,by rw [q2,k2]⟩ this
end Go.Proofs.YtieoifkdobcpiaaGreatDoor
