/- Parts of the proof, joined: What is too long, plainly: no program in sight. The reference's number. -/
import Derived.Test.YtieoifkdobcpiaaGreatDoorSs39
set_option maxRecDepth 100000
set_option maxHeartbeats 8000000
namespace Go.Proofs.YtieoifkdobcpiaaGreatDoor
open Dw
theorem longQ_of {q:Rat} (h1:q.num.natAbs<10 ^ 2000) (h2:q.den<10 ^ 2000):zCF q=false:=by
 unfold zCF;simp only [Bool.or_eq_false_iff,decide_eq_false_iff_not,Nat.not_le];exact ⟨h1,h2⟩
theorem longQ_ratQ {nu de:ByteArray} (h:zDm nu de=0):zCF (zCT nu de)=false:=by
 have e:=ratF_prQ h;obtain ⟨h1,h2,h3,h4,h5⟩:=zBY h;have e1:zAy (zAX nu)=(zCT nu de).num.natAbs:=congrArg Prod.fst e;have e2:zAy de=(zCT nu de).den:=congrArg Prod.snd e
 have key:∀ s:ByteArray,zCP s=true→s.size≤2000→zAy s<10 ^ 2000:=fun s hs hl=>by
  obtain ⟨q,hq⟩:∃ q,q=2000:=⟨_,rfl⟩;rw [←hq] at hl ⊢;refine Nat.lt_of_lt_of_le (decV_dg (zAQ hs).1) (Nat.pow_le_pow_right zd ?_)
  simpa using hl
 exact longQ_of (by rw [←e1];exact key _ h1 h4) (by rw [←e2];exact key _ h2 h5)
theorem put_short (l:List Sh):∀ (f:zBp),(∀ s∈l,zCF (shQ s)=false)→(∀ p,zCF (f p)=false)→∀ p,zCF (zAj l f p)=false:=by
 induction l with
 | nil=>exact fun f _ hf=>hf
 | cons s l ih =>
  intro f hs hf;refine ih (upH f s.pt (shQ s)) (fun t ht=>hs t (List.mem_cons_of_mem _ ht)) fun p=>?_
  by_cases hp:p=s.pt
  ·subst hp;rw [zBD];exact hs s List.mem_cons_self
  ·rw [zAN _ _ hp];exact hf p
theorem start_short {rs:List Rg} {us:List ByteArray} {ds:List De} (h:zCD rs us ds=0) (th:ByteArray) (day:Int):∀ p,zCF (zDo th day ds p)=false:=by
 have key:∀ (l:List De) (f:zBp),(∀ d∈l,d∈ds)→(∀ p,zCF (f p)=false)→∀ p,zCF (l.foldl (orgF th day) f p)=false:=fun l=>by
  induction l with
  | nil=>exact fun f _ hf=>hf
  | cons d l ih =>
   intro f hl hf;refine ih (orgF th day f d) (fun e he=>hl e (List.mem_cons_of_mem _ he)) ?_
   unfold orgF
   split
   ·next ho =>
    have hk:=(zDf.1 ho).1;have hs:=((zBO h d (hl d List.mem_cons_self)).org hk).1;exact put_short _ _ (fun s hs'=>longQ_ratQ (hs.rat s hs')) hf
   ·exact hf
 exact key ds _ (fun d hd=>hd) fun _=>longQ_zero
theorem anyLong_no {K:List ByteArray} {f:zBp} (h:∀ p,zCF (f p)=false):zDj K f=false:=by
 unfold zDj;rw [List.any_eq_false];intro p _;simp [h p]
theorem longF_zero (rs:List Rg) (ds:List De) (i:Nat) (th use:ByteArray) (day:Int):zCh rs ds i th use day 0=false:=rfl
theorem longF_succ (rs:List Rg) (ds:List De) (i:Nat) (th use:ByteArray) (day:Int) (n:Nat):zCh rs ds i th use day (n+1)=(zCh rs ds i th use day n || zDj (zBz rs ds i th use day (n+1)) (zAD rs ds i th use day (n+1))):=by
 unfold zCh;rw [List.range_succ,List.any_append];simp
theorem longF_mono {rs:List Rg} {ds:List De} {i:Nat} {th use:ByteArray} {day:Int} {k:Nat} (h:zCh rs ds i th use day k=true):∀ {n:Nat},k≤n→zCh rs ds i th use day n=true:=by
 intro n hn;unfold zCh at *;rw [List.any_eq_true] at *;obtain ⟨x,hx,h2⟩:=h;exact ⟨x,List.mem_range.2 (Nat.lt_of_lt_of_le (List.mem_range.1 hx) hn),h2⟩
theorem longF_parts {rs:List Rg} {us:List ByteArray} {ds:List De} (h:zCD rs us ds=0) (i:Nat) (th use:ByteArray) (day:Int):∀ n,n≤ds.length→zCh rs ds i th use day n=false→∀ p,zCF (zAD rs ds i th use day n p)=false
 | 0,_,_=>start_short h th day
 | n+1,hn,hl=>by
  rw [longF_succ,Bool.or_eq_false_iff] at hl;intro p
  cases hq:zCF (zAD rs ds i th use day (n+1) p) with
  | false=>rfl
  | true =>
   obtain ⟨M,hM,_⟩:=zDA h i th use day (n+1) hn;have:=(anyLong_iff hM.ok).2 ⟨p,hq⟩;rw [hl.2] at this
   cases this
theorem longF_skip {rs:List Rg} {us:List ByteArray} {ds:List De} (h:zCD rs us ds=0) {i:Nat} {th use:ByteArray} {day:Int} {n:Nat} (hn:n<ds.length) (hm:zDE rs ds i th use day ds[n]=false) (hl:zCh rs ds i th use day n=false) :
  zCh rs ds i th use day (n+1)=false∧zAD rs ds i th use day (n+1)=zAD rs ds i th use day n:=by
 obtain ⟨e1,_⟩:=zDz rs i th use day hn;have e3:zAD rs ds i th use day (n+1)=zAD rs ds i th use day n:=by rw [e1];unfold stepF;rw [hm];rfl
 refine ⟨?_,e3⟩
 rw [longF_succ,hl,e3,Bool.false_or];exact anyLong_no (longF_parts h i th use day n za hl)
theorem keysF_take {rs:List Rg} {ds:List De} {i:Nat} {th use:ByteArray} {day:Int} {n:Nat} (hn:n<ds.length) (hm:zDE rs ds i th use day ds[n]=true) :
  zAD rs ds i th use day (n+1)=zCR ds[n] (zAD rs ds i th use day n)∧zBz rs ds i th use day (n+1)=zAu ds[n] (zBz rs ds i th use day n):=by
 obtain ⟨e1,e2⟩:=zDz rs i th use day hn;rw [e1,e2];unfold stepF zBb;rw [hm];exact ⟨rfl,rfl⟩
theorem take_ask {rs:List Rg} {us:List ByteArray} {ds:List De} (h:zCD rs us ds=0) {i:Nat} {th use:ByteArray} {day:Int} {n:Nat} (hn:n<ds.length) (hm:zDE rs ds i th use day ds[n]=true) :
  ∃ M,HoldB (zAu ds[n] (zBz rs ds i th use day n)) M (zAD rs ds i th use day n)∧SzN 90000000 (M*growD ds[n])∧ds[n].sh.length≤20:=by
 obtain ⟨M,h1,h2⟩:=zDA h i th use day n za;have hd:=List.getElem_mem hn;obtain ⟨k1,_,_⟩:=zDS h i th use day n;have hl:(ds[n]).sh.length≤20:=(zDP ((zBa h).2 n hn) (zBa h).1).2.2;have hz:=zCr h;generalize ds[n]=d at *;obtain ⟨m1,_⟩:=zCw d (K:=zBz rs ds i th use day n);refine ⟨M,h1.more (zCY d k1).nodup m1,?_,hl⟩
 have h3:=growD_lt (zBO h d hd) hl (movB_kd hm);have h4:M*growD d<10 ^ (40001*(n+1)+40001):=by rw [Nat.pow_add];exact Nat.mul_lt_mul'' h2 h3
 exact (szN_of h4).le (by have:=hz.2.2;omega)
theorem parts_sz {rs:List Rg} {us:List ByteArray} {ds:List De} (h:zCD rs us ds=0) (i:Nat) (th use:ByteArray) (day:Int) (n:Nat) (hn:n≤ds.length) (p:ByteArray):SzQ 10000000 (zAD rs ds i th use day n p):=by
 obtain ⟨M,h1,h2⟩:=zDA h i th use day n hn;have hz:=zCr h;exact h1.sz ((szN_of h2).le (by have:=hz.2.2;omega)) p
open Go.RowKit Dw
def zDI (q:Rat) (w:World) (e:Ending) (w':World):Prop:=zCu false q.num.natAbs q.den w e w'
theorem OfT_c (nu de:ByteArray) (w:World) (h:zDm nu de=0) (hp:posB nu=true):Calls Tryz.prog 17 #[.agg #[.string nu,.string de]] w (zDI (zCT nu de) w):=by
 obtain ⟨h1,h2,h3,h4,h5⟩:=zBY h;have:=Of_cT nu de w (zAQ h1).1 h4 (zAQ h2).1 h5;rw [posB_neg hp] at this;have e:=ratF_prQ h;have e1:zAy (zAX nu)=(zCT nu de).num.natAbs:=congrArg Prod.fst e;have e2:zAy de=(zCT nu de).den:=congrArg Prod.snd e;rw [e1,e2] at this;exact this
section
variable (A A2 A3 A4:Option Addr) (c c2 c3 c4:Nat) (a b:Rat) (w:World)
theorem TimesQ_c (h:Lt w A c a.num.natAbs) (h2:Lt w A2 c2 a.den) (h3:Lt w A3 c3 b.num.natAbs) (h4:Lt w A4 c4 b.den) (ha:0≤a) (hb:0≤b) (sa:SzQ 50000000 a) (sb:SzQ 50000000 b) :
  Calls Tryz.prog 101 #[nuV false A c a.num.natAbs A2 c2 a.den,nuV false A3 c3 b.num.natAbs A4 c4 b.den] w (zDI (a*b) w):=by
 have:=times_c A A2 A3 A4 c c2 c3 c4 a.num.natAbs a.den b.num.natAbs b.den w h h2 h3 h4 sa.1.2 sa.2.2 sb.1.2 sb.2.2 (den_q a) (den_q b);rw [show (a.num.natAbs,a.den)=prQ a from rfl,show (b.num.natAbs,b.den)=prQ b from rfl,mulP_q ha hb] at this
 exact this
theorem PlusQ_c (h:Lt w A c a.num.natAbs) (h2:Lt w A2 c2 a.den) (h3:Lt w A3 c3 b.num.natAbs) (h4:Lt w A4 c4 b.den) (ha:0≤a) (hb:0≤b) (sa:SzQ 50000000 a) (sb:SzQ 50000000 b) :
  Calls Tryz.prog 16 #[nuV false A c a.num.natAbs A2 c2 a.den,nuV false A3 c3 b.num.natAbs A4 c4 b.den] w (zDI (a+b) w):=by
 have:=plus_c false false A A2 A3 A4 c c2 c3 c4 a.num.natAbs a.den b.num.natAbs b.den w h h2 h3 h4 sa.1.2 sa.2.2 sb.1.2 sb.2.2 (den_q a) (den_q b)
 have e:zDU false a.num.natAbs a.den false b.num.natAbs b.den=(false,prQ (a+b)):=by
  rw [←addP_q ha hb];unfold zDU;rw [if_pos rfl]
  rfl
 rw [e] at this;exact this
theorem LessQ_c (h:Lt w A c a.num.natAbs) (h2:Lt w A2 c2 a.den) (h3:Lt w A3 c3 b.num.natAbs) (h4:Lt w A4 c4 b.den) (hb:0≤b) (hle:b≤a) (sa:SzQ 50000000 a) (sb:SzQ 50000000 b) :
  Calls Tryz.prog 16 #[nuV false A c a.num.natAbs A2 c2 a.den,nuV (!false&&decide (b.num.natAbs≠0)) A3 c3 b.num.natAbs A4 c4 b.den] w (zDI (a - b) w):=by
 have:=plus_c false (!false&&decide (b.num.natAbs≠0)) A A2 A3 A4 c c2 c3 c4 a.num.natAbs a.den b.num.natAbs b.den w h h2 h3 h4 sa.1.2 sa.2.2 sb.1.2 sb.2.2 (den_q a) (den_q b)
 have e:zDU false a.num.natAbs a.den (!false&&decide (b.num.natAbs≠0)) b.num.natAbs b.den=(false,prQ (a - b)):=by
  rw [←subP_q hb hle];unfold zDU
  by_cases h0:b.num.natAbs=0
  ·rw [if_pos (by simp [h0])]
   unfold subP
   show (false&&_,zBV (a.num.natAbs*b.den+b.num.natAbs*a.den) (a.den*b.den))=(false,zBV (a.num.natAbs*b.den - b.num.natAbs*a.den) (a.den*b.den))
   rw [h0,Nat.zero_mul,Nat.add_zero,Nat.sub_zero,Bool.false_and]
  ·rw [if_neg (by simp [h0]),if_pos (le_q hb hle)]
   rfl
 rw [e] at this;exact this
theorem LongQ_c (h:Lt w A c a.num.natAbs) (h2:Lt w A2 c2 a.den) (sa:SzQ 50000000 a) (hP:POK w):Calls Tryz.prog 102 #[nuV false A c a.num.natAbs A2 c2 a.den,.int .i64 2000] w (zAe (.bool (zCF a)) w):=by
 have:Calls Tryz.prog 102 #[nuV false A c a.num.natAbs A2 c2 a.den,.int .i64 2000] w (zAe (.bool (tooB a.num.natAbs a.den 2000)) w):=Long_c A A2 c c2 a.num.natAbs a.den 2000 w h h2 (Nat.le_trans sa.1.2 za) (Nat.le_trans sa.2.2 za) hP;rw [tooB_long] at this;exact this
end
def HoS (w:World) (v:Value) (K:List ByteArray) (f:zBp):Prop:=∃ A c l,v = .slice A l.length c∧RdK eHo w A l∧HoOk w l∧prH l=zCg K f
theorem rdk_below {α:Type} {enc:α→List Value} {w w':World} {A:Option Addr} {l:List α} (h:RdK enc w A l) (hb:Below w.heap.size w w'):RdK enc w' A l:=fun hl=>by
 obtain ⟨b,o,e,hc⟩:=h hl;exact ⟨b,o,e,fun j v hv=>zAf hb (hc j v hv)⟩
theorem HoS.below {w w':World} {v:Value} {K:List ByteArray} {f:zBp} (h:HoS w v K f) (hb:Below w.heap.size w w'):HoS w' v K f:=by
 obtain ⟨A,c,l,e,h1,h2,h3⟩:=h;exact ⟨A,c,l,e,rdk_below h1 hb,h2.below hb,h3⟩
theorem HoS.nil (w:World) (f:zBp):HoS w (.slice none 0 0) [] f:=⟨none,0,[],rfl,(fun h=>absurd h ze),(fun _ h=>jx),rfl⟩
theorem pairs_len {l:List Ho} {K:List ByteArray} {f:zBp} (h:prH l=zCg K f):l.length=K.length:=by
 have:=congrArg List.length h;unfold zCg at this
 simpa using this
def GivesHs (K:List ByteArray) (f:zBp) (w:World) (e:Ending) (w':World):Prop:=∃ A c n,e = .returned (.slice A n c)∧HoS w' (.slice A n c) K f∧Below w.heap.size w w'
theorem withS_c (v:Value) (K:List ByteArray) (f:zBp) (p:ByteArray) (q:Rat) (A1 A2:Option Addr) (c1 c2:Nat) (w:World) (h:HoS w v K f) (hk:IncN K) (hl:K.length≤1000000) (h1:Lt w A1 c1 q.num.natAbs) (h2:Lt w A2 c2 q.den) :
  Calls Tryz.prog 98 #[v,.string p,nuV false A1 c1 q.num.natAbs A2 c2 q.den] w (GivesHs (zDV p K) (upH f p q) w):=by
 obtain ⟨A,c,l,rfl,hr,ho,hp⟩:=h;refine (with_c A A1 A2 c c1 c2 l p q w hr ho (by rw [pairs_len hp];exact hl) h1 h2).mono ?_
 rintro _ _ ⟨v,l',rfl,hown,hok,hpr,hb⟩;obtain ⟨A',c',rfl,hrd⟩:=hown.rdk;exact ⟨A',c',_,rfl,⟨A',c',l',rfl,hrd,hok,by rw [hpr,hp,withR_eq p q f hk]⟩,hb⟩
theorem partS_c (v:Value) (K:List ByteArray) (f:zBp) (p:ByteArray) (w:World) (h:HoS w v K f) (hh:HoldOk K f) (hl:K.length≤1000000) :
  Calls Tryz.prog 100 #[v,.string p] w (zDI (f p) w):=by
 obtain ⟨A,c,l,rfl,hr,ho,hp⟩:=h;have:=partOf_c A c l p w hr ho (by rw [pairs_len hp];exact hl)
 rw [hp,findQ_pairs hh] at this;exact this
theorem moves_c (RA:Option Addr) (rc:Nat) (rs:List Rg) (UA:Option Addr) (uc:Nat) (us:List ByteArray) (DA:Option Addr) (dc:Nat) (ds:List De) (L k n i:Nat) (use:ByteArray) (day:Int) (th:ByteArray) (w:World)
  (hl:LgIs RA rc rs UA uc us DA dc ds w L) (hd:Des w DA ds) (hk:k<ds.length) (hn:(zAH rs)[n]?=some i) (hul:(ds[k]).us.length≤1000000) :
  Calls Tryz.prog 71 #[.pointer (some ⟨L,0,none⟩),.int .i64 (k:Int),.string th,.agg (sptC n use day)] w (zAe (.bool (zDE rs ds i th use day ds[k])) w):=by
 have hbw:Below w.heap.size w (w.alloc (.cells (sptC n use day) 76)):=(Below.refl _ _).alloc (Nat.le_refl _) _;have HX:Hid (Bx (w.alloc (.cells (sptC n use day) 76)) w.heap.size (sptC n use day) 76):=Bx.new _ _ _;obtain ⟨W,hW⟩:∃ W,W=w.alloc (.cells (sptC n use day) 76):=⟨_,rfl⟩;rw [←hW] at HX hbw;have HB:=zq hbw;obtain ⟨b,o,rfl,hb0,hc0⟩:=(hd.below hbw) za;have hlW:=hl.below hbw;have HVAL:=zq (fun (u:World) (hu:Below W.heap.size W u)=>valid_c RA rc rs UA uc us (some ⟨b,o,none⟩) dc ds L k n i use day u (hlW.below hu) ((hd.below hbw).below hu) hk hn hul)
 obtain ⟨d,hdd⟩:∃ d,ds[k]=d:=⟨_,rfl⟩;have hrg:=(hc0 k hk).1;rw [hdd] at hrg HVAL ⊢;generalize hres:zDE rs ds i th use day d=res;have HR:=zq hres;obtain ⟨r1,r2,g1,g2,AL,cL,vr,vi,ins,base,hlx,_⟩:=hlW;have l2:=hlx.cell (i:=2) rfl;have hsl:=hlx.lt;clear hl hd hbw hc0 hdd hres hlx hul
 go_enter Tryz.func71,Tryz.ntmps71
 go_upto_region 1 with fail
 rw [←hW];clear hW
 iterate 23 go_step
 refine wp_load_mid _ _ zk b (o+k*16) zk (deC d).toList _ hrg Tryz.underlying52 rfl zc ?_
 clear hrg;go_upto_region 2 with fail
 obtain ⟨wd,hwd⟩:∃ wd,wd=W.alloc (.cells (deC d) 52):=⟨_,rfl⟩;rw [←hwd];have hbd:Below W.heap.size W wd:=yj;have HD1:Hid (Bx wd W.heap.size (deC d) 52):=yq;have HXD:=zq (HX.o.below hbd);have HBD:=zq hbd;clear hwd hbd l2 hsl HX;have d2:=HD1.o.cell (i:=2) rfl;have d3:=HD1.o.cell (i:=3) rfl;have d12:=HD1.o.cell (i:=12) rfl;have hsd:=HD1.o.lt;have x0:=HXD.o.cell (i:=0) rfl;have x1:=HXD.o.cell (i:=1) rfl;have x2:=HXD.o.cell (i:=2) rfl;have hsx:=HXD.o.lt
 by_cases hq:d.kd=2
 ·have e1:(d.kd == 2)=true:=by simpa using hq
  by_cases ht:d.th=th
  ·have q1:=zAB ht
   have HE:Hid (res=vB rs ds i use day d):=by show _=_;rw [←HR.o];unfold zDE;rw [if_pos hq,decide_eq_true ht,Bool.true_and]
   clear hq ht
   go_wp2_with fail
   with_reducible refine (HVAL.o _ HBD.o).mono ?_
   rintro e w3 ⟨rfl,hb3⟩;have HB3:=zq (zAa HB.o (zAa HBD.o hb3));clear hb3;go_wp2;go_ret
   exact zAe.mk (by rw [HE.o];rfl) HB3.o
  ·have q1:=zAr ht
   have HE:Hid (res=false):=by show _=_;rw [←HR.o];unfold zDE;rw [if_pos hq,decide_eq_false ht,Bool.false_and]
   clear hq ht;go_wp2;go_ret
   exact zAe.mk (by rw [HE.o];rfl) (zAa HB.o HBD.o)
 ·have e1:(d.kd == 2)=false:=by simpa using hq
  by_cases h5:d.kd=5
  ·have e2:(d.kd == 5)=true:=by simpa using h5
   have HE:Hid (res=decide (d.bg≤day)):=by show _=_;rw [←HR.o];unfold zDE;rw [if_neg hq,if_pos h5]
   clear hq h5;go_wp2;go_ret
   exact zAe.mk (by rw [HE.o];rfl) (zAa HB.o HBD.o)
  ·have e2:(d.kd == 5)=false:=by simpa using h5
   have HE:Hid (res=false):=by show _=_;rw [←HR.o];unfold zDE;rw [if_neg hq,if_neg h5]
   clear hq h5;go_wp2;go_ret
   exact zAe.mk (by rw [HE.o];rfl) (zAa HB.o HBD.o)
end Go.Proofs.YtieoifkdobcpiaaGreatDoor
