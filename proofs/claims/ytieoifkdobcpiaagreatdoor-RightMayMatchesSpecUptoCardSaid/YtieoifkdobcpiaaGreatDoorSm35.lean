/- Parts of the proof, joined: What is too long, plainly: no program in sight. The reference's number. -/
import Derived.Test.YtieoifkdobcpiaaGreatDoorSm34
import Derived.Ground.SlgmProg
import Derived.Shelf.SortM.Plain
import Derived.Shelf.SortM.SortNone
import Derived.Shelf.SlGeneric
set_option maxRecDepth 100000
set_option maxHeartbeats 8000000
namespace Go.Proofs.YtieoifkdobcpiaaGreatDoor
open Dw
theorem longQ_of {q:Rat} (h1:q.num.natAbs<10 ^ 2000) (h2:q.den<10 ^ 2000):zCK q=false:=by
 unfold zCK;simp only [aI,decide_eq_false_iff_not,Nat.not_le];exact ⟨h1,h2⟩
theorem longQ_ratQ {nu de:BA} (h:zDq nu de=0):zCK (zCX nu de)=false:=by
 have e:=ratF_prQ h;obtain ⟨h1,h2,h3,h4,h5⟩:=zCe h;have e1:zAz (zAY nu)=(zCX nu de).num.natAbs:=bH Prod.fst e;have e2:zAz de=(zCX nu de).den:=bH Prod.snd e
 have key:∀ s:BA,zCR s=true→s.size≤2000→zAz s<10 ^ 2000:=fun s hs hl=>by
  obtain ⟨q,hq⟩:∃ q,q=2000:=⟨_,rfl⟩;rw [←hq] at hl ⊢;refine dL (decV_dg (zAQ hs).1) (bY zd ?_)
  simpa using hl
 exact longQ_of (by rw [←e1];exact key _ h1 h4) (by rw [←e2];exact key _ h2 h5)
theorem put_short (l:List Sh):∀ (f:zBm),(∀ s∈l,zCK (shQ s)=false)→(∀ p,zCK (f p)=false)→∀ p,zCK (zAk l f p)=false:=by
 induction l with
 | nil=>exact fun f _ hf=>hf
 | cons s l ih =>
  intro f hs hf;refine ih (upH f s.pt (shQ s)) (fun t ht=>hs t (aW _ ht)) fun p=>?_
  by_cases hp:p=s.pt
  ·subst hp;rw [zBI];exact hs s aX
  ·rw [zAN _ _ hp];exact hf p
theorem start_short {rs:List Rg} {us:List BA} {ds:List De} (h:zCI rs us ds=0) (th:BA) (day:Int):∀ p,zCK (zDv th day ds p)=false:=by
 have key:∀ (l:List De) (f:zBm),(∀ d∈l,d∈ds)→(∀ p,zCK (f p)=false)→∀ p,zCK (l.foldl (orgF th day) f p)=false:=fun l=>by
  induction l with
  | nil=>exact fun f _ hf=>hf
  | cons d l ih =>
   intro f hl hf;refine ih (orgF th day f d) (fun e he=>hl e (aW _ he)) ?_
   unfold orgF
   split
   ·next ho =>
    have hk:=(zDf.1 ho).1;have hs:=((zBU h d (hl d aX)).org hk).1;exact put_short _ _ (fun s hs'=>longQ_ratQ (hs.rat s hs')) hf
   ·exact hf
 exact key ds _ (fun d hd=>hd) fun _=>longQ_zero
theorem anyLong_no {K:List BA} {f:zBm} (h:∀ p,zCK (f p)=false):zDm K f=false:=by
 unfold zDm;rw [aV];intro p _;simp [h p]
theorem longF_zero (rs:List Rg) (ds:List De) (i:Nat) (th use:BA) (day:Int):zCl rs ds i th use day 0=false:=rfl
theorem longF_succ (rs:List Rg) (ds:List De) (i:Nat) (th use:BA) (day:Int) (n:Nat):zCl rs ds i th use day (n+1)=(zCl rs ds i th use day n || zDm (zBD rs ds i th use day (n+1)) (zAH rs ds i th use day (n+1))):=by
 unfold zCl;rw [dV,eK];simp
theorem longF_mono {rs:List Rg} {ds:List De} {i:Nat} {th use:BA} {day:Int} {k:Nat} (h:zCl rs ds i th use day k=true):∀ {n:Nat},k≤n→zCl rs ds i th use day n=true:=by
 intro n hn;unfold zCl at *;rw [List.any_eq_true] at *;obtain ⟨x,hx,h2⟩:=h;exact ⟨x,List.mem_range.2 (dL (List.mem_range.1 hx) hn),h2⟩
theorem longF_parts {rs:List Rg} {us:List BA} {ds:List De} (h:zCI rs us ds=0) (i:Nat) (th use:BA) (day:Int):∀ n,n≤ds.length→zCl rs ds i th use day n=false→∀ p,zCK (zAH rs ds i th use day n p)=false
 | 0,_,_=>start_short h th day
 | n+1,hn,hl=>by
  rw [longF_succ,aI] at hl;intro p
  cases hq:zCK (zAH rs ds i th use day (n+1) p) with
  | false=>rfl
  | true =>
   obtain ⟨M,hM,_⟩:=zCy h i th use day (n+1) hn;have:=(anyLong_iff hM.ok).2 ⟨p,hq⟩;rw [hl.2] at this
   cases this
theorem longF_skip {rs:List Rg} {us:List BA} {ds:List De} (h:zCI rs us ds=0) {i:Nat} {th use:BA} {day:Int} {n:Nat} (hn:n<ds.length) (hm:zDO rs ds i th use day ds[n]=false) (hl:zCl rs ds i th use day n=false) :
  zCl rs ds i th use day (n+1)=false∧zAH rs ds i th use day (n+1)=zAH rs ds i th use day n:=by
 obtain ⟨e1,_⟩:=zDH rs i th use day hn;have e3:zAH rs ds i th use day (n+1)=zAH rs ds i th use day n:=by rw [e1];unfold stepF;rw [hm];rfl
 refine ⟨?_,e3⟩
 rw [longF_succ,hl,e3,eR];exact anyLong_no (longF_parts h i th use day n za hl)
theorem keysF_take {rs:List Rg} {ds:List De} {i:Nat} {th use:BA} {day:Int} {n:Nat} (hn:n<ds.length) (hm:zDO rs ds i th use day ds[n]=true) :
  zAH rs ds i th use day (n+1)=zCY ds[n] (zAH rs ds i th use day n)∧zBD rs ds i th use day (n+1)=zAw ds[n] (zBD rs ds i th use day n):=by
 obtain ⟨e1,e2⟩:=zDH rs i th use day hn;rw [e1,e2];unfold stepF zBd;rw [hm];exact ⟨rfl,rfl⟩
theorem take_ask {rs:List Rg} {us:List BA} {ds:List De} (h:zCI rs us ds=0) {i:Nat} {th use:BA} {day:Int} {n:Nat} (hn:n<ds.length) (hm:zDO rs ds i th use day ds[n]=true) :
  ∃ M,HoldB (zAw ds[n] (zBD rs ds i th use day n)) M (zAH rs ds i th use day n)∧SzN 90000000 (M*growD ds[n])∧ds[n].sh.length≤20:=by
 obtain ⟨M,h1,h2⟩:=zCy h i th use day n za;have hd:=aJ hn;obtain ⟨k1,_,_⟩:=zDI h i th use day n;have hl:(ds[n]).sh.length≤20:=(zDT ((zAZ h).2 n hn) (zAZ h).1).2.2;have hz:=zCs h;generalize ds[n]=d at *;obtain ⟨m1,_⟩:=zCE d (K:=zBD rs ds i th use day n);refine ⟨M,h1.more (zDc d k1).nodup m1,?_,hl⟩
 have h3:=growD_lt (zBU h d hd) hl (movB_kd hm);have h4:M*growD d<10 ^ (40001*(n+1)+40001):=by rw [dB];exact Nat.mul_lt_mul'' h2 h3
 exact (szN_of h4).le (by have:=hz.2.2;omega)
theorem parts_sz {rs:List Rg} {us:List BA} {ds:List De} (h:zCI rs us ds=0) (i:Nat) (th use:BA) (day:Int) (n:Nat) (hn:n≤ds.length) (p:BA):SzQ 10000000 (zAH rs ds i th use day n p):=by
 obtain ⟨M,h1,h2⟩:=zCy h i th use day n hn;have hz:=zCs h;exact h1.sz ((szN_of h2).le (by have:=hz.2.2;omega)) p
open Go.RowKit Dw
def zDk (q:Rat) (w:World) (e:Ending) (w':World):Prop:=zCw false q.num.natAbs q.den w e w'
theorem OfT_c (nu de:BA) (w:World) (h:zDq nu de=0) (hp:posB nu=true):Calls Tryz.prog 17 #[.agg #[.string nu,.string de]] w (zDk (zCX nu de) w):=by
 obtain ⟨h1,h2,h3,h4,h5⟩:=zCe h;have:=Of_cT nu de w (zAQ h1).1 h4 (zAQ h2).1 h5;rw [posB_neg hp] at this;have e:=ratF_prQ h;have e1:zAz (zAY nu)=(zCX nu de).num.natAbs:=bH Prod.fst e;have e2:zAz de=(zCX nu de).den:=bH Prod.snd e;rw [e1,e2] at this;exact this
section
variable (A A2 A3 A4:Option Addr) (c c2 c3 c4:Nat) (a b:Rat) (w:World)
theorem TimesQ_c (h:Lt w A c a.num.natAbs) (h2:Lt w A2 c2 a.den) (h3:Lt w A3 c3 b.num.natAbs) (h4:Lt w A4 c4 b.den) (ha:0≤a) (hb:0≤b) (sa:SzQ 50000000 a) (sb:SzQ 50000000 b) :
  Calls Tryz.prog 101 #[nuV false A c a.num.natAbs A2 c2 a.den,nuV false A3 c3 b.num.natAbs A4 c4 b.den] w (zDk (a*b) w):=by
 have:=times_c A A2 A3 A4 c c2 c3 c4 a.num.natAbs a.den b.num.natAbs b.den w h h2 h3 h4 sa.1.2 sa.2.2 sb.1.2 sb.2.2 (zEg a) (zEg b);rw [show (a.num.natAbs,a.den)=prQ a from rfl,show (b.num.natAbs,b.den)=prQ b from rfl,mulP_q ha hb] at this
 exact this
theorem PlusQ_c (h:Lt w A c a.num.natAbs) (h2:Lt w A2 c2 a.den) (h3:Lt w A3 c3 b.num.natAbs) (h4:Lt w A4 c4 b.den) (ha:0≤a) (hb:0≤b) (sa:SzQ 50000000 a) (sb:SzQ 50000000 b) :
  Calls Tryz.prog 16 #[nuV false A c a.num.natAbs A2 c2 a.den,nuV false A3 c3 b.num.natAbs A4 c4 b.den] w (zDk (a+b) w):=by
 have:=plus_c false false A A2 A3 A4 c c2 c3 c4 a.num.natAbs a.den b.num.natAbs b.den w h h2 h3 h4 sa.1.2 sa.2.2 sb.1.2 sb.2.2 (zEg a) (zEg b)
 have e:zEa false a.num.natAbs a.den false b.num.natAbs b.den=(false,prQ (a+b)):=by
  rw [←addP_q ha hb];unfold zEa;rw [aE rfl]
  rfl
 rw [e] at this;exact this
theorem LessQ_c (h:Lt w A c a.num.natAbs) (h2:Lt w A2 c2 a.den) (h3:Lt w A3 c3 b.num.natAbs) (h4:Lt w A4 c4 b.den) (hb:0≤b) (hle:b≤a) (sa:SzQ 50000000 a) (sb:SzQ 50000000 b) :
  Calls Tryz.prog 16 #[nuV false A c a.num.natAbs A2 c2 a.den,nuV (!false&&decide (b.num.natAbs≠0)) A3 c3 b.num.natAbs A4 c4 b.den] w (zDk (a - b) w):=by
 have:=plus_c false (!false&&decide (b.num.natAbs≠0)) A A2 A3 A4 c c2 c3 c4 a.num.natAbs a.den b.num.natAbs b.den w h h2 h3 h4 sa.1.2 sa.2.2 sb.1.2 sb.2.2 (zEg a) (zEg b)
 have e:zEa false a.num.natAbs a.den (!false&&decide (b.num.natAbs≠0)) b.num.natAbs b.den=(false,prQ (a - b)):=by
  rw [←subP_q hb hle];unfold zEa
  by_cases h0:b.num.natAbs=0
  ·rw [aE (by simp [h0])]
   unfold subP
   show (false&&_,zBY (a.num.natAbs*b.den+b.num.natAbs*a.den) (a.den*b.den))=(false,zBY (a.num.natAbs*b.den - b.num.natAbs*a.den) (a.den*b.den))
   rw [h0,Nat.zero_mul,cZ,Nat.sub_zero,eB]
  ·rw [aC (by simp [h0]),aE (le_q hb hle)]
   rfl
 rw [e] at this;exact this
theorem LongQ_c (h:Lt w A c a.num.natAbs) (h2:Lt w A2 c2 a.den) (sa:SzQ 50000000 a) (hP:POK w):Calls Tryz.prog 102 #[nuV false A c a.num.natAbs A2 c2 a.den,.int .i64 2000] w (zAe (.bool (zCK a)) w):=by
 have:Calls Tryz.prog 102 #[nuV false A c a.num.natAbs A2 c2 a.den,.int .i64 2000] w (zAe (.bool (tooB a.num.natAbs a.den 2000)) w):=Long_c A A2 c c2 a.num.natAbs a.den 2000 w h h2 (dI sa.1.2 za) (dI sa.2.2 za) hP;rw [tooB_long] at this;exact this
end
def HoS (w:World) (v:Value) (K:List BA) (f:zBm):Prop:=∃ A c l,v = .slice A l.length c∧RdK eHo w A l∧HoOk w l∧prH l=zCT K f
theorem rdk_below {α:Type} {enc:α→List Value} {w w':World} {A:Option Addr} {l:List α} (h:RdK enc w A l) (hb:Below w.heap.size w w'):RdK enc w' A l:=fun hl=>by
 obtain ⟨b,o,e,hc⟩:=h hl;exact ⟨b,o,e,fun j v hv=>zAg hb (hc j v hv)⟩
theorem HoS.below {w w':World} {v:Value} {K:List BA} {f:zBm} (h:HoS w v K f) (hb:Below w.heap.size w w'):HoS w' v K f:=by
 obtain ⟨A,c,l,e,h1,h2,h3⟩:=h;exact ⟨A,c,l,e,rdk_below h1 hb,h2.below hb,h3⟩
theorem HoS.nil (w:World) (f:zBm):HoS w (.slice none 0 0) [] f:=⟨none,0,[],rfl,(fun h=>absurd h ze),(fun _ h=>j2),rfl⟩
theorem zDG {l:List Ho} {K:List BA} {f:zBm} (h:prH l=zCT K f):l.length=K.length:=by
 have:=bH List.length h;unfold zCT at this
 simpa using this
def GivesHs (K:List BA) (f:zBm) (w:World) (e:Ending) (w':World):Prop:=∃ A c n,e = .returned (.slice A n c)∧HoS w' (.slice A n c) K f∧Below w.heap.size w w'
theorem withS_c (v:Value) (K:List BA) (f:zBm) (p:BA) (q:Rat) (A1 A2:Option Addr) (c1 c2:Nat) (w:World) (h:HoS w v K f) (hk:IncN K) (hl:K.length≤1000000) (h1:Lt w A1 c1 q.num.natAbs) (h2:Lt w A2 c2 q.den) :
  Calls Tryz.prog 98 #[v,.string p,nuV false A1 c1 q.num.natAbs A2 c2 q.den] w (GivesHs (zDW p K) (upH f p q) w):=by
 obtain ⟨A,c,l,rfl,hr,ho,hp⟩:=h;refine (with_c A A1 A2 c c1 c2 l p q w hr ho (by rw [zDG hp];exact hl) h1 h2).mono ?_
 rintro _ _ ⟨v,l',rfl,hown,hok,hpr,hb⟩;obtain ⟨A',c',rfl,hrd⟩:=hown.rdk;exact ⟨A',c',_,rfl,⟨A',c',l',rfl,hrd,hok,by rw [hpr,hp,withR_eq p q f hk]⟩,hb⟩
theorem partS_c (v:Value) (K:List BA) (f:zBm) (p:BA) (w:World) (h:HoS w v K f) (hh:HoldOk K f) (hl:K.length≤1000000) :
  Calls Tryz.prog 100 #[v,.string p] w (zDk (f p) w):=by
 obtain ⟨A,c,l,rfl,hr,ho,hp⟩:=h;have:=partOf_c A c l p w hr ho (by rw [zDG hp];exact hl)
 rw [hp,findQ_pairs hh] at this;exact this
theorem moves_c (RA:Option Addr) (rc:Nat) (rs:List Rg) (UA:Option Addr) (uc:Nat) (us:List BA) (DA:Option Addr) (dc:Nat) (ds:List De) (L k n i:Nat) (use:BA) (day:Int) (th:BA) (w:World)
  (hl:LgIs RA rc rs UA uc us DA dc ds w L) (hd:Des w DA ds) (hk:k<ds.length) (hn:(zAG rs)[n]?=some i) (hul:(ds[k]).us.length≤1000000) :
  Calls Tryz.prog 71 #[.pointer (some ⟨L,0,none⟩),.int .i64 (k:Int),.string th,.agg (sptC n use day)] w (zAe (.bool (zDO rs ds i th use day ds[k])) w):=by
 have hbw:Below w.heap.size w (w.alloc (.cells (sptC n use day) 76)):=(aS _ _).alloc (aB _) _;have HX:Hid (Bx (w.alloc (.cells (sptC n use day) 76)) w.heap.size (sptC n use day) 76):=Bx.new _ _ _;obtain ⟨W,hW⟩:∃ W,W=w.alloc (.cells (sptC n use day) 76):=⟨_,rfl⟩;rw [←hW] at HX hbw;have HB:=zq hbw;obtain ⟨b,o,rfl,hb0,hc0⟩:=(hd.below hbw) za;have hlW:=hl.below hbw;have HVAL:=zq (fun (u:World) (hu:Below W.heap.size W u)=>valid_c RA rc rs UA uc us (some ⟨b,o,none⟩) dc ds L k n i use day u (hlW.below hu) ((hd.below hbw).below hu) hk hn hul)
 obtain ⟨d,hdd⟩:∃ d,ds[k]=d:=⟨_,rfl⟩;have hrg:=(hc0 k hk).1;rw [hdd] at hrg HVAL ⊢;generalize hres:zDO rs ds i th use day d=res;have HR:=zq hres;obtain ⟨r1,r2,g1,g2,AL,cL,vr,vi,ins,base,hlx,_⟩:=hlW;have l2:=hlx.c 2 rfl;have hsl:=hlx.lt;clear hl hd hbw hc0 hdd hres hlx hul
 go_enter Tryz.func71,Tryz.ntmps71
 go_upto_region 1 with fail
 rw [←hW];clear hW
 iterate 23 go_step
 refine fC _ _ zk b (o+k*16) zk (deC d).toList _ hrg Tryz.underlying52 rfl zc ?_
 clear hrg;go_upto_region 2 with fail
 obtain ⟨wd,hwd⟩:∃ wd,wd=W.alloc (.cells (deC d) 52):=⟨_,rfl⟩;rw [←hwd];have hbd:Below W.heap.size W wd:=zt;have HD1:Hid (Bx wd W.heap.size (deC d) 52):=yg;have HXD:=zq (HX.o.below hbd);have HBD:=zq hbd;clear hwd hbd l2 hsl HX;have d2:=HD1.o.c 2 rfl;have d3:=HD1.o.c 3 rfl;have d12:=HD1.o.c 12 rfl;have hsd:=HD1.o.lt;obtain ⟨x0,x1,x2⟩:=HXD.o.t;have hsx:=HXD.o.lt
 by_cases hq:d.kd=2
 ·have e1:(d.kd == 2)=true:=by simpa using hq
  by_cases ht:d.th=th
  ·have q1:=zAn ht
   have HE:Hid (res=vB rs ds i use day d):=by show _=_;rw [←HR.o];unfold zDO;rw [aE hq,cW ht,Bool.true_and]
   clear hq ht
   go_wp2_with fail
   with_reducible refine (HVAL.o _ HBD.o).mono ?_
   rintro e w3 ⟨rfl,hb3⟩;have HB3:=zq (zAa HB.o (zAa HBD.o hb3));clear hb3;go_wp2;go_ret
   exact zAe.mk (by rw [HE.o];rfl) HB3.o
  ·have q1:=zAm ht
   have HE:Hid (res=false):=by show _=_;rw [←HR.o];unfold zDO;rw [aE hq,cX ht,eB]
   clear hq ht;go_wp2;go_ret
   exact zAe.mk (by rw [HE.o];rfl) (zAa HB.o HBD.o)
 ·have e1:(d.kd == 2)=false:=by simpa using hq
  by_cases h5:d.kd=5
  ·have e2:(d.kd == 5)=true:=by simpa using h5
   have HE:Hid (res=decide (d.bg≤day)):=by show _=_;rw [←HR.o];unfold zDO;rw [aC hq,aE h5]
   clear hq h5;go_wp2;go_ret
   exact zAe.mk (by rw [HE.o];rfl) (zAa HB.o HBD.o)
  ·have e2:(d.kd == 5)=false:=by simpa using h5
   have HE:Hid (res=false):=by show _=_;rw [←HR.o];unfold zDO;rw [aC hq,aC h5]
   clear hq h5;go_wp2;go_ret
   exact zAe.mk (by rw [HE.o];rfl) (zAa HB.o HBD.o)
def GivesPt (bad:Bool) (f:zBm) (w:World) (e:Ending) (w':World):Prop :=
 Below w.heap.size w w'∧(bad=true→e = .returned (.tuple #[.map none,.int .i64 2]))∧(bad=false→∃ g,e = .returned (.tuple #[.map (some g),.int .i64 0])∧zAI w' g f)
def PtR (W:World) (g:Nat) (th:BA) (day:Int) (ds:List De) (m:Nat) (iv:Value) (wr:World):Prop :=
 ∃ k:Nat,k+m=ds.length∧iv = .int .i64 (k:Int)∧zAI wr g ((ds.take k).foldl (orgF th day) (fun _=>0))∧Below W.heap.size W wr
def PtR1 (W:World) (g:Nat) (F:zBm) (l:List Sh) (m:Nat) (iv:Value) (wr:World):Prop :=
 ∃ j:Nat,j+m=l.length∧iv = .int .i64 (j:Int)∧zAI wr g (zAk (l.take j) F)∧W.grownBy wr (some g)
def PtR2 (W:World) (g:Nat) (rs:List Rg) (ds:List De) (i:Nat) (th use:BA) (day:Int) (u:Nat) (lim:Bool) (m:Nat) (iv:Value) (wr:World):Prop :=
 ∃ k:Nat,k+m=u∧iv = .int .i64 (k:Int)∧zAI wr g (zAH rs ds i th use day k)∧(lim=true→zCl rs ds i th use day k=false)∧Below W.heap.size W wr
theorem fold_succ (th:BA) (day:Int) (f:zBm) {ds:List De} {k:Nat} (hk:k<ds.length):(ds.take (k+1)).foldl (orgF th day) f=orgF th day ((ds.take k).foldl (orgF th day) f) ds[k]:=by
 rw [take_snoc hk,bU];rfl
theorem putAll_succ (F:zBm) {l:List Sh} {j:Nat} (h:j<l.length):zAk (l.take (j+1)) F=upH (zAk (l.take j) F) l[j].pt (shQ l[j]):=by
 unfold zAk;rw [bM h,bU]
 rfl
theorem parts_c (RA:Option Addr) (rc:Nat) (rs:List Rg) (UA:Option Addr) (uc:Nat) (us:List BA) (DA:Option Addr) (dc:Nat) (ds:List De) (L n i u:Nat) (use:BA) (day:Int) (th:BA) (lim:Bool) (w:World)
  (hl:LgIs RA rc rs UA uc us DA dc ds w L) (hd:Des w DA ds) (hc:zCI rs us ds=0) (hn:(zAG rs)[n]?=some i) (hu:u≤ds.length) (hdc:ds.length≤dc) (hul:∀ d∈ds,d.us.length≤1000000) :
  Calls Tryz.prog 30 #[.pointer (some ⟨L,0,none⟩),.string th,.agg (sptC n use day),.int .i64 (u:Int),.bool lim] w (GivesPt (lim&&zCl rs ds i th use day u) (zAH rs ds i th use day u) w):=by
 have hbw:Below w.heap.size w (w.alloc (.cells (sptC n use day) 76)):=(aS _ _).alloc (aB _) _;have HX0:Hid (Bx (w.alloc (.cells (sptC n use day) 76)) w.heap.size (sptC n use day) 76):=Bx.new _ _ _;obtain ⟨W0,hW0⟩:∃ W,W=w.alloc (.cells (sptC n use day) 76):=⟨_,rfl⟩;rw [←hW0] at HX0 hbw;have HB0:=zq hbw;have hb1:Below W0.heap.size W0 (W0.alloc (.map #[] 0)):=(aS _ _).alloc (aB _) _;have HPN:Hid (zAI (W0.alloc (.map #[] 0)) W0.heap.size (fun _=>0)):=zAI.new W0
 have HX:=zq (HX0.o.below hb1);have HLW:=zq ((hl.below hbw).below hb1);have HDW:=zq ((hd.below hbw).below hb1);have HLW0:=zq (hl.below hbw);have HDW0:=zq (hd.below hbw);have HC:=zq hc;have HUL:=zq hul;have HNN:=zq hn;have hdl:=(zCs hc).2.2;clear hl hd hc hn hul hbw;obtain ⟨r1,r2,g1,g2,AL,cL,vr,vi,ins,base,hlx,_⟩:=HLW.o;have HLX:=zq hlx;obtain ⟨W,hW⟩:∃ W,W=W0.alloc (.map #[] 0):=⟨_,rfl⟩;rw [←hW] at hb1 HPN HX HLW HDW HLX hlx;have HB1:=zq hb1;clear hb1
 go_enter Tryz.func30,Tryz.ntmps30
 go_upto_region 1 with fail
 rw [←hW0];clear hW0;have hmm:=@run_makeMap Tryz.prog;go_upto_region 2 with fail
 clear hmm;rw [←hW];clear hW;have l2:=HLX.o.c 2 rfl;have hsl:=HLX.o.lt;clear hlx;go_wp2
 go_loopg [26] ds.length (PtR W0 W0.heap.size th day ds)
 case atStart=>exact ⟨0,za,rfl,HPN.o,HB1.o⟩
 clear l2 hsl HPN
 case round =>
  obtain ⟨k,hkm,rfl,hpm,hb⟩:=hrel;have HK:=zq hkm;have HPM:=zq hpm;have HB:=zq hb;clear hkm hpm hb
  by_cases hlt:k<ds.length
  ·obtain ⟨b,o,hA,hb0,hc0⟩:=HDW0.o za
   subst hA;have hpar:=zBU HC.o _ (aJ hlt);have HFS:=zq (fold_succ th day (fun _=>0) hlt)
   have hrg:wr.rangeAt b (o+k*16) (deC ds[k]).toList:=fun q v hv=>zAg HB.o ((hc0 k hlt).1 q v hv)
   have HSH:=zq ((hc0 k hlt).2.shs.below HB.o);have hshl:=(hc0 k hlt).2.lens.2.2;generalize ds[k]=d at *;have HPA:=zq hpar;clear hc0 hpar;go_upto_region 4 with fail
   iterate 5 go_step
   refine fC _ _ zk b (o+k*16) zk (deC d).toList _ hrg Tryz.underlying52 rfl zc ?_
   clear hrg;go_upto_region 5 with fail
   obtain ⟨wd,hwd⟩:∃ wd,wd=wr.alloc (.cells (deC d) 52):=⟨_,rfl⟩;rw [←hwd];have hbd:Below wr.heap.size wr wd:=zt;have HD1:Hid (Bx wd wr.heap.size (deC d) 52):=yg;have HBD:=zq (zAa HB.o hbd);have HPM1:=zq (HPM.o.below hbd);have HSH1:=zq (HSH.o.below hbd);have HXD:=zq (HX0.o.below HBD.o);clear hwd hbd HPM HSH HB;have d2:=HD1.o.c 2 rfl;have d3:=HD1.o.c 3 rfl;have d12:=HD1.o.c 12 rfl;have hsd:=HD1.o.lt;have x2:=HXD.o.c 2 rfl;have hsx:=HXD.o.lt;generalize (ds.take k).foldl (orgF th day) (fun _=>0)=F at *
   have HNO:orgB th day d=false→Hid (zAI wd W0.heap.size ((ds.take (k+1)).foldl (orgF th day) (fun _=>0))):=fun h=>by
    show zAI _ _ _
    rw [HFS.o];unfold orgF;rw [aC jl];exact HPM1.o
   by_cases hq:d.kd=1
   case neg =>
    have e1:(d.kd == 1)=false:=qk;have HN:=HNO (by unfold orgB;rw [cX hq];rfl)
    clear hq HNO;go_wp2
    go_roundg (gk - 1)
    case measure=>have:=HK.o;omega
    case rel=>exact ⟨k+1,zh,zi,HN.o,HBD.o⟩
   have e1:(d.kd == 1)=true:=qk
   by_cases ht:d.th=th
   case neg =>
    have q1:=zAm ht;have HN:=HNO (by unfold orgB;rw [cX ht];simp)
    clear hq ht HNO;go_wp2
    go_roundg (gk - 1)
    case measure=>have:=HK.o;omega
    case rel=>exact ⟨k+1,zh,zi,HN.o,HBD.o⟩
   have q1:=zAn ht
   by_cases hy:d.bg≤day
   case neg =>
    have q2:decide (d.bg≤day)=false:=cX hy;have HN:=HNO (by unfold orgB;rw [cX hy];simp)
    clear hq ht hy HNO;go_wp2
    go_roundg (gk - 1)
    case measure=>have:=HK.o;omega
    case rel=>exact ⟨k+1,zh,zi,HN.o,HBD.o⟩
   have q2:decide (d.bg≤day)=true:=cW hy
   have HOT:Hid (orgF th day F d=zAk d.sh F):=by
    show _=_
    unfold orgF;rw [aE (zDf.2 ⟨hq,ht,hy⟩)]
   have HSO:=zq (HPA.o.org hq).1;have d14:=HD1.o.c 14 rfl;clear hq ht hy HNO;go_wp2;clear d2 d3 d12 d14 hsd x2 hsx
   go_loopg [49] d.sh.length (PtR1 wd W0.heap.size F d.sh)
   case atStart=>exact ⟨0,za,rfl,HPM1.o,World.grownBy.refl _ _⟩
   case round =>
    obtain ⟨j,hjm,rfl,hpm,hg⟩:=hrel;have HJ:=zq hjm;have HPJ:=zq hpm;have HG:=zq hg;clear hjm hpm hg
    by_cases hjl:j<d.sh.length
    ·obtain ⟨b2,o2,hA,hc⟩:=(HSH1.o.parts HPM1.o HG.o) za
     have c0:=(hc j hjl).1;have c1:=(hc j hjl).2.1;have c2':=(hc j hjl).2.2;have HMEM:=zq (aJ hjl);have HPS:=zq (putAll_succ F hjl);generalize d.sh[j]=s at *;have HFQ:Hid (∀ u,Calls Tryz.prog 70 #[.agg #[.string s.nu,.string s.de]] u (zDl (shQ s) u)):=fun u=>FromQ_c s.nu s.de u (HSO.o.rat s HMEM.o) (HSO.o.pos s HMEM.o)
     have HA:=zq hA;have hba:=ba wr (.cells (shCl s) 42);have HZ:Hid (Bx (wr.alloc (.cells (shCl s) 42)) wr.heap.size (shCl s) 42):=Bx.new _ _ _;have HBA:=zq hba;rw [hA];clear hc hA hba;go_upto_region 9 with fail
     clear c0 c1 c2';obtain ⟨fj,hfj⟩:∃ fj,fj=zAk (d.sh.take j) F:=⟨_,rfl⟩;rw [←hfj] at HPJ HPS;have HFJ:=zq hfj;clear hfj;obtain ⟨w4,hw4⟩:∃ w4,w4=wr.alloc (.cells (shCl s) 42):=⟨_,rfl⟩;rw [←hw4] at HZ HBA ⊢;clear hw4;have HPM4:=zq (HPJ.o.below HBA.o);obtain ⟨a0,a1,a2⟩:=HZ.o.t
     go_region_held3 (fun w'=>w'.cell? ⟨wr.heap.size,0,none⟩=some (.string s.pt)∧w'.cell? ⟨wr.heap.size,1,none⟩=some (.string s.nu)∧w'.cell? ⟨wr.heap.size,2,none⟩=some (.string s.de))
      ((refine ⟨?_,?_,?_⟩<;>first | with_reducible assumption | go_simp))
      (first
       | ((go_at_call 70;(with_reducible refine (HFQ.o w4.drew).mono ?_);rintro e2 w6 ⟨A7,c7,A8,c8,rfl,h7,h8,hb6⟩;have HB6:Hid (Below w4.heap.size w4 w6):=zAa (zAd (aS _ _) 1) hb6;have HZ6:=zq (HZ.o.below HB6.o);have HPM6:=zq (HPM4.o.below HB6.o);have H7:=zq h7;have H8:=zq h8;clear h7 h8 hb6 a0 a1 a2;obtain ⟨a0,a1,a2⟩:=HZ6.o.t))
       | ((go_at_call 69;(with_reducible refine (put_c W0.heap.size fj s.pt A7 A8 c7 c8 (shQ s) w6 HPM6.o H7.o H8.o).mono ?_);rintro e5 w9 ⟨rfl,hp9,hg9⟩;have HZ9:=zq (HZ6.o.parts HPM6.o hg9);have HPM9:=zq hp9;have HG9:=zq hg9;clear hp9 hg9 a0 a1 a2;obtain ⟨a0,a1,a2⟩:=HZ9.o.t)))
     have HE:Hid (zAI w9 W0.heap.size (zAk (d.sh.take (j+1)) F)):=by show zAI _ _ _;rw [HPS.o];exact HPM9.o
     have HGE:Hid (wd.grownBy w9 (some W0.heap.size)):=(HG.o.trans (zBc (zAa HBA.o HB6.o) _)).trans HG9.o;clear a0 a1 a2;rw [←HA.o];go_wp2
     go_roundg (gk - 1)
     case measure=>have:=HJ.o;omega
     case rel=>exact ⟨j+1,yb,zi,HE.o,HGE.o⟩
    ·have hje:j=d.sh.length:=by have:=HJ.o;omega
     have HE:Hid (zAI wr W0.heap.size ((ds.take (k+1)).foldl (orgF th day) (fun _=>0))):=by
      have:=HPJ.o;rw [hje,bX,←HOT.o] at this
      show zAI _ _ _
      rw [HFS.o];exact this
     have HBE:=zq (zCb HBD.o HBD.o.size HG.o (aB _));clear HPJ;go_wp2
     go_roundg (ds.length - (k+1))
     case measure=>have:=HK.o;omega
     case rel=>exact ⟨k+1,zh,zi,HE.o,HBE.o⟩
  ·obtain rfl:k=ds.length:=by have:=HK.o;omega
   have HPM0:Hid (zAI wr W0.heap.size (zAH rs ds i th use day 0)):=by
    have:=HPM.o;rw [bX] at this;exact this
   have l2:wr.cell? ⟨L,2,none⟩=some (.slice DA ds.length dc):=zAg HB.o ((by
    obtain ⟨_,_,_,_,_,_,_,_,_,_,hx,_⟩:=HLW0.o;exact hx.c 2 rfl))
   have hsl:L<wr.heap.size:=dL (by obtain ⟨_,_,_,_,_,_,_,_,_,_,hx,_⟩:=HLW0.o;exact hx.lt) HB.o.size
   have ui:(0:Int)≤(u:Int)∧(u:Int)≤(dc:Int):=za;clear HPM HK;have HB2:=zq HB.o;have HLZ:Hid (lim=true→zCl rs ds i th use day 0=false):=fun _=>longF_zero rs ds i th use day
   go_wp2
   go_loopg [70] u (PtR2 W0 W0.heap.size rs ds i th use day u lim)
   case atStart=>exact ⟨0,za,rfl,HPM0.o,HLZ.o,HB2.o⟩
   clear l2 hsl ui HPM0 HLZ HB2 HB
   case round =>
    obtain ⟨k,hkm,rfl,hpm,hlf,hb⟩:=hrel;have HK:=zq hkm;have HPM:=zq hpm;have HLF:=zq hlf;have HB:=zq hb;clear hkm hpm hlf hb
    by_cases hlt:k<u
    ·have hkd:k<ds.length:=by omega
     obtain ⟨b,o,hA,hb0,hc0⟩:=HDW0.o za;subst hA;have hrg:wr.rangeAt b (o+k*16) (deC ds[k]).toList:=fun q v hv=>zAg HB.o ((hc0 k hkd).1 q v hv)
     have HSH:=zq ((hc0 k hkd).2.shs.below HB.o);have HMV:=zq (fun (v:World) (hv:Below W0.heap.size W0 v)=>moves_c RA rc rs UA uc us (some ⟨b,o,none⟩) dc ds L k n i use day th v (HLW0.o.below hv) (HDW0.o.below hv) hkd HNN.o (HUL.o _ (aJ hkd)))
     have HSK:Hid (zDO rs ds i th use day ds[k]=false→zAH rs ds i th use day (k+1)=zAH rs ds i th use day k):=fun hm=>by
      rw [(zDH rs i th use day hkd).1];unfold stepF;rw [aC (by rw [hm];simp)]
     have HSL:Hid (zDO rs ds i th use day ds[k]=false→zCl rs ds i th use day k=false→zCl rs ds i th use day (k+1)=false):=fun hm hl=>(longF_skip HC.o hkd hm hl).1
     have HTK:Hid (zDO rs ds i th use day ds[k]=true→zAH rs ds i th use day (k+1)=zCY ds[k] (zAH rs ds i th use day k)):=fun hm=>(keysF_take hkd hm).1
     have HTA:Hid (zDO rs ds i th use day ds[k]=true→∃ M,HoldB (zAw ds[k] (zBD rs ds i th use day k)) M (zAH rs ds i th use day k)∧SzN 90000000 (M*growD ds[k])∧ds[k].sh.length≤20):=fun hm=>take_ask HC.o hkd hm
     have HPA:=zq (zBU HC.o _ (aJ hkd));have HLS:=zq (longF_succ rs ds i th use day k);have HLM:Hid (zCl rs ds i th use day (k+1)=true→zCl rs ds i th use day u=true):=fun h=>longF_mono h za
     generalize ds[k]=d at *;clear hc0;go_upto_region 14 with fail
     iterate 8 go_step
     refine fC _ _ zk b (o+k*16) zk (deC d).toList _ hrg Tryz.underlying52 rfl zc ?_
     clear hrg;go_upto_region 15 with fail
     obtain ⟨wd,hwd⟩:∃ wd,wd=wr.alloc (.cells (deC d) 52):=⟨_,rfl⟩;rw [←hwd];have hbd:Below wr.heap.size wr wd:=zt;have HD1:Hid (Bx wd wr.heap.size (deC d) 52):=yg;have HBD:=zq (zAa HB.o hbd);have HPM1:=zq (HPM.o.below hbd);have HSH1:=zq (HSH.o.below hbd);have HXD:=zq (HX0.o.below HBD.o);clear hwd hbd HPM HSH HB;obtain ⟨x0,x1,x2⟩:=HXD.o.t;have hsx:=HXD.o.lt
     go_wp2_with fail
     with_reducible refine (HMV.o _ HBD.o).mono ?_
     rintro e w3 ⟨rfl,hb3⟩;have HB3:=zq (zAa HBD.o hb3);have HPM3:=zq (HPM1.o.below hb3);have HSH3:=zq (HSH1.o.below hb3);have HD3:=zq (HD1.o.below hb3);clear x0 x1 x2 hsx hb3 HPM1 HSH1 HD1 HXD HBD HMV
     cases hm:zDO rs ds i th use day d with
     | false =>
      have HE:Hid (zAI w3 W0.heap.size (zAH rs ds i th use day (k+1))):=by show zAI _ _ _;rw [HSK.o hm];exact HPM3.o
      have HL:Hid (lim=true→zCl rs ds i th use day (k+1)=false):=fun hh=>HSL.o hm (HLF.o hh)
      clear hm;go_wp2
      go_roundg (gk - 1)
      case measure=>have:=HK.o;omega
      case rel=>exact ⟨k+1,zh,zi,HE.o,HL.o,HB3.o⟩
     | true =>
      obtain ⟨M,hM1,hM2,hM3⟩:=HTA.o hm;have HTE:=zq (HTK.o hm);obtain ⟨m1,m2,m3,m4⟩:=zCE d (K:=zBD rs ds i th use day k);have HTC:=zq (take_c W0.heap.size _ M (zAH rs ds i th use day k) d w3 HPM3.o HSH3.o (movB_kd hm) HPA.o hM1 m2 m3 m4 hM2 za);clear hm hM1 hM2 hM3 m1 m2 m3 m4;go_upto_region 16 with fail
      iterate 5 go_step
      refine fC _ _ zk wr.heap.size 0 zk (deC d).toList _ (zBZ HD3.o) Tryz.underlying52 rfl zc ?_
      go_wp2_with fail
      with_reducible refine HTC.o.mono ?_
      rintro e w4 ⟨rfl,hp4,hg4⟩;have HP4:Hid (zAI w4 W0.heap.size (zAH rs ds i th use day (k+1))):=by show zAI _ _ _;rw [HTE.o];exact hp4
      have HB4:=zq (zCb HB3.o HB3.o.size hg4 (aB _));clear hp4 hg4 HTC HPM3 HSH3 HD3 HB3
      cases lim with
      | false =>
       have HL:Hid (false=true→zCl rs ds i th use day (k+1)=false):=fun hh=>by cases hh
       go_wp2
       go_roundg (gk - 1)
       case measure=>have:=HK.o;omega
       case rel=>exact ⟨k+1,zh,zi,HP4.o,HL.o,HB4.o⟩
      | true =>
       have HKK:=(zDI HC.o i th use day (k+1)).2.1;have HLC:=zq (large_c W0.heap.size (zBD rs ds i th use day (k+1)) (zAH rs ds i th use day (k+1)) w4 HP4.o HKK (fun p=>(parts_sz HC.o i th use day (k+1) za p).le za))
       have HLS2:Hid (zDm (zBD rs ds i th use day (k+1)) (zAH rs ds i th use day (k+1))=zCl rs ds i th use day (k+1)):=by
        show _=_
        rw [HLS.o,HLF.o rfl,eR]
       rw [HLS2.o] at HLC;clear HKK
       go_wp2_with fail
       with_reducible refine HLC.o.mono ?_
       rintro e w5 ⟨rfl,hb5⟩;have HP5:=zq (HP4.o.below hb5);have HB5:=zq (zAa HB4.o hb5);clear hb5 HLC HP4 HB4
       cases hlo:zCl rs ds i th use day (k+1) with
       | false =>
        have HL:Hid (zCl rs ds i th use day (k+1)=false):=hlo;clear hlo;go_wp2
        go_roundg (gk - 1)
        case measure=>have:=HK.o;omega
        case rel=>exact ⟨k+1,zh,zi,HP5.o,(fun _=>HL.o),HB5.o⟩
       | true =>
        have HL:=zq (HLM.o hlo);clear hlo;go_wp2;go_ret2
        exact ⟨zAa HB0.o HB5.o,fun _=>rfl,fun hh=>by rw [HL.o] at hh;cases hh⟩
    ·have hke:k=u:=by have:=HK.o;omega
     have HE:Hid (zAI wr W0.heap.size (zAH rs ds i th use day u)):=by have:=HPM.o;rw [hke] at this;exact this
     have HL:Hid ((lim&&zCl rs ds i th use day u)=false):=by
      show _=_
      cases lim with
      | false=>rfl
      | true=>have:=HLF.o rfl;rw [hke] at this;rw [this];rfl
     have HBZ:=zq (zAa HB0.o HB.o);clear HPM HLF hke;go_wp2;go_ret2
     unfold GivesPt;rw [HL.o];exact ⟨HBZ.o,(fun hh=>by cases hh),fun _=>⟨_,rfl,HE.o⟩⟩
end Go.Proofs.YtieoifkdobcpiaaGreatDoor
namespace Go.Proofs
open Go.Shelf
def Tryz.sortS80_ren:Go.Shelf.Ren:=⟨fun | 6=>80 | 8=>109 | 9=>121 | 19=>160 | 20=>161 | 21=>173 | 22=>174 | 23=>175 | 24=>176 | 25=>177 | 26=>178 | 27=>179 | 28=>180 | 29=>181 | 36=>228 | 31=>219 | 32=>220 | 37=>229 | 38=>230 | 39=>231 | 41=>263 | n=>n,fun | 27=>23 | 29=>9 | 3=>3 | 32=>188 | 26=>23 | 0=>0 | 44=>197 | 46=>95 | 4=>4 | 36=>229 | 35=>228 | 41=>133 | 5=>5 | 9=>9 | 53=>283 | 57=>287 | 63=>316 | 64=>219 | n=>n,fun | n=>n⟩
theorem Tryz.sortS80:Go.Proofs.SlLaysM.n6 Tryz.prog Tryz.sortS80_ren:={
 mixed:=zc
 f6:=⟨Tryz.f80.name,zd,Tryz.func80.trans (bH some zc)⟩
 f8:=Tryz.func109.trans (bH some zc)
 f9:=⟨Tryz.f121.name,zd,Tryz.func121.trans (bH some zc)⟩
 f19:=Tryz.func160.trans (bH some zc)
 f20:=Tryz.func161.trans (bH some zc)
 f21:=⟨Tryz.f173.name,zd,Tryz.func173.trans (bH some zc)⟩
 f22:=⟨Tryz.f174.name,zd,Tryz.func174.trans (bH some zc)⟩
 f23:=⟨Tryz.f175.name,zd,Tryz.func175.trans (bH some zc)⟩
 f24:=⟨Tryz.f176.name,zd,Tryz.func176.trans (bH some zc)⟩
 f25:=⟨Tryz.f177.name,zd,Tryz.func177.trans (bH some zc)⟩
 f26:=⟨Tryz.f178.name,zd,Tryz.func178.trans (bH some zc)⟩
 f27:=⟨Tryz.f179.name,zd,Tryz.func179.trans (bH some zc)⟩
 f28:=⟨Tryz.f180.name,zd,Tryz.func180.trans (bH some zc)⟩
 f29:=⟨Tryz.f181.name,zd,Tryz.func181.trans (bH some zc)⟩
 f31:=Tryz.func219.trans (bH some zc)
 f32:=Tryz.func220.trans (bH some zc)
 f36:=⟨Tryz.f228.name,zd,Tryz.func228.trans (bH some zc)⟩
 f37:=⟨Tryz.f229.name,zd,Tryz.func229.trans (bH some zc)⟩
 f38:=⟨Tryz.f230.name,zd,Tryz.func230.trans (bH some zc)⟩
 f39:=⟨Tryz.f231.name,zd,Tryz.func231.trans (bH some zc)⟩
 f41:=⟨Tryz.f263.name,zd,Tryz.func263.trans (bH some zc)⟩
 t0:=Tryz.underlying0
 a0:=Tryz.isAgg0
 z0:=Tryz.sizeOf0
 v0:=Tryz.zeroValue0
 t3:=Tryz.underlying3
 a3:=Tryz.isAgg3
 z3:=Tryz.sizeOf3
 v3:=Tryz.zeroValue3
 t4:=Tryz.underlying4
 a4:=Tryz.isAgg4
 z4:=Tryz.sizeOf4
 v4:=Tryz.zeroValue4
 t5:=Tryz.underlying5
 a5:=Tryz.isAgg5
 z5:=Tryz.sizeOf5
 v5:=Tryz.zeroValue5
 t9:=Tryz.underlying9
 a9:=Tryz.isAgg9
 z9:=Tryz.sizeOf9
 v9:=Tryz.zeroValue9
 t26:=Tryz.underlying23
 a26:=Tryz.isAgg23
 z26:=Tryz.sizeOf23
 v26:=Tryz.zeroValue23
 t27:=Tryz.underlying23
 a27:=Tryz.isAgg23
 z27:=Tryz.sizeOf23
 v27:=Tryz.zeroValue23
 t29:=Tryz.underlying9
 a29:=Tryz.isAgg9
 z29:=Tryz.sizeOf9
 v29:=Tryz.zeroValue9
 t32:=Tryz.underlying188
 a32:=Tryz.isAgg188
 z32:=Tryz.sizeOf188
 v32:=Tryz.zeroValue188
 t35:=Tryz.underlying228
 a35:=Tryz.isAgg228
 z35:=Tryz.sizeOf228
 v35:=Tryz.zeroValue228
 t36:=Tryz.underlying229
 a36:=Tryz.isAgg229
 z36:=Tryz.sizeOf229
 v36:=Tryz.zeroValue229
 t41:=Tryz.underlying133
 a41:=Tryz.isAgg133
 z41:=Tryz.sizeOf133
 v41:=Tryz.zeroValue133
 t44:=Tryz.underlying197
 a44:=Tryz.isAgg197
 z44:=Tryz.sizeOf197
 v44:=Tryz.zeroValue197
 t46:=Tryz.underlying95
 a46:=Tryz.isAgg95
 z46:=Tryz.sizeOf95
 v46:=Tryz.zeroValue95
 t53:=Tryz.underlying283
 a53:=Tryz.isAgg283
 z53:=Tryz.sizeOf283
 v53:=Tryz.zeroValue283
 t57:=Tryz.underlying287
 a57:=Tryz.isAgg287
 z57:=Tryz.sizeOf287
 v57:=Tryz.zeroValue287
 t63:=Tryz.underlying316
 a63:=Tryz.isAgg316
 z63:=Tryz.sizeOf316
 v63:=Tryz.zeroValue316
 t64:=Tryz.underlying219
 a64:=Tryz.isAgg219
 z64:=Tryz.sizeOf219
 v64:=Tryz.zeroValue219 }
end Go.Proofs
namespace Go.Proofs.YtieoifkdobcpiaaGreatDoor
open Go.Shelf Go.RowKit Go.Lib Go.Sort Dw
def bytL (s:BA):List UInt8:=s.data.toList
def ofBy (l:List UInt8):BA:=⟨l.toArray⟩
theorem ofBy_byt (s:BA):ofBy (bytL s)=s:=by unfold ofBy bytL;cases s;simp
theorem byt_of (l:List UInt8):bytL (ofBy l)=l:=by unfold ofBy bytL;simp
theorem encStr_byt (s:BA):encStr (bytL s)=Value.string s:=by
 show Value.string ⟨(bytL s).toArray⟩=_
 have:=ofBy_byt s;unfold ofBy at this;rw [this]
def srtP (l:List BA):List BA:=((l.map bytL).mergeSort fun x y=>decide (x≤y)).map ofBy
theorem srtP_mem (l:List BA) (s:BA):s∈srtP l↔s∈l:=by
 unfold srtP;rw [List.mem_map]
 constructor
 ·rintro ⟨x,hx,rfl⟩
  obtain ⟨y,hy,rfl⟩:=List.mem_map.1 ((List.mergeSort_perm _ _).mem_iff.1 hx);rw [ofBy_byt];exact hy
 ·intro h
  exact ⟨bytL s,(List.mergeSort_perm _ _).mem_iff.2 (eY h),ofBy_byt s⟩
theorem srtP_inc {l:List BA} (hn:l.Nodup):IncN (srtP l):=by
 have h1:=List.pairwise_mergeSort (le:=fun x y:List UInt8=>decide (x≤y)) (fun a b c h k=>by
  simp only [aH] at *;exact List.le_trans h k) (fun a b=>by
  simp only [Bool.or_eq_true,aH];exact List.le_total a b) (l.map bytL)
 have h2:((l.map bytL).mergeSort fun x y=>decide (x≤y)).Nodup:=by
  refine (List.mergeSort_perm _ _).nodup_iff.2 ?_
  exact List.Pairwise.map bytL (fun a b h e=>h (by rw [←ofBy_byt a,e,ofBy_byt])) hn
 unfold srtP IncN;rw [List.pairwise_map];refine (h1.and h2).imp fun {a b} h=>?_
 obtain ⟨h3,h4⟩:=h;rw [slt_list,Dw.toList_eq,Dw.toList_eq]
 show decide (bytL (ofBy a)<bytL (ofBy b))=true
 rw [byt_of,byt_of,fD];simp only [aH] at h3
 rcases List.le_iff_lt_or_eq.1 h3 with h | h
 ·exact h
 ·exact absurd h h4
theorem srtP_holL {K:List BA} {f:zBm} (hk:IncN K) (hh:HoldOk K f) {l:List BA} (hn:l.Nodup) (hm:∀ p,p∈l↔f p≠0):srtP l=holL K f :=
 incN_ext (srtP_inc hn) (holL_inc hk) fun x=>by rw [srtP_mem,hm,holL_mem hh]
theorem below_putRow {α:Type} [Inhabited α] (enc:α→Value) {w:World} {blk B:Nat} (n:Nat) (d:Array α) (os:Array Obj) (hB:B≤blk) (hb:blk<w.heap.size):Below B w (grow (putRow enc (Sort.ahead w n) blk 0 d) os):=by
 have hp:Below B w (putRow enc (Sort.ahead w n) blk 0 d) :=
  ⟨rfl,rfl,rfl,by rw [size_putRow];exact aB _,fun i hi=>by
   show ((Sort.ahead w n).heap.modify blk _)[i]?=_
   rw [Array.getElem?_modify,aC za]
   rfl⟩
 refine ⟨hp.os,hp.tape,hp.output,?_,fun i hi=>?_⟩
 ·rw [size_grow]
  exact dI hp.size (dK _ _)
 ·rw [heap_grow_old _ _ (by have:=hp.size;omega)]
  exact hp.block i hi
theorem sortP_c (g cap:Nat) (L:List BA) (base:Nat) (w:World) (hown:zAT encS 1 w base 9 (.slice (some ⟨g,0,none⟩) L.length cap) L) (hl:L.length≤1000000) (h0:0<L.length) :
  Calls Tryz.prog 80 #[.slice (some ⟨g,0,none⟩) L.length cap] w fun e w'=>e = .returned (.tuple #[])∧Strs w' (some ⟨g,0,none⟩) (srtP L)∧Below base w w':=by
 obtain ⟨hbase,cs,hcs⟩:=zBA hown (g:=g) rfl;have hgl:g<w.heap.size:=(Array.getElem?_eq_some_iff.1 hcs).1;obtain ⟨A',c',he,hrd⟩:=hown.rd1
 injection he with hA _ _
 subst hA;obtain ⟨b,o,e2,hc⟩:=hrd h0
 injection e2 with e2
 injection e2 with e3 e4 _
 subst e3;subst e4
 have hH:Holds encStr w g 0 (L.map bytL).toArray:=fun j hj=>by
  have hj':j<L.length:=qe;refine ⟨?_,cO w g _ cs _ hcs⟩
  rw [hc j hj'];simp [hj',encStr_byt]
 have hS:=AnyM.slices_Sort_string Tryz.sortS80 g 0 cap (L.map bytL) w hH hgl zg
 change Calls Tryz.prog 80 _ _ _ at hS
 rw [aM] at hS;refine hS.mono fun e w' ⟨he,n,os,hw⟩=>⟨he,?_,?_⟩
 ·have hh:=holds_sortWorld encStr w g 0 n (L.map bytL).toArray ((L.map bytL).mergeSort fun x y=>decide (x≤y)).toArray os hgl hH ze
  have hw':w'=sortWorld encStr w g 0 n ((L.map bytL).mergeSort fun x y=>decide (x≤y)).toArray os:=hw
  rw [hw'];refine fun hp=>⟨g,0,rfl,fun i hi=>?_⟩
  have hi':i<((L.map bytL).mergeSort fun x y=>decide (x≤y)).length:=by unfold srtP at hi;simpa using hi
  have:=(hh i (by simpa using hi')).1
  rw [this];have e:(srtP L)[i]?=some (ofBy (((L.map bytL).mergeSort fun x y=>decide (x≤y))[i]'hi')):=by unfold srtP;rw [List.getElem?_map,List.getElem?_eq_getElem hi'];rfl
  rw [(List.getElem?_eq_some_iff.1 e).2,←encStr_byt,byt_of]
  congr 2
  show ((L.map bytL).mergeSort fun x y=>decide (x≤y)).toArray[i]! = _
  rw [getElem!_pos _ _ (by simpa using hi')]
  rfl
 ·rw [hw];exact below_putRow _ _ _ _ hbase hgl
def GivesPs (l:List BA) (w:World) (e:Ending) (w':World):Prop:=∃ A c,e = .returned (.slice A l.length c)∧Strs w' A l∧Below w.heap.size w w'
def PsR (w:World) (g:Nat) (L:List (BA×Value)) (m:Nat) (ov:Value) (wr:World):Prop :=
 ∃ (R:List (BA×Value)) (v:Value) (acc:List BA),v=ov∧R.length=m∧zBx Value.string wr w.heap.size g L R∧zAT encS 1 wr w.heap.size 9 v acc∧(acc++R.map (·.1)).Perm (L.map (·.1))∧Below w.heap.size w wr
theorem PRange_push {w w':World} {it g:Nat} {L R:List (BA×Value)} {α:Type} {enc:α→List Value} {k b:Nat} {e:TypeId} {v:Value} {l:List α} (h:zBx Value.string w it g L R) (ho:zAT enc k w b e v l) (hg:w.grownBy w' v.ownBlock):zBx Value.string w' it g L R:=by
 refine h.keep (hg.block g h.map.lt fun e2=>?_) (hg.block it h.lt fun e2=>?_)
 ·obtain ⟨_,cs,hc⟩:=zBA ho e2.symm
  obtain ⟨es,clk,h1,_⟩:=h.map;rw [h1] at hc;cases hc
 ·obtain ⟨_,cs,hc⟩:=zBA ho e2.symm
  obtain ⟨es,clk,since,c0,seen,_,_,_,_,_,h6,_⟩:=h;rw [h6] at hc;cases hc
theorem parties_c (g:Nat) (K:List BA) (f:zBm) (w:World) (hp:zAI w g f) (hk:IncN K) (hh:HoldOk K f) (hlen:K.length≤1000000):Calls Tryz.prog 35 #[.map (some g)] w (GivesPs (holL K f) w):=by
 obtain ⟨L,h1,h2,h3⟩:=hp;obtain ⟨o,hrun,hpr⟩:=zBx.start tMapP h1;have hgl:=h1.lt;have hLn:=h1.nodup
 have hLm:∀ p,p∈L.map (·.1)↔f p≠0:=fun p=>by
  rw [h2,List.mem_map]
  constructor
  ·rintro ⟨x,hx,rfl⟩;exact ⟨x.2,hx⟩
  ·rintro ⟨v,hv⟩;exact ⟨_,hv,rfl⟩
 have hLl:L.length≤1000000:=by
  have:(L.map (·.1)).length≤K.length:=List.Nodup.length_le_of_subset hLn fun x hx=>aL fun hn=>(hLm x).1 hx (hh.out x hn)
  simp at this
  omega
 have HSE:Hid (∀ l:List BA,l.Perm (L.map (·.1))→srtP l=holL K f):=fun l hl=>srtP_holL hk hh (hl.nodup_iff.2 hLn) fun p=>by rw [hl.mem_iff,hLm]
 have HPR:=zq hpr;have HB0:Hid (Below w.heap.size w (w.alloc o)):=(aS _ _).alloc (aB _) _;clear h1 h2 h3 hpr hk hh hLn hLm
 go_enter Tryz.func35,Tryz.ntmps35
 go_wp2;clear hrun
 go_loopg [3] L.length (PsR w g L)
 case atStart=>exact ⟨L,_,[],rfl,rfl,HPR.o,zAT.nil _ _ _ _ _,List.Perm.refl _,HB0.o⟩
 clear HPR HB0
 case round =>
  obtain ⟨R,v,acc,rfl,hm,hpr,how,hperm,hb⟩:=hrel;have HM:=zq hm;have HPR:=zq hpr;have HOW:=zq how;have HPM:=zq hperm;have HB:=zq hb
  have hal:acc.length+R.length≤1000000:=by
   have:=hperm.length_eq;simp at this
   omega
  clear hm hpr how hperm hb
  rcases zBx.next (P:=Tryz.prog) HPR.o str_inj za 0 with ⟨hR,hnx⟩ | ⟨x,R',w',hpx,hxL,hnx,hen,hpr',hg',hs'⟩
  ·have hpe:acc.Perm (L.map (·.1)):=by
    have:=HPM.o;rw [hR,List.map_nil,aD] at this;exact this
   have HS:=zq (HSE.o acc hpe);clear hR hpe
   obtain ⟨A,c,hv⟩:∃ A c,v = .slice A acc.length c:=by
    rcases HOW.o.2 with ⟨h,hn⟩ | ⟨g',cap,cur,h,_⟩
    ·exact ⟨none,0,by rw [h,hn]⟩
    ·exact ⟨_,_,h⟩
   subst hv
   by_cases h0:acc=[]
   ·subst h0
    have HNS:Hid (Calls Tryz.prog 80 #[.slice A 0 c] wr fun e w'=>e = .returned (.tuple #[])∧w'=wr):=AnyM.slices_Sort_string_none Tryz.sortS80 A c wr
    have HLE:Hid (holL K f=[]):=by show _=_;rw [←HS.o];unfold srtP;simp
    go_wp2_with fail
    with_reducible refine HNS.o.mono ?_
    rintro e w2 ⟨rfl,rfl⟩;go_wp2;go_ret
    unfold GivesPs;rw [HLE.o];exact ⟨A,c,rfl,(fun h=>j2),HB.o⟩
   ·have hpos:0<acc.length:=List.length_pos_iff.2 h0
    obtain ⟨g2,rfl⟩:∃ g2,A=some ⟨g2,0,none⟩:=by
     rcases HOW.o.2 with ⟨h,hn⟩ | ⟨g',cap,cur,h,_⟩
     ·omega
     ·injection h with h;exact ⟨_,h⟩
    have HSO:=zq (sortP_c g2 c acc w.heap.size wr HOW.o za hpos)
    have HLN:Hid (acc.length=(holL K f).length):=by
     show _=_
     rw [←HS.o];unfold srtP;simp
    clear h0
    go_wp2_with fail
    with_reducible refine HSO.o.mono ?_
    rintro e w2 ⟨rfl,hst,hb2⟩;have HST:=zq hst;have HB2:Hid (Below w.heap.size w w2):=HB.o.trans hb2;clear hst hb2;go_wp2;go_ret
    exact ⟨_,c,by rw [HLN.o];rfl,by rw [←HS.o];exact HST.o,HB2.o⟩
  ·obtain ⟨p,val⟩:=x
   have HB1:=zq (zCb HB.o HB.o.size hg' (aB _))
   have HO1:Hid (zAT encS 1 w' w.heap.size 9 v acc):=HOW.o.grown hg' (by
    cases hvv:v.ownBlock with
    | none=>exact .inl rfl
    | some q =>
     refine .inr fun e=>?_
     injection e with e
     obtain ⟨_,cs,hc⟩:=zBA HOW.o hvv;have:=pr_nocell HPR.o 0;obtain ⟨es,clk,since,c0,seen,_,_,_,_,_,h6,_⟩:=HPR.o;rw [e,h6] at hc;cases hc)
   have HPR1:=zq hpr';have HPX:=zq hpx;have hRl:R.length=R'.length+1:=by have:=hpx.length_eq;rw [aY] at this;exact this
   have hws:w.heap.size≤w'.heap.size:=HB1.o.size;clear hpx hpr' hg' hs' hxL
   go_wp2_with (at_builtin;refine zBB _ _ _ elStr rfl rfl w.heap.size v acc rfl (HO1.o.alloc _) w'.heap.size 1 p rfl (cS _ _) rfl zy zm za zg ?_;intro v1 w4 hown4 hg4 hb4)
   have HO4:=zq hown4;have HB4:=zq ((HB1.o.alloc hws _).trans hb4);have HPR4:=zq (PRange_push (HPR1.o.below (ba _ _)) (HO1.o.alloc _) hg4);clear hown4 hg4 hb4;go_wp2
   go_roundg R'.length
   case measure=>have:=HM.o;omega
   case rel =>
    refine ⟨R',_,acc++[p],rfl,rfl,HPR4.o,HO4.o,?_,HB4.o⟩
    have h5:=HPX.o.map (·.1);rw [eG] at h5;rw [List.append_assoc,List.singleton_append];exact (List.Perm.append_left acc h5.symm).trans HPM.o
end Go.Proofs.YtieoifkdobcpiaaGreatDoor
namespace Go.Proofs.YtieoifkdobcpiaaGreatDoor
open Go.RowKit Dw
def GivesLi (Ls:List Int) (w:World) (e:Ending) (w':World):Prop:=∃ v,e = .returned v∧zAT encI 1 w' w.heap.size 3 v Ls∧Below w.heap.size w w'
def LiR (W:World) (ds:List De) (P:De→Bool) (m:Nat) (e i:Value) (wr:World):Prop :=
 ∃ (v:Value) (j:Nat),v=e∧j+m=ds.length∧i = .int .i64 (j:Nat)∧Below W.heap.size W wr∧zAT encI 1 wr W.heap.size 3 v (licL ds P j)
theorem licences_c (RA:Option Addr) (rc:Nat) (rs:List Rg) (UA:Option Addr) (uc:Nat) (us:List BA) (DA:Option Addr) (dc:Nat) (ds:List De) (L n i:Nat) (use:BA) (day:Int) (th p:BA) (x:Bool) (w:World)
  (hl:LgIs RA rc rs UA uc us DA dc ds w L) (hd:Des w DA ds) (hn:(zAG rs)[n]?=some i) (hul:∀ d∈ds,d.us.length≤1000000) (hdl:ds.length≤200) :
  Calls Tryz.prog 82 #[.pointer (some ⟨L,0,none⟩),.string th,.string p,.agg (sptC n use day),.bool x] w (GivesLi (licL ds (zCF rs ds i use day th p x) ds.length) w):=by
 have HLG:=zq hl;have HD:=zq hd;have HUL:=zq hul;have hbw:Below w.heap.size w (w.alloc (.cells (sptC n use day) 76)):=(aS _ _).alloc (aB _) _;have HX:Hid (Bx (w.alloc (.cells (sptC n use day) 76)) w.heap.size (sptC n use day) 76):=Bx.new _ _ _;obtain ⟨W,hW⟩:∃ W,W=w.alloc (.cells (sptC n use day) 76):=⟨_,rfl⟩;rw [←hW] at HX hbw;have HB:=zq hbw;have HLW:=zq (hl.below hbw);have HDW:=zq (hd.below hbw);clear hl hd hul hbw;obtain ⟨r1,r2,g1,g2,AL,cL,vr,vi,ins,base,hlx,_⟩:=HLW.o
 go_enter Tryz.func82,Tryz.ntmps82
 go_upto_region 1 with fail
 rw [←hW];clear hW;have l2:=hlx.c 2 rfl;have hsl:=hlx.lt;go_wp2
 go_loopg [11,20] ds.length (LiR W ds (zCF rs ds i use day th p x))
 case atStart=>exact ⟨_,0,rfl,za,rfl,aS _ _,zAT.nil _ _ _ _ _⟩
 clear l2 hsl hlx
 case round =>
  obtain ⟨v,j,rfl,hjm,rfl,hb,ho⟩:=hrel;have HJ:=zq hjm;have HBW:=zq hb;have HO:=zq ho;have hjl:j≤ds.length:=za;have hll:=licL_len ds (zCF rs ds i use day th p x) j;clear hjm hb ho
  by_cases hlt:j<ds.length
  ·obtain ⟨b,o,hA,hb0,hc0⟩:=HDW.o za
   subst hA;obtain ⟨d,hdd⟩:∃ d,ds[j]=d:=⟨_,rfl⟩;have hp:=(hc0 j hlt).1;rw [hdd] at hp;have hrg:wr.rangeAt b (o+j*16) (deC d).toList:=fun q v hv=>(HBW.o.cell (p:=⟨b,o+j*16+q,none⟩) hb0).trans (hp q v hv)
   have HS:Hid (licL ds (zCF rs ds i use day th p x) (j+1)=licL ds (zCF rs ds i use day th p x) j++(if zCF rs ds i use day th p x d=true then [(j:Int)] else [])):=by
    show _=_
    rw [licL_succ,List.getD_eq_getElem?_getD,List.getElem?_eq_getElem hlt,aO,hdd]
   have hval:=fun (u:World) (hu:Below W.heap.size W u)=>valid_c RA rc rs UA uc us (some ⟨b,o,none⟩) dc ds L j n i use day u (HLW.o.below hu) (HDW.o.below hu) hlt hn (HUL.o _ (aJ hlt))
   rw [hdd] at hval;have HVAL:=zq hval;clear hp hc0 hdd hval;go_upto_region 4 with fail
   iterate 8 go_step
   refine fC _ _ zk b (o+j*16) zk (deC d).toList _ hrg Tryz.underlying52 rfl zc ?_
   clear hrg;go_upto_region 5 with fail
   obtain ⟨wd,hwd⟩:∃ wd,wd=wr.alloc (.cells (deC d) 52):=⟨_,rfl⟩;rw [←hwd];have hbd:Below wr.heap.size wr wd:=zt;have HD1:Hid (Bx wd wr.heap.size (deC d) 52):=yg;have HBD:=zq (zAa HBW.o hbd);have HOD:=zq (HO.o.below hbd);have HXD:=zq (HX.o.below HBD.o);clear hwd hbd HO HBW;have d2:=HD1.o.c 2 rfl;have d3:=HD1.o.c 3 rfl;have d4:=HD1.o.c 4 rfl;have d8:=HD1.o.c 8 rfl;have hsd:=HD1.o.lt;obtain ⟨x0,x1,x2⟩:=HXD.o.t;have hsx:=HXD.o.lt
   have HNO:zCF rs ds i use day th p x d=false→Hid (zAT encI 1 wd W.heap.size 3 v (licL ds (zCF rs ds i use day th p x) (j+1))):=fun h=>by
    show zAT _ _ _ _ _ _ _
    rw [HS.o,h,aC ze,aD];exact HOD.o
   by_cases hq:d.kd=3
   case neg =>
    have e1:(d.kd == 3)=false:=qk;have HN:=HNO (by unfold zCF;rw [cX hq];rfl)
    clear hq HNO;go_wp2
    go_roundg (gk - 1)
    case measure=>have:=HJ.o;omega
    case rel=>exact ⟨_,j+1,rfl,yb,zi,HBD.o,HN.o⟩
   have e1:(d.kd == 3)=true:=qk
   by_cases ht:d.th=th
   case neg =>
    have q1:=zAm ht;have HN:=HNO (by unfold zCF;rw [cX ht];simp)
    clear hq ht HNO;go_wp2
    go_roundg (gk - 1)
    case measure=>have:=HJ.o;omega
    case rel=>exact ⟨_,j+1,rfl,yb,zi,HBD.o,HN.o⟩
   have q1:=zAn ht
   by_cases hf:d.fr=p
   case neg =>
    have q2:=zAm hf;have HN:=HNO (by unfold zCF;rw [cX hf];simp)
    clear hq ht hf HNO;go_wp2
    go_roundg (gk - 1)
    case measure=>have:=HJ.o;omega
    case rel=>exact ⟨_,j+1,rfl,yb,zi,HBD.o,HN.o⟩
   have q2:=zAn hf
   cases hx:d.ex == x with
   | false =>
    have HN:=HNO (by unfold zCF;rw [hx];simp)
    clear hq ht hf HNO;go_wp2
    go_roundg (gk - 1)
    case measure=>have:=HJ.o;omega
    case rel=>exact ⟨_,j+1,rfl,yb,zi,HBD.o,HN.o⟩
   | true =>
    have HV:Hid (zCF rs ds i use day th p x d=vB rs ds i use day d):=by show _=_;unfold zCF;rw [cW hq,cW ht,cW hf,hx];rfl
    clear hq ht hf
    go_wp2_with fail
    with_reducible refine (HVAL.o _ HBD.o).mono ?_
    rintro e w3 ⟨rfl,hb3⟩;have HB3:=zq (zAa HBD.o hb3);have HO3:=zq (HOD.o.below hb3);clear hb3 d2 d3 d4 d8 hsd x0 x1 x2 hsx e1 q1 q2 hx HXD HD1 HOD HBD HVAL HNO
    cases hv:vB rs ds i use day d with
    | false =>
     have HN:Hid (zAT encI 1 w3 W.heap.size 3 v (licL ds (zCF rs ds i use day th p x) (j+1))):=by
      show zAT _ _ _ _ _ _ _
      rw [HS.o,HV.o,hv,aC ze,aD];exact HO3.o
     clear hv;go_wp2
     go_roundg (gk - 1)
     case measure=>have:=HJ.o;omega
     case rel=>exact ⟨_,j+1,rfl,yb,zi,HB3.o,HN.o⟩
    | true =>
     have HS2:Hid (licL ds (zCF rs ds i use day th p x) (j+1)=licL ds (zCF rs ds i use day th p x) j++[(j:Int)]):=by
      show _=_
      rw [HS.o,HV.o,hv,aE rfl]
     have hW3:W.heap.size≤w3.heap.size:=HB3.o.size;clear hv
     go_wp2_with (at_builtin;refine zBB _ _ _ elInt rfl rfl W.heap.size v (licL ds (zCF rs ds i use day th p x) j) rfl (HO3.o.alloc _) w3.heap.size 1 (j:Int) rfl (cS _ _) rfl zy zm za zg ?_;intro v1 w4 hown4 hg4 hb4)
     have HO4:Hid (zAT encI 1 w4 W.heap.size 3 v1 (licL ds (zCF rs ds i use day th p x) (j+1))):=by show zAT _ _ _ _ _ _ _;rw [HS2.o];exact hown4
     have HB4:=zq ((HB3.o.alloc hW3 _).trans hb4);clear hown4 hg4 hb4;go_wp2
     go_roundg (gk - 1)
     case measure=>have:=HJ.o;omega
     case rel=>exact ⟨_,j+1,rfl,yb,zi,HB4.o,HO4.o⟩
  ·have hje:j=ds.length:=by omega
   rw [hje] at HO;go_wp2;go_ret
   exact ⟨v,rfl,zAT.base HO.o HB.o.size,zAa HB.o HBW.o⟩
def zDJ (seen:List BA):BA→Option Value:=fun x=>if zDt seen x=true then some (.bool true) else none
theorem seenM_nil:zDJ []=fun _=>none:=by funext x;rfl
theorem seenM_cons (p:BA) (seen:List BA):zDJ (p::seen)=fun x=>if x=p then some (.bool true) else zDJ seen x:=by
 funext x
 unfold zDJ
 by_cases h:x=p
 ·rw [aE (zCd.2 (by rw [h];exact aX)),aE h]
 ·rw [aC h]
  by_cases hm:zDt seen x=true
  ·rw [aE hm,aE (zCd.2 (aW _ (zCd.1 hm)))]
  ·rw [aC hm,aC fun h2=>?_]
   rcases List.mem_cons.1 (zCd.1 h2) with h3 | h3
   ·exact h h3
   ·exact hm (zCd.2 h3)
theorem tMapSB:Tryz.prog.underlying 157=some (.map 9 4):=Tryz.underlying157
theorem zBoolS (w:World):(zeroValue 4).run Tryz.prog w = .ok (.bool false) w:=zc
def CtR (W:World) (nx:BA→Option BA) (ps:List BA) (res:BA) (m:Nat) (e:Value) (wr:World):Prop :=
 ∃ (p:BA) (seen:List BA),e = .string p∧Below W.heap.size W wr∧W.heap.size<wr.heap.size∧zAA Value.string wr W.heap.size (zDJ seen)∧CtlI nx ps m seen p res
theorem controls_c (RA:Option Addr) (rc:Nat) (rs:List Rg) (UA:Option Addr) (uc:Nat) (us:List BA) (DA:Option Addr) (dc:Nat) (ds:List De) (L n i:Nat) (use:BA) (day:Int) (th ho:BA) (w:World)
  (hl:LgIs RA rc rs UA uc us DA dc ds w L) (hd:Des w DA ds) (hn:(zAG rs)[n]?=some i) (hul:∀ d∈ds,d.us.length≤1000000) (hdl:ds.length≤200) :
  Calls Tryz.prog 81 #[.pointer (some ⟨L,0,none⟩),.string th,.string ho,.agg (sptC n use day)] w (zAe (.string (ctlF rs ds i use day th ho)) w):=by
 have HI0:=zq (ctlI_start rs ds i use day th ho);generalize ctlF rs ds i use day th ho=res at *;have hbw:Below w.heap.size w (w.alloc (.cells (sptC n use day) 76)):=(aS _ _).alloc (aB _) _;have HX:Hid (Bx (w.alloc (.cells (sptC n use day) 76)) w.heap.size (sptC n use day) 76):=Bx.new _ _ _;obtain ⟨W,hW⟩:∃ W,W=w.alloc (.cells (sptC n use day) 76):=⟨_,rfl⟩;rw [←hW] at HX hbw;have HB:=zq hbw;have HLW:=zq (hl.below hbw);have HDW:=zq (hd.below hbw);have HUL:=zq hul;clear hl hd hul hbw;have hmm:=@run_makeMap Tryz.prog
 go_enter Tryz.func81,Tryz.ntmps81
 go_upto_region 1 with fail
 rw [←hW];clear hW;go_upto_region 2 with fail
 clear hmm;have HM0:Hid (zAA Value.string (W.alloc (.map #[] 0)) W.heap.size (zDJ [])):=by show zAA _ _ _ _;rw [seenM_nil];exact zAA.new Value.string W
 have HBM:Hid (Below W.heap.size W (W.alloc (.map #[] 0))):=(aS _ _).alloc (aB _) _
 go_loopg [2] (ds.length+2) (CtR W (nextP rs ds i use day th) (ho::ds.map De.to_) res)
 case atStart=>exact ⟨ho,[],rfl,HBM.o,ze,HM0.o,HI0.o⟩
 clear HM0 HBM HI0
 case round =>
  obtain ⟨p,seen,rfl,hb,hlt0,hm,hi⟩:=hrel;have HBW:=zq hb;have HM:=zq hm;have HI:=zq hi;clear hb hm hi;have hlk:=zAC tMapSB kStr zBoolS HM.o p false
  cases hms:zDt seen p with
  | true =>
   have HRS:=zq (HI.o.stop hms);rw [show zDJ seen p=some (.bool true) by unfold zDJ;rw [aE hms]] at hlk
   simp only [eJ,eD,aO] at hlk;clear hms;go_wp2;go_ret
   exact zAe.mk (by rw [HRS.o];rfl) (zAa HB.o HBW.o)
  | false =>
   rw [show zDJ seen p=none by unfold zDJ;rw [aC (by rw [hms];simp)]] at hlk
   simp only [eJ,eD,eP] at hlk;have HMS:=zq hms;clear hms;obtain ⟨wu,hup,hmu,hgu,hsu⟩:=zAV tMapSB kStr HM.o p (.bool true);have HMU:Hid (zAA Value.string wu W.heap.size (zDJ (p::seen))):=by show zAA _ _ _ _;rw [seenM_cons];exact hmu
   have hbu:Below W.heap.size W wu:=HBW.o.grown hgu HBW.o.size (fun k hk=>by injection hk with hk;rw [←hk];exact aB _)
   have HBU:=zq hbu;have hltu:W.heap.size<wu.heap.size:=dL hlt0 hgu.size;have HXU:=zq (HX.o.below hbu);have HLC:=zq (licences_c RA rc rs UA uc us DA dc ds L n i use day th p true wu (HLW.o.below hbu) (HDW.o.below hbu) hn HUL.o hdl);obtain ⟨Ls,hLs⟩:∃ Ls,Ls=licL ds (zCF rs ds i use day th p true) ds.length:=⟨_,rfl⟩;rw [←hLs] at HLC;have HLS:=zq hLs;have hll:Ls.length≤ds.length:=by rw [hLs];exact licL_len _ _ _
   clear hmu hgu hsu hbu hLs HM HBW;obtain ⟨x0,x1,x2⟩:=HXU.o.t;have hsx:=HXU.o.lt
   go_wp2_with fail
   with_reducible refine HLC.o.mono ?_
   rintro e w5 ⟨v,rfl,ho5,hb5⟩;obtain ⟨A,c,rfl,hrd⟩:=ho5.rdk;have HRD:=zq hrd;have HB5:=zq (zAa HBU.o hb5);have HM5:=zq (HMU.o.below hb5);have hlt5:W.heap.size<w5.heap.size:=dL hltu hb5.size;clear ho5 hb5 hrd x0 x1 x2 hsx hup hlk HLC HXU HMU HBU
   cases Ls with
   | nil =>
    have HRS:=zq (HI.o.none HMS.o (by show (ds.find? _).map _=_;rw [licL_none HLS.o.symm];rfl))
    simp only [eF];go_wp2;go_ret
    exact zAe.mk (by rw [HRS.o];rfl) (zAa HB.o HB5.o)
   | cons z t =>
    obtain ⟨k,hk,hz,hfd⟩:=licL_some HLS.o.symm;subst hz;obtain ⟨d,hdd⟩:∃ d,ds[k]=d:=⟨_,rfl⟩;rw [hdd] at hfd;have hnx:nextP rs ds i use day th p=some d.to_:=by unfold nextP;rw [hfd];rfl
    have HNX:=zq (HI.o.next HMS.o hnx (nextP_mem hnx));obtain ⟨b,o,hA,hb0,hc0⟩:=HDW.o za;subst hA;have hp:=(hc0 k hk).1;rw [hdd] at hp;have d5:w5.cell? ⟨b,o+k*16+5,none⟩=some (.string d.to_):=(HB5.o.cell (p:=⟨b,o+k*16+5,none⟩) hb0).trans (hp 5 _ rfl);obtain ⟨b2,o2,rfl,hc2⟩:=HRD.o ze;have s0:w5.cell? ⟨b2,o2,none⟩=some (.int .i64 (k:Int)):=hc2 0 _ rfl;obtain ⟨r1,r2,g1,g2,AL,cL,vr,vi,ins,base,hlx,_⟩:=HLW.o.below HB5.o;have l2:=hlx.c 2 rfl;have hsl:=hlx.lt;have hpos:0<gk:=HNX.o.1;have hln:(((k:Int)::t).length == 0)=false:=ze;clear hc0 hp hc2 hlx hfd hnx hdd HRD;simp only [aY] at *;have hln2:(((t.length+1:Nat):Int) == 0)=false:=zg;go_wp2
    go_quiet (fail)
    go_wp2
    go_roundg (gk - 1)
    case measure=>omega
    case rel=>exact ⟨d.to_,p::seen,rfl,zAd HB5.o _,by simpa using hlt5,HM5.o.below (zAd (aS _ _) _),HNX.o.2⟩
abbrev zSpot:Array Value:=#[.int .i64 0,.string ⟨#[]⟩,.int .i64 0]
def zCN (rs:List Rg) (us:List BA) (pl use:BA) (day:Int):Int:=if (leafB rs pl&&zDt us use)=false then 5 else if zCr day=false then 1 else 0
def GivesSp (rs:List Rg) (us:List BA) (pl use:BA) (day:Int) (w:World) (e:Ending) (w':World):Prop :=
 Below w.heap.size w w'∧((zCN rs us pl use day≠0∧e = .returned (.tuple #[.agg zSpot,.int .i64 (zCN rs us pl use day)])) ∨
  (zCN rs us pl use day=0∧∃ n,(zAG rs)[n]?=some ((idx rs pl).getD 0)∧e = .returned (.tuple #[.agg (sptC n use day),.int .i64 0])))
theorem below_st3 {b g:Nat} {w W:World} (h:Below b w W) (hb:b≤g) (u v x:Value):Below b w (((W.setCell ⟨g,0,none⟩ u).setCell ⟨g,1,none⟩ v).setCell ⟨g,2,none⟩ x):=((h.setCell hb _).setCell hb _).setCell hb _
theorem leaf_idx {l:List Rg} (g:GoodR l) {s:BA} (h:leafB l s=true):∃ n:Nat,lmF l l.length s=some (.int .i64 (n:Int))∧(zAG l)[n]?=some ((idx l s).getD 0)∧(idx l s).getD 0<l.length∧(l.getD ((idx l s).getD 0) default).nm=s:=by
 obtain ⟨i,n,hi,h1,h2,h3⟩:=leaf_at g h;have hx:idx l s=some i:=by rw [←h1];exact g.inc.idx hi
 refine ⟨n,h2,by rw [hx];exact h3,by rw [hx];exact hi,?_⟩
 rw [hx,aO,List.getD_eq_getElem?_getD,List.getElem?_eq_getElem hi];exact h1
theorem spot_c (RA:Option Addr) (rc:Nat) (rs:List Rg) (UA:Option Addr) (uc:Nat) (us:List BA) (DA:Option Addr) (dc:Nat) (ds:List De) (L:Nat) (pl use:BA) (day:Int) (w:World)
  (g:GoodR rs) (hl:LgIs RA rc rs UA uc us DA dc ds w L) (hu:Strs w UA us) (hul:us.length≤20) :
  Calls Tryz.prog 29 #[.pointer (some ⟨L,0,none⟩),.string pl,.string use,.int .i64 day] w (GivesSp rs us pl use day w):=by
 have hbw:Below w.heap.size w (w.alloc (.cells zSpot 76)):=(aS _ _).alloc (aB _) _;have HX:Hid (Bx (w.alloc (.cells zSpot 76)) w.heap.size zSpot 76):=Bx.new _ _ _;obtain ⟨W,hW⟩:∃ W,W=w.alloc (.cells zSpot 76):=⟨_,rfl⟩;rw [←hW] at HX hbw;have HB:=zq hbw;obtain ⟨r1,r2,g1,g2,AL,cL,vr,vi,ins,base,hlx,hwr,_⟩:=hl.below hbw;have HUW:=zq (hu.below hbw);have hlk:=zAC tMap kStr zInt hwr.m2 pl true;clear hl hu hbw hwr
 go_enter Tryz.func29,Tryz.ntmps29
 go_upto_region 1 with fail
 rw [←hW];clear hW;have l6:=hlx.c 6 rfl;have l1:=hlx.c 1 rfl;have hsl:=hlx.lt;obtain ⟨x0,x1,x2⟩:=HX.o.t;have f0:=HX.o.frozen 0;have f1:=HX.o.frozen 1;have f2:=HX.o.frozen 2;have hsx:=HX.o.lt;have HCO:=zq (containsS_c UA uc us use W za HUW.o);have HDY:=zq (isDay_c day W);clear hlx
 cases hlb:leafB rs pl with
 | false =>
  have HF:Hid (zCN rs us pl use day=5):=by show _=_;unfold zCN;rw [hlb];rfl
  rw [leaf_no g hlb] at hlk;simp only [if_true,eP,Option.isSome_none] at hlk;clear hlb;go_wp2;refine dY (v:=.tuple #[.agg zSpot,.int .i64 5]) ?_ rfl ?_
  ·simp [results,Tryz.results29,go_sem,x0,x1,x2]
  ·exact ⟨below_st3 HB.o (aB _) _ _ _,.inl ⟨by rw [HF.o];decide,by rw [HF.o]⟩⟩
 | true =>
  obtain ⟨n,hn1,hn2,_⟩:=leaf_idx g hlb;rw [hn1] at hlk;simp only [if_true,aO,Option.isSome_some] at hlk;have HN:=zq hn2;have HLB:=zq hlb;clear hn1 hn2 hlb
  go_wp2_with fail
  with_reducible refine HCO.o.mono ?_
  rintro e w1 ⟨rfl,rfl⟩
  cases hmu:zDt us use with
  | false =>
   have HF:Hid (zCN rs us pl use day=5):=by show _=_;unfold zCN;rw [HLB.o,hmu];rfl
   clear hmu;go_wp2;refine dY (v:=.tuple #[.agg zSpot,.int .i64 5]) ?_ rfl ?_
   ·simp [results,Tryz.results29,go_sem,x0,x1,x2]
   ·exact ⟨below_st3 HB.o (aB _) _ _ _,.inl ⟨by rw [HF.o];decide,by rw [HF.o]⟩⟩
  | true =>
   have HMU:=zq hmu;clear hmu
   go_wp2_with fail
   with_reducible refine HDY.o.mono ?_
   rintro e w2 ⟨rfl,rfl⟩
   cases hdy:zCr day with
   | false =>
    have HF:Hid (zCN rs us pl use day=1):=qh;clear hdy;go_wp2;refine dY (v:=.tuple #[.agg zSpot,.int .i64 1]) ?_ rfl ?_
    ·simp [results,Tryz.results29,go_sem,x0,x1,x2]
    ·exact ⟨below_st3 HB.o (aB _) _ _ _,.inl ⟨by rw [HF.o];decide,by rw [HF.o]⟩⟩
   | true =>
    have HF:Hid (zCN rs us pl use day=0):=qh;clear hdy;go_wp2;refine dY (v:=.tuple #[.agg (sptC n use day),.int .i64 0]) ?_ rfl ?_
    ·simp [results,Tryz.results29,go_sem,x0,x1,x2]
    ·exact ⟨below_st3 HB.o (aB _) _ _ _,.inr ⟨HF.o,n,HN.o,rfl⟩⟩
theorem short_of {rs:List Rg} {us:List BA} {ds:List De} (h:zCI rs us ds=0):∀ d∈ds,d.ar.length≤100∧d.us.length≤20:=fun d hd=>by
 obtain ⟨k,hk,rfl⟩:=aK hd;have:=zDT ((zAZ h).2 k hk) (zAZ h).1;exact ⟨this.1,this.2.1⟩
theorem strs2 (W:World) (a b:BA):Strs (W.alloc (.cells #[.string a,.string b] 9)) (some ⟨W.heap.size,0,none⟩) [a,b]:=fun _=>⟨W.heap.size,0,rfl,fun i hi=>by
 rw [aQ,aR _ W.heap.size i _ _ _ (cS _ _)]
 match i,hi with
 | 0,_=>rfl
 | 1,_=>rfl⟩
end Go.Proofs.YtieoifkdobcpiaaGreatDoor
