/- Parts of the proof, joined: What is written is read again, line by line and whole: no program in s. -/
import Derived.Test.YtoaelidmmcbkfaaGreatDoorSt35
set_option maxRecDepth 100000
set_option maxHeartbeats 8000000
namespace Go.Proofs.YtoaelidmmcbkfaaGreatDoor
open Dw
theorem ok_no {c:UInt8} {s:Ln} (h:s.all okB=true) (hc:okB c=false):c∉s:=fun hm=>by
 have:=List.all_eq_true.1 h c hm;rw [hc] at this;cases this
theorem dg_no {c:UInt8} {s:Ln} (h:s.all dgB=true) (hc:dgB c=false):c∉s:=fun hm=>by
 have:=List.all_eq_true.1 h c hm;rw [hc] at this;cases this
theorem nm_all {s:BA} (h:zAC s=true):s.data.toList.all okB=true:=by
 unfold zAC at h;simp only [cU] at h;exact h.2
theorem nm_row {s:BA} (h:zAC s=true):rowL s.data.toList=true:=by
 have ha:=nm_all h;unfold zAC at h;simp only [cU,aH] at h;obtain ⟨⟨⟨⟨h1,h2⟩,h3⟩,h4⟩,_⟩:=h;have e:s.data.toList.length=s.size:=cZ;unfold rowL;rw [ha,Bool.and_true,cU,decide_eq_true_iff,decide_eq_true_iff];refine ⟨fun h0=>?_,fun h0=>?_⟩
 ·rw [h0] at e;simp at e;omega
 ·rw [h0] at h3;exact absurd h3 zc
theorem itoa_all {n:Int} (h:0≤n):(zBc n).data.toList.all dgB=true:=by
 obtain ⟨m,rfl⟩:=Int.eq_ofNat_of_zero_le h;rw [itoa_dig,digB_list];exact dig_all m
theorem numS_wr {n:Int} (h:0≤n) (h2:n≤200000):numS (zBc n).data.toList=some n.toNat:=by
 obtain ⟨m,rfl⟩:=Int.eq_ofNat_of_zero_le h;rw [itoa_dig,digB_list];unfold numS;have h1:=dig_pos m;have h3:=(dig_len m 9 za).2 za;rw [aE,dig_val];rfl;refine ⟨fun e=>by rw [e] at h1;simp at h1,dig_all m,h3,?_⟩
 by_cases h0:m=0
 ·left;rw [h0,Lib.decDigits];simp
 ·exact .inr (dig_head m h0)
theorem num_digs {s:BA} (h:numB s=true):zCQ s.data.toList=true:=by
 have e:s.data.toList.length=s.size:=cZ;unfold numB at h;simp only [cU,Bool.or_eq_true,aH] at h;unfold zCQ;rw [h.1,Bool.and_true,decide_eq_true_iff];intro h0;rw [h0] at e;simp at e
 omega
theorem noNeg_abs (s:BA):noNeg s.data.toList=(zBm s).data.toList:=by
 have e:s.data.toList.length=s.size:=cZ;unfold zBm absL negB noNeg
 cases hs:s.data.toList with
 | nil=>simp
 | cons c t =>
  rw [hs] at e;simp only [aM] at e;have h0:decide (0<s.size)=true:=cD za;rw [h0,Bool.true_and];simp only [List.headD_cons,List.head?_cons,dF,List.tail_cons]
  by_cases hc:c=45
  ·subst hc;simp
  ·have:¬ c.toNat=45:=fun h=>hc (UInt8.toNat_inj.1 h)
   simp [hc,this]
theorem rat45 {nu:BA} (h:numB (zBm nu)=true):∀ c∈nu.data.toList,c=45∨dgB c=true:=by
 have h1:=num_digs h;unfold zCQ at h1;rw [cU] at h1;have h2:=List.all_eq_true.1 h1.2;rw [←noNeg_abs] at h2;unfold noNeg at h2;intro c hc
 split at h2
 ·next h0 =>
  cases hs:nu.data.toList with
  | nil=>rw [hs] at hc;cases hc
  | cons x t =>
   rw [hs] at hc h0 h2;simp only [List.head?_cons,dF] at h0
   rcases List.mem_cons.1 hc with rfl | hc
   ·exact .inl h0
   ·exact .inr (h2 c hc)
 ·exact .inr (h2 c hc)
theorem ratX_wr {nu de:BA} (h:ratF nu de=0):ratX (nu.data.toList++47::de.data.toList)=some (nu.data.toList,de.data.toList):=by
 obtain ⟨h1,h2,_⟩:=zDa h
 have hn:∀ c∈nu.data.toList,decide (c≠(47:UInt8))=true:=fun c hc=>by
  rw [decide_eq_true_iff];rintro rfl
  rcases rat45 h1 _ hc with h | h
  ·exact absurd h zc
  ·exact absurd h zc
 have e1:(nu.data.toList++47::de.data.toList).dropWhile (fun c:UInt8=>decide (c≠47))=47::de.data.toList:=by
  rw [List.dropWhile_append_of_pos hn];rfl
 have e2:(nu.data.toList++47::de.data.toList).takeWhile (fun c:UInt8=>decide (c≠47))=nu.data.toList:=by
  rw [List.takeWhile_append_of_pos hn];simp
 unfold ratX;rw [e1];simp only;rw [e2,noNeg_abs,num_digs h1,num_digs h2];rfl
def NoB (ws:List Ln):Prop:=∀ p∈ws,(32:UInt8)∉p
theorem NoB.cons {a:Ln} {l:List Ln} (h:(32:UInt8)∉a) (hl:NoB l):NoB (a::l):=fun p hp=>by
 rcases List.mem_cons.1 hp with rfl | hp
 ·exact h
 ·exact hl p hp
theorem NoB.nil:NoB []:=fun p hp=>by cases hp
theorem nm32 {s:BA} (h:zAC s=true):(32:UInt8)∉s.data.toList:=ok_no (nm_all h) zc
theorem it32 {n:Int} (h:0≤n):(32:UInt8)∉(zBc n).data.toList:=dg_no (itoa_all h) zc
theorem de_dg {nu de:BA} (h:ratF nu de=0):de.data.toList.all dgB=true:=by
 have:=num_digs (zDa h).2.1;unfold zCQ at this;rw [cU] at this;exact this.2
theorem rat_c {nu de:BA} (h:ratF nu de=0) {c:UInt8} (h1:c≠45) (h2:dgB c=false) (h3:c≠47):c∉nu.data.toList++47::de.data.toList:=fun hm=>by
 rcases List.mem_append.1 hm with hm | hm
 ·rcases rat45 (zDa h).1 c hm with e | e
  ·exact h1 e
  ·rw [h2] at e;cases e
 ·rcases List.mem_cons.1 hm with e | hm
  ·exact h3 e
  ·exact dg_no (de_dg h) h2 hm
def Nx (first:Ln) (L:List Ln):Prop:=∀ m,wdF sp2 first m L=none
section
variable {first f2:Ln} {R:List Ln} {ws:List Ln}
theorem Nx.nil:Nx first []:=fun _=>rfl
theorem Nx.deed {d:De}:Nx first (hdW d::R):=fun m=>by
 rw [wdF_cons,aC];rintro ⟨h,_⟩;unfold hdW at h;rw [zCL zg] at h;exact absurd h (by simp [List.isPrefixOf])
theorem Nx.ln (hb:NoB (f2::ws)) (hf:f2≠first):Nx first (lnW (f2::ws)::R):=fun m=>by
 rw [wdF_line zg hb,aC];rintro ⟨h,_⟩;exact hf yn
theorem wd_at {pre:Ln} {n:Nat} (ws:List Ln) (hn:ws.length+1=n) (hb:NoB (first::ws)):wdF pre first n ((pre++joi 32 (first::ws))::R)=some (first::ws):=by
 rw [wdF_line zg hb,aE ⟨rfl,hn⟩]
theorem nameX_wr {v:BA} (hf:(32:UInt8)∉first) (hv:zAC v=true):zBO first (lnW [first,v.data.toList]::R) = .ok (v,R):=by
 have h:wdF sp2 first 2 (lnW [first,v.data.toList]::R)=some [first,v.data.toList]:=wd_at [v.data.toList] rfl (.cons hf (.cons (nm32 hv) .nil))
 unfold zBO;rw [h];simp only;rw [aE (nm_row hv),zBn];rfl
theorem numX_wr {v:Int} (hf:(32:UInt8)∉first) (h0:0≤v) (h1:v≤200000):numX first (lnW [first,(zBc v).data.toList]::R) = .ok (v,R):=by
 have h:wdF sp2 first 2 (lnW [first,(zBc v).data.toList]::R)=some [first,(zBc v).data.toList]:=wd_at [(zBc v).data.toList] rfl (.cons hf (.cons (it32 h0) .nil))
 unfold numX;rw [h];simp only;rw [numS_wr h0 h1];simp only [List.tail_cons];rw [Int.toNat_of_nonneg h0]
theorem partX_wr {n d:BA} (h:ratF n d=0):partX (lnW [zCR,n.data.toList++47::d.data.toList]::R) = .ok ((n,d),R):=by
 have hw:wdF sp2 zCR 2 (lnW [zCR,n.data.toList++47::d.data.toList]::R)=some [zCR,n.data.toList++47::d.data.toList]:=wd_at [n.data.toList++47::d.data.toList] rfl (.cons zc (.cons (rat_c h zc zc zc) .nil));unfold partX;rw [hw];simp only;rw [ratX_wr h];simp only [List.tail_cons,zBn]
theorem flagX_wr {b:Bool} (hf:(32:UInt8)∉first) (h:Nx first R):zBD first (optL b [lnW [first]]++R)=(b,R):=by
 cases b with
 | false =>
  show zBD first R=_
  unfold zBD;rw [h 1]
 | true =>
  have hw:wdF sp2 first 1 (lnW [first]::R)=some [first]:=wd_at [] rfl (.cons hf .nil)
  unfold zBD
  show (match wdF sp2 first 1 (lnW [first]::R) with | some _=>(true,R) | none=>(false,lnW [first]::R))=_
  rw [hw]
theorem areasX_nil (h1:Nx kIn R) (h2:Nx zCV R):zAM R=([],R):=by
 cases R with
 | nil=>rfl
 | cons l r=>unfold zAM;rw [h1 2,h2 2]
theorem areasX_wr:∀ {l:List Ar},(∀ a∈l,zAC a.rg=true)→Nx kIn R→Nx zCV R→zAM (l.map arW++R)=(l,R)
 | [],_,h1,h2=>areasX_nil h1 h2
 | a::l,h,h1,h2=>by
  have ih:=areasX_wr (l:=l) (fun x hx=>h x (aJ _ hx)) h1 h2
  have ha:=h a aK;have hr:=nm_row ha;obtain ⟨rg,out⟩:=a
  show zAM (arW ⟨rg,out⟩::(l.map arW++R))=_
  unfold zAM
  cases out with
  | false =>
   have hw:wdF sp2 kIn 2 (lnW [kIn,rg.data.toList]::(l.map arW++R))=some [kIn,rg.data.toList]:=wd_at [rg.data.toList] rfl (.cons zc (.cons (nm32 ha) .nil));rw [show arW ⟨rg,false⟩=lnW [kIn,rg.data.toList] from rfl,hw]
   simp only;rw [aE hr,ih,zBn]
  | true =>
   have hn:=Nx.ln (first:=kIn) (f2:=zCV) (R:=l.map arW++R) (ws:=[rg.data.toList]) (.cons zc (.cons (nm32 ha) .nil)) zc 2
   have hw:wdF sp2 zCV 2 (lnW [zCV,rg.data.toList]::(l.map arW++R))=some [zCV,rg.data.toList]:=wd_at [rg.data.toList] rfl (.cons zc (.cons (nm32 ha) .nil));rw [show arW ⟨rg,true⟩=lnW [zCV,rg.data.toList] from rfl,hn,hw]
   simp only;rw [aE hr,ih,zBn]
theorem usesX_wr {pre:Ln} (hf:(32:UInt8)∉first):∀ {l:List BA},(∀ a∈l,zAC a=true)→wdF pre first 2 R=none→zAJ pre first (l.map (fun u=>pre++joi 32 [first,u.data.toList])++R)=(l,R)
 | [],_,h1=>by
  cases R with
  | nil=>rfl
  | cons l r=>show zAJ pre first (l::r)=_;unfold zAJ;rw [h1]
 | a::l,h,h1=>by
  have ih:=usesX_wr hf (l:=l) (fun x hx=>h x (aJ _ hx)) h1
  have ha:=h a aK;have hw:wdF pre first 2 ((pre++joi 32 [first,a.data.toList])::(l.map (fun u=>pre++joi 32 [first,u.data.toList])++R))=some [first,a.data.toList]:=wd_at [a.data.toList] rfl (.cons hf (.cons (nm32 ha) .nil))
  show zAJ pre first ((pre++joi 32 [first,a.data.toList])::(l.map (fun u=>pre++joi 32 [first,u.data.toList])++R))=_
  unfold zAJ;rw [hw];simp only;rw [aE (nm_row ha),ih,zBn]
theorem sharesX_wr:∀ {l:List Sh},(∀ s∈l,zAC s.pt=true∧ratF s.nu s.de=0)→Nx zBR R→zAy (l.map shW++R)=(l,R)
 | [],_,h1=>by
  cases R with
  | nil=>rfl
  | cons l r=>show zAy (l::r)=_;unfold zAy;rw [h1 3]
 | a::l,h,h1=>by
  have ih:=sharesX_wr (l:=l) (fun x hx=>h x (aJ _ hx)) h1
  obtain ⟨ha,hr⟩:=h a aK;have hw:wdF sp2 zBR 3 (lnW [zBR,a.pt.data.toList,a.nu.data.toList++47::a.de.data.toList]::(l.map shW++R))=some [zBR,a.pt.data.toList,a.nu.data.toList++47::a.de.data.toList]:=wd_at [a.pt.data.toList,a.nu.data.toList++47::a.de.data.toList] rfl (.cons zc (.cons (nm32 ha) (.cons (rat_c hr zc zc zc) .nil)))
  show zAy (lnW [zBR,a.pt.data.toList,a.nu.data.toList++47::a.de.data.toList]::(l.map shW++R))=_
  unfold zAy;rw [hw];simp only;rw [aE (nm_row ha),ratX_wr hr];simp only [ih,zBn]
theorem regsX_wr:∀ {l:List Rg},(∀ r∈l,zAC r.nm=true∧(r.par=emp∨zAC r.par=true))→wdF [] zBj 3 R=none→zAO (l.map rgW++R)=(l,R)
 | [],_,h1=>by
  cases R with
  | nil=>rfl
  | cons l r=>show zAO (l::r)=_;unfold zAO;rw [h1]
 | a::l,h,h1=>by
  have ih:=regsX_wr (l:=l) (fun x hx=>h x (aJ _ hx)) h1
  obtain ⟨ha,hp⟩:=h a aK;obtain ⟨nm,par⟩:=a;simp only at ha hp;have hne:par≠emp→rowL par.data.toList=true:=fun hn=>nm_row (hp.resolve_left hn)
  have hpw:(32:UInt8)∉(if par=emp then [45] else par.data.toList):=by
   split
   ·decide
   ·next hn=>exact nm32 (hp.resolve_left hn)
  have hw:wdF [] zBj 3 (joi 32 [zBj,nm.data.toList,if par=emp then [45] else par.data.toList]::(l.map rgW++R))=some [zBj,nm.data.toList,if par=emp then [45] else par.data.toList]:=wd_at (pre:=[]) [nm.data.toList,if par=emp then [45] else par.data.toList] rfl (.cons zc (.cons (nm32 ha) (.cons hpw .nil)))
  show zAO (joi 32 [zBj,nm.data.toList,if par=emp then [45] else par.data.toList]::(l.map rgW++R))=_
  unfold zAO;rw [hw];simp only
  by_cases he:par=emp
  ·subst he
   rw [aE rfl,aE ⟨nm_row ha,.inr rfl⟩,ih,zBn,aE rfl]
  ·have h45:¬ par.data.toList=[45]:=fun e=>by
    have:=hne he;rw [e] at this;exact absurd this zc
   rw [aC he,aE ⟨nm_row ha,.inl (hne he)⟩,ih,zBn,aC h45,zBn]
end
theorem ok_bind {ε α β:Type} (a:α) (f:α→Except ε β):((Except.ok a:Except ε α) >>= f)=f a:=rfl
section
variable {first f2:Ln} {R:List Ln} {ws:List Ln} {d:De}
theorem Nx.opt {b:Bool} (hb:b=true→NoB (f2::ws)) (hf:f2≠first) (h:Nx first R):Nx first (optL b [lnW (f2::ws)]++R):=by
 cases b with
 | false=>exact h
 | true=>exact Nx.ln (hb rfl) hf
theorem Nx.ars (h1:kIn≠first) (h2:zCV≠first) (h:Nx first R):∀ {l:List Ar},(∀ a∈l,zAC a.rg=true)→Nx first (l.map arW++R)
 | [],_=>h
 | a::l,ha=>by
  have hn:=ha a aK;obtain ⟨rg,out⟩:=a
  cases out with
  | false=>exact Nx.ln (f2:=kIn) (.cons zc (.cons (nm32 hn) .nil)) h1
  | true=>exact Nx.ln (f2:=zCV) (.cons zc (.cons (nm32 hn) .nil)) h2
theorem Nx.uss (h1:kFor≠first) (h:Nx first R):∀ {l:List BA},(∀ a∈l,zAC a=true)→Nx first (l.map usW++R)
 | [],_=>h
 | a::l,ha=>Nx.ln (.cons zc (.cons (nm32 (ha a aK)) .nil)) h1
theorem optX_wr {α:Type} {b:Bool} {dv v:α} {f:List Ln→Rdr α} {l:Ln} (hf:b=true→f (l::R) = .ok (v,R)) (hv:b=false→v=dv):optX b dv f (optL b [l]++R) = .ok (v,R):=by
 cases b with
 | false=>rw [hv rfl];rfl
 | true=>exact hf rfl
theorem pairX_wr {α:Type} {b:Bool} {dv v:α} {f:List Ln→α×List Ln} {M:List Ln} (hf:b=true→f M=(v,R)) (hv:b=false→v=dv∧M=R):zAG b dv f M=(v,R):=by
 cases b with
 | false=>obtain ⟨h1,h2⟩:=hv rfl;rw [h1,h2];rfl
 | true=>exact hf rfl
theorem if_t {b:Bool} {p q:Prop} (h:if b=true then p else q) (hb:b=true):p:=by rwa [aE hb] at h
theorem if_f {b:Bool} {p q:Prop} (h:if b=true then p else q) (hb:b=false):q:=by rwa [aC (by rw [hb];simp)] at h
def dTl (d:De):List Ln :=
 optL (zAd d.kd || decide (d.kd=1)) [lnW [zBq,d.th.data.toList]]++(optL (zAd d.kd || decide (d.kd=5)) [lnW [zCo,d.fr.data.toList]]++(optL (zAd d.kd) [lnW [kTo,d.to_.data.toList]]
  ++(optL (decide (d.kd=2)) [lnW [zCR,d.nu.data.toList++47::d.de.data.toList]]++(optL d.ex [lnW [zCw]]++(optL d.sb [lnW [kSub]]++(d.ar.map arW++(d.us.map usW
  ++([lnW [zAU,(zBc d.bg).data.toList]]++(optL (zAd d.kd) [lnW [kEnd,(zBc d.en).data.toList]]++(d.sh.map shW++optL (decide (d.kd=4)) [lnW [kEnds,d.ot.data.toList]]))))))))))
theorem dLn_tl (d:De):dLn d=hdW d::dTl d:=by unfold dLn dTl;simp only [bT,aL,List.nil_append]
theorem bodyX_wr (h:WrD d) (hR:∀ first,Nx first R):bodyX d.id d.day d.kd (dTl d++R) = .ok (zAI d,R):=by
 have pt:decide (d.kd=2)=true→ratF d.nu d.de=0:=fun hb=>by have:=h.pt;rwa [aE qu] at this
 have pt0:decide (d.kd=2)=false→(d.nu,d.de)=(emp,emp):=fun hb=>by have:=h.pt;rw [aC qu] at this;rw [this.1,this.2]
 have ot:decide (d.kd=4)=true→zAC d.ot=true:=fun hb=>by have:=h.ot;rwa [aE qu] at this
 have ot0:decide (d.kd=4)=false→d.ot=emp:=fun hb=>by have:=h.ot;rwa [aC qu] at this
 obtain ⟨M11,hM11⟩:∃ M,M=optL (decide (d.kd=4)) [lnW [kEnds,d.ot.data.toList]]++R:=⟨_,rfl⟩;obtain ⟨M10,hM10⟩:∃ M,M=d.sh.map shW++M11:=⟨_,rfl⟩;obtain ⟨M9,hM9⟩:∃ M,M=optL (zAd d.kd) [lnW [kEnd,(zBc d.en).data.toList]]++M10:=⟨_,rfl⟩;obtain ⟨M8,hM8⟩:∃ M,M=lnW [zAU,(zBc d.bg).data.toList]::M9:=⟨_,rfl⟩;obtain ⟨M7,hM7⟩:∃ M,M=d.us.map usW++M8:=⟨_,rfl⟩;obtain ⟨M6,hM6⟩:∃ M,M=d.ar.map arW++M7:=⟨_,rfl⟩;obtain ⟨M5,hM5⟩:∃ M,M=optL d.sb [lnW [kSub]]++M6:=⟨_,rfl⟩;obtain ⟨M4,hM4⟩:∃ M,M=optL d.ex [lnW [zCw]]++M5:=⟨_,rfl⟩;obtain ⟨M3,hM3⟩:∃ M,M=optL (decide (d.kd=2)) [lnW [zCR,d.nu.data.toList++47::d.de.data.toList]]++M4:=⟨_,rfl⟩;obtain ⟨M2,hM2⟩:∃ M,M=optL (zAd d.kd) [lnW [kTo,d.to_.data.toList]]++M3:=⟨_,rfl⟩;obtain ⟨M1,hM1⟩:∃ M,M=optL (zAd d.kd || decide (d.kd=5)) [lnW [zCo,d.fr.data.toList]]++M2:=⟨_,rfl⟩
 have n11:Nx zBR M11:=by rw [hM11];exact Nx.opt (fun hb=>.cons zc (.cons (nm32 (ot hb)) .nil)) zc (hR _)
 have n8:∀ f,zAU≠f→Nx f M8:=fun f hf=>by rw [hM8];exact Nx.ln (.cons zc (.cons (it32 h.bg.1) .nil)) hf
 have n7:∀ f,zAU≠f→kFor≠f→Nx f M7:=fun f h1 h2=>by rw [hM7];exact Nx.uss h2 (n8 f h1) h.us
 have n6:∀ f,zAU≠f→kFor≠f→kIn≠f→zCV≠f→Nx f M6:=fun f h1 h2 h3 h4=>by rw [hM6];exact Nx.ars h3 h4 (n7 f h1 h2) h.ar
 have n5:∀ f,zAU≠f→kFor≠f→kIn≠f→zCV≠f→kSub≠f→Nx f M5:=fun f h1 h2 h3 h4 h5=>by rw [hM5];exact Nx.opt (fun _=>.cons zc .nil) h5 (n6 f h1 h2 h3 h4)
 have e1:optX (zAd d.kd || decide (d.kd=1)) emp (zBO zBq) (optL (zAd d.kd || decide (d.kd=1)) [lnW [zBq,d.th.data.toList]]++M1) = .ok (d.th,M1):=optX_wr (fun hb=>nameX_wr zc (if_t h.th hb)) (fun hb=>if_f h.th hb)
 have e2:optX (zAd d.kd || decide (d.kd=5)) emp (zBO zCo) M1 = .ok (d.fr,M2):=by rw [hM1];exact optX_wr (fun hb=>nameX_wr zc (if_t h.fr hb)) (fun hb=>if_f h.fr hb)
 have e3:optX (zAd d.kd) emp (zBO kTo) M2 = .ok (d.to_,M3):=by rw [hM2];exact optX_wr (fun hb=>nameX_wr zc (if_t h.to_ hb)) (fun hb=>if_f h.to_ hb)
 have e4:optX (decide (d.kd=2)) (emp,emp) partX M3 = .ok ((d.nu,d.de),M4):=by rw [hM3];exact optX_wr (fun hb=>partX_wr (pt hb)) pt0
 have e5:zAG (decide (d.kd=3)) false (zBD zCw) M4=(d.ex,M5):=by
  rw [hM4];refine pairX_wr (fun _=>flagX_wr zc (n5 _ zc zc zc zc zc)) fun hb=>?_
  have:=(h.ex qu).1;rw [this];exact ⟨rfl,rfl⟩
 have e6:zAG (decide (d.kd=3)) false (zBD kSub) M5=(d.sb,M6):=by
  rw [hM5];refine pairX_wr (fun _=>flagX_wr zc (n6 _ zc zc zc zc)) fun hb=>?_
  have:=(h.ex qu).2;rw [this];exact ⟨rfl,rfl⟩
 have e7:zAG (zAd d.kd) [] zAM M6=(d.ar,M7):=by
  rw [hM6];refine pairX_wr (fun _=>areasX_wr h.ar (n7 _ zc zc) (n7 _ zc zc)) fun hb=>?_
  rw [(h.pl hb).1];exact ⟨rfl,rfl⟩
 have e8:zAG (zAd d.kd) [] (zAJ sp2 kFor) M7=(d.us,M8):=by
  rw [hM7];refine pairX_wr (fun _=>usesX_wr zc h.us (n8 _ zc 2)) fun hb=>?_
  rw [(h.pl hb).2.1];exact ⟨rfl,rfl⟩
 have e9:numX zAU M8 = .ok (d.bg,M9):=by rw [hM8];exact numX_wr zc h.bg.1 h.bg.2
 have e10:optX (zAd d.kd) 0 (numX kEnd) M9 = .ok (d.en,M10):=by rw [hM9];exact optX_wr (fun _=>numX_wr zc h.en.1 h.en.2) (fun hb=>(h.pl hb).2.2)
 have e11:zAG (divB d.kd) [] zAy M10=(d.sh,M11):=by
  rw [hM10];refine pairX_wr (fun _=>sharesX_wr h.sh n11) fun hb=>?_
  rw [h.dv hb];exact ⟨rfl,rfl⟩
 have e12:optX (decide (d.kd=4)) emp (zBO kEnds) M11 = .ok (d.ot,R):=by rw [hM11];exact optX_wr (fun hb=>nameX_wr zc (ot hb)) ot0
 have e0:dTl d++R=optL (zAd d.kd || decide (d.kd=1)) [lnW [zBq,d.th.data.toList]]++M1:=by
  rw [hM1,hM2,hM3,hM4,hM5,hM6,hM7,hM8,hM9,hM10,hM11];unfold dTl;simp only [bT,aL,List.nil_append]
 rw [e0];unfold bodyX;rw [e1,ok_bind];simp only;rw [e2,ok_bind];simp only;rw [e3,ok_bind];simp only;rw [e4,ok_bind];simp only [e5,e6,e7,e8];rw [e9,ok_bind];simp only;rw [e10,ok_bind];simp only [e11];rw [e12,ok_bind]
 rfl
theorem kdX_wr {k:Int} (h:1≤k∧k≤5):kdX (kdS k).data.toList=k∧(32:UInt8)∉(kdS k).data.toList∧(10:UInt8)∉(kdS k).data.toList:=by
 have:k=1∨k=2∨k=3∨k=4∨k=5:=za
 rcases this with rfl | rfl | rfl | rfl | rfl<;>decide
theorem deedX_wr (h:WrD d) (hR:∀ first,Nx first R):zCt (dLn d++R) = .ok (zAI d,R):=by
 obtain ⟨k1,k2,_⟩:=kdX_wr h.kd
 have hw:wdF [] kDeed 4 (hdW d::(dTl d++R))=some [kDeed,d.id.data.toList,(zBc d.day).data.toList,(kdS d.kd).data.toList] :=
  wd_at (pre:=[]) [d.id.data.toList,(zBc d.day).data.toList,(kdS d.kd).data.toList] rfl (.cons zc (.cons (nm32 h.id) (.cons (it32 h.day.1) (.cons k2 .nil))))
 rw [dLn_tl,aL];unfold zCt;rw [hw];simp only;rw [numS_wr h.day.1 h.day.2];simp only [List.tail_cons];rw [k1,aE ⟨nm_row h.id,by have:=h.kd;omega⟩,zBn,Int.toNat_of_nonneg h.day.1]
 exact bodyX_wr h hR
theorem deedsX_wr:∀ {ds:List De},(∀ d∈ds,WrD d)→∀ f,ds.length≤f→zCa f (ds.map dLn).flatten = .ok (ds.map zAI)
 | [],_,f,_=>by
  cases f with
  | zero=>rfl
  | succ f=>rfl
 | d::ds,h,f,hf=>by
  cases f with
  | zero=>simp at hf
  | succ f =>
   have ih:=deedsX_wr (ds:=ds) (fun x hx=>h x (aJ _ hx)) f (by simpa using hf)
   have hR:∀ first,Nx first (ds.map dLn).flatten:=fun first=>by
    cases ds with
    | nil=>exact Nx.nil
    | cons e es=>rw [dD,List.flatten_cons,dLn_tl,aL];exact Nx.deed
   have hd:=deedX_wr (h d aK) hR;rw [dD,List.flatten_cons];unfold zCa;rw [aC (by rw [dLn_tl];simp),hd]
   simp only;rw [ih];rfl
end
theorem joi_no {c:UInt8} (hc:c≠32):∀ {ws:List Ln},(∀ w∈ws,c∉w)→c∉joi 32 ws
 | [],_=>by simp [joi]
 | [a],h=>h a aK
 | a::b::l,h=>by
  rw [zCL zg];intro hm
  rcases List.mem_append.1 hm with hm | hm
  ·exact h a aK hm
  ·rcases List.mem_cons.1 hm with e | hm
   ·exact hc e
   ·exact joi_no hc (ws:=b::l) (fun w hw=>h w (aJ _ hw)) hm
def No10 (l:Ln):Prop:=(10:UInt8)∉l
theorem No10.ln {ws:List Ln} (h:∀ w∈ws,No10 w):No10 (lnW ws):=fun hm=>by
 rcases List.mem_append.1 hm with hm | hm
 ·exact absurd hm zc
 ·exact joi_no zc h hm
theorem nm10 {s:BA} (h:zAC s=true):No10 s.data.toList:=ok_no (nm_all h) zc
theorem it10 {n:Int} (h:0≤n):No10 (zBc n).data.toList:=dg_no (itoa_all h) zc
theorem two10 {a b:Ln} (ha:No10 a) (hb:No10 b):∀ w∈[a,b],No10 w:=fun w hw=>by
 rcases List.mem_cons.1 hw with rfl | hw
 ·exact ha
 ·rw [List.mem_singleton.1 hw];exact hb
theorem opt10 {b:Bool} {l:Ln} (h:b=true→No10 l):∀ p∈optL b [l],No10 p:=fun p hp=>by
 cases b with
 | false=>cases hp
 | true=>rw [List.mem_singleton.1 hp];exact h rfl
theorem dLn_no {d:De} (h:WrD d):∀ p∈dLn d,No10 p:=by
 have pt:decide (d.kd=2)=true→ratF d.nu d.de=0:=fun hb=>by have:=h.pt;rwa [aE qu] at this
 have ot:decide (d.kd=4)=true→zAC d.ot=true:=fun hb=>by have:=h.ot;rwa [aE qu] at this
 obtain ⟨_,_,k3⟩:=kdX_wr h.kd;intro p hp;rw [dLn_tl] at hp;unfold dTl at hp;simp only [List.mem_cons,List.mem_append,dR,or_false] at hp
 rcases hp with hp | hp | hp | hp | hp | hp | hp | hp | hp | hp | hp | hp | hp
 ·subst hp
  unfold hdW;refine joi_no zc fun w hw=>?_
  simp only [List.mem_cons,dR,or_false] at hw
  rcases hw with rfl | rfl | rfl | rfl
  ·decide
  ·exact nm10 h.id
  ·exact it10 h.day.1
  ·exact k3
 ·exact opt10 (fun hb=>No10.ln (two10 yh (nm10 (if_t h.th hb)))) p hp
 ·exact opt10 (fun hb=>No10.ln (two10 yh (nm10 (if_t h.fr hb)))) p hp
 ·exact opt10 (fun hb=>No10.ln (two10 yh (nm10 (if_t h.to_ hb)))) p hp
 ·exact opt10 (fun hb=>No10.ln (two10 yh (rat_c (pt hb) zc zc zc))) p hp
 ·exact opt10 (fun _=>yh) p hp
 ·exact opt10 (fun _=>yh) p hp
 ·obtain ⟨a,ha,rfl⟩:=List.mem_map.1 hp
  have hn:=h.ar a ha;obtain ⟨rg,out⟩:=a
  cases out with
  | false=>exact No10.ln (two10 (a:=kIn) yh (nm10 hn))
  | true=>exact No10.ln (two10 (a:=zCV) yh (nm10 hn))
 ·obtain ⟨a,ha,rfl⟩:=List.mem_map.1 hp
  exact No10.ln (two10 yh (nm10 (h.us a ha)))
 ·subst hp
  exact No10.ln (two10 yh (it10 h.bg.1))
 ·exact opt10 (fun _=>No10.ln (two10 yh (it10 h.en.1))) p hp
 ·obtain ⟨s,hs,rfl⟩:=List.mem_map.1 hp
  obtain ⟨a1,a2⟩:=h.sh s hs;refine No10.ln fun w hw=>?_
  simp only [List.mem_cons,dR,or_false] at hw
  rcases hw with rfl | rfl | rfl
  ·unfold No10;decide
  ·exact nm10 a1
  ·exact rat_c a2 zc zc zc
 ·exact opt10 (fun hb=>No10.ln (two10 yh (nm10 (ot hb)))) p hp
theorem tLn_no {rs:List Rg} {us:List BA} {ds:List De} (h1:∀ r∈rs,zAC r.nm=true∧(r.par=emp∨zAC r.par=true)) (h2:∀ u∈us,zAC u=true) (h3:∀ d∈ds,WrD d):∀ p∈tLn rs us ds,(10:UInt8)∉p:=fun p hp=>by
 unfold tLn at hp;rw [List.mem_append,List.mem_append] at hp
 rcases hp with (hp | hp) | hp
 ·obtain ⟨r,hr,rfl⟩:=List.mem_map.1 hp
  obtain ⟨a1,a2⟩:=h1 r hr;unfold rgW;refine joi_no zc fun w hw=>?_
  simp only [List.mem_cons,dR,or_false] at hw
  rcases hw with rfl | rfl | rfl
  ·decide
  ·exact nm10 a1
  ·split
   ·decide
   ·next hn=>exact nm10 (a2.resolve_left hn)
 ·obtain ⟨u,hu,rfl⟩:=List.mem_map.1 hp
  exact joi_no zc (two10 yh (nm10 (h2 u hu)))
 ·obtain ⟨l,hl,hpl⟩:=List.mem_flatten.1 hp
  obtain ⟨d,hd,rfl⟩:=List.mem_map.1 hl;exact dLn_no (h3 d hd) p hpl
theorem readF_wr {rs:List Rg} {us:List BA} {ds:List De} (h:zDh rs us ds=0) (hl:(txtL rs us ds).length≤500000):readF (txtL rs us ds)=((rs,us,ds.map zAI),0,0):=by
 obtain ⟨h1,h2,h3⟩:=chkT_wr h;have hs:spl 10 (txtL rs us ds)=tLn rs us ds++[[]]:=by rw [txtL_unl];exact spl_unl (tLn_no h1 h2 h3)
 have hD:∀ m,wdF [] zCH m (ds.map dLn).flatten=none∧wdF [] zBj m (ds.map dLn).flatten=none:=fun m=>by
  cases ds with
  | nil=>exact ⟨rfl,rfl⟩
  | cons d ds =>
   have hw:=h3 d aK;rw [dD,List.flatten_cons,dLn_tl,aL];have hb:NoB [kDeed,d.id.data.toList,(zBc d.day).data.toList,(kdS d.kd).data.toList]:=.cons zc (.cons (nm32 hw.id) (.cons (it32 hw.day.1) (.cons (kdX_wr hw.kd).2.1 .nil)))
   have key:∀ f,f≠kDeed→wdF [] f m (hdW d::(dTl d++(ds.map dLn).flatten))=none:=fun f hf=>by
    have:=wdF_line (pre:=[]) (first:=f) (many:=m) (r:=dTl d++(ds.map dLn).flatten) (w:=[kDeed,d.id.data.toList,(zBc d.day).data.toList,(kdS d.kd).data.toList]) zg hb
    rw [List.nil_append,aC (by rintro ⟨e,_⟩;exact hf (by simpa using e.symm))] at this
    exact this
   exact ⟨key _ zc,key _ zc⟩
 have hU:wdF [] zBj 3 (us.map uW++(ds.map dLn).flatten)=none:=by
  cases us with
  | nil=>exact (hD 3).2
  | cons u us =>
   have hb:NoB [zCH,u.data.toList]:=.cons zc (.cons (nm32 (h2 u aK)) .nil);have:=wdF_line (pre:=[]) (first:=zBj) (many:=3) (r:=us.map uW++(ds.map dLn).flatten) (w:=[zCH,u.data.toList]) zg hb
   rw [List.nil_append,aC (by rintro ⟨e,_⟩;exact absurd e zg)] at this
   exact this
 have e1:zAO (tLn rs us ds)=(rs,us.map uW++(ds.map dLn).flatten):=by
  unfold tLn;rw [bT];exact regsX_wr h1 hU
 have e2:zAJ [] zCH (us.map uW++(ds.map dLn).flatten)=(us,(ds.map dLn).flatten):=usesX_wr (pre:=[]) zc h2 (hD 2).1
 have hlen:ds.length≤(ds.map dLn).flatten.length:=by
  clear hs hD hU e1 e2 hl h h3
  induction ds with
  | nil=>simp
  | cons d ds ih =>
   have:=dLn_pos d;rw [dD,List.flatten_cons,cS,aM];omega
 have e3:=deedsX_wr h3 _ hlen;unfold readF;rw [aC za,hs,List.dropLast_concat,e1];simp only;rw [e2];simp only;rw [e3];simp only;rw [aC zg,aC (by rw [chkT_plain,h];simp)]
open Go.RowKit Dw
abbrev encV:Value→List Value:=fun v=>[v]
theorem elSets:ElemT Tryz.prog 113 117 (.slice none 0 0) 1 24:=⟨Tryz.underlying113,zb,rfl,zc⟩
def SlA (w:World) (B:Option Addr) (aa:List (List Ar)):Prop :=
 ∃ b o:Nat,B=some ⟨b,o,none⟩∧b<w.heap.size∧∀ i (h:i<aa.length),∃ Ai ci,w.cell? ⟨b,o+i,none⟩=some (.slice Ai (aa[i]).length ci)∧Ars w Ai aa[i]
theorem SlA.below {w w':World} {B:Option Addr} {aa:List (List Ar)} (h:SlA w B aa) (hb:Below w.heap.size w w'):SlA w' B aa:=by
 obtain ⟨b,o,rfl,hlt,hc⟩:=h;refine ⟨b,o,rfl,cP hlt hb.size,fun i hi=>?_⟩
 obtain ⟨Ai,ci,h1,h2⟩:=hc i hi;exact ⟨Ai,ci,(hb.cell hlt).trans h1,h2.below hb⟩
def SetsOf (w:World) (l:List Rg) (aa:List (List Ar)) (vs:List Value):Prop :=
 ∀ (i:Nat) (v:Value),vs[i]?=some v→∃ a,aa[i]?=some a∧∃ gi ci,v = .slice (some ⟨gi,0,none⟩) (inL l a).length ci∧w.heap[gi]?=some (.cells (bArr (inL l a) (inL l a).length) 4 (0,0))
theorem SetsOf.keep {w w':World} {l:List Rg} {aa:List (List Ar)} {vs:List Value} (h:SetsOf w l aa vs) (hk:∀ (g:Nat) (cs:Array Value),w.heap[g]?=some (.cells cs 4 (0,0))→w'.heap[g]?=w.heap[g]?):SetsOf w' l aa vs:=fun i v hv=>by
 obtain ⟨a,ha,gi,ci,h1,h2⟩:=h i v hv;exact ⟨a,ha,gi,ci,h1,(hk _ _ h2).trans h2⟩
theorem SetsOf.below {w w':World} {l:List Rg} {aa:List (List Ar)} {vs:List Value} (h:SetsOf w l aa vs) (hb:Below w.heap.size w w'):SetsOf w' l aa vs :=
 h.keep fun _ _ hg=>hb.block _ (zAg hg)
theorem SetsOf.push {w:World} {l:List Rg} {aa:List (List Ar)} {vs:List Value} (h:SetsOf w l aa vs) {a:List Ar} {gi ci:Nat} (ha:aa[vs.length]?=some a) (hg:w.heap[gi]?=some (.cells (bArr (inL l a) (inL l a).length) 4 (0,0))) :
  SetsOf w l aa (vs++[.slice (some ⟨gi,0,none⟩) (inL l a).length ci]):=fun i v hv=>by
 rcases Nat.lt_trichotomy i vs.length with h1 | h1 | h1
 ·rw [List.getElem?_append_left h1] at hv
  exact h i v hv
 ·subst h1
  simp at hv
  exact ⟨a,ha,gi,ci,hv.symm,hg⟩
 ·rw [List.getElem?_append_right za,List.getElem?_eq_none zj] at hv
  cases hv
theorem six_cells {w:World} {s:Nat} {a0 a1 a2 a3 a4 a5:Value} {T:TypeId} (h:w.heap[s]?=some (.cells #[a0,a1,a2,a3,a4,a5] T (0,0))) :
  w.cell? ⟨s,0,none⟩=some a0∧w.cell? ⟨s,1,none⟩=some a1∧w.cell? ⟨s,2,none⟩=some a2∧w.cell? ⟨s,3,none⟩=some a3∧w.cell? ⟨s,4,none⟩=some a4∧w.cell? ⟨s,5,none⟩=some a5 :=
 ⟨by rw [bM w _ 0 _ _ _ h];rfl,by rw [bM w _ 1 _ _ _ h];rfl,by rw [bM w _ 2 _ _ _ h];rfl,by rw [bM w _ 3 _ _ _ h];rfl,by rw [bM w _ 4 _ _ _ h];rfl,by rw [bM w _ 5 _ _ _ h];rfl⟩
theorem six_free {w:World} {s:Nat} {cs:Array Value} {T:TypeId} (h:w.heap[s]?=some (.cells cs T (0,0))) :
  w.frozen? ⟨s,0,none⟩=false∧w.frozen? ⟨s,1,none⟩=false∧w.frozen? ⟨s,2,none⟩=false∧w.frozen? ⟨s,3,none⟩=false∧w.frozen? ⟨s,4,none⟩=false∧w.frozen? ⟨s,5,none⟩=false :=
 ⟨bU w _ 0 _ _ h,bU w _ 1 _ _ h,bU w _ 2 _ _ h,bU w _ 3 _ _ h,bU w _ 4 _ _ h,bU w _ 5 _ _ h⟩
theorem below6 {B:Nat} {w w':World} {s:Nat} (h:Below B w w') (hs:B≤s) (b0 b1 b2 b3 b4 b5:Value):Below B w ((((((w'.setCell ⟨s,0,none⟩ b0).setCell ⟨s,1,none⟩ b1).setCell ⟨s,2,none⟩ b2).setCell ⟨s,3,none⟩ b3).setCell ⟨s,4,none⟩ b4).setCell ⟨s,5,none⟩ b5) :=
 (((((h.setCell (p:=⟨s,0,none⟩) hs _).setCell (p:=⟨s,1,none⟩) hs _).setCell (p:=⟨s,2,none⟩) hs _).setCell (p:=⟨s,3,none⟩) hs _).setCell (p:=⟨s,4,none⟩) hs _).setCell (p:=⟨s,5,none⟩) hs _
theorem z6 {j:Nat} {v:Value} (h:(#[zAj,.map none,zAj,.map none,zAj,zAj]:Array Value)[j]?=some v):v=zAj∨v = .map none:=by
 match j,h with
 | 0,h=>simp at h;exact .inl h.symm
 | 1,h=>simp at h;exact .inr h.symm
 | 2,h=>simp at h;exact .inl h.symm
 | 3,h=>simp at h;exact .inr h.symm
 | 4,h=>simp at h;exact .inl h.symm
 | 5,h=>simp at h;exact .inl h.symm
 | j+6,h=>rw [Array.getElem?_eq_none zg] at h;cases h
theorem rd1_set0 {α:Type} {f:α→Value} {w w':World} {A:Option Addr} {L:List α} {s:Nat} {T:TypeId} (h:Rd1 f w A L) (hs:w.heap[s]?=some (.cells #[zAj,.map none,zAj,.map none,zAj,zAj] T (0,0))) (hk:∀ x,x≠s→w'.heap[x]?=w.heap[x]?) (hf:∀ x,f x≠zAj∧f x≠.map none):Rd1 f w' A L:=fun hl=>by
 obtain ⟨b,o,rfl,hc⟩:=h hl;refine ⟨b,o,rfl,fun i hi=>?_⟩
 have hne:b≠s:=fun e=>by
  subst e;have:=hc i hi;rw [bM w b _ _ _ _ hs] at this
  rcases z6 this with h1 | h1
  ·exact (hf _).1 h1
  ·exact (hf _).2 h1
 rw [World.cell?_of_block (hk _ hne)];exact hc i hi
theorem rd2_set0 {α:Type} {f f2:α→Value} {w w':World} {A:Option Addr} {L:List α} {s:Nat} {T:TypeId} (h:Rd2 f f2 w A L) (hs:w.heap[s]?=some (.cells #[zAj,.map none,zAj,.map none,zAj,zAj] T (0,0))) (hk:∀ x,x≠s→w'.heap[x]?=w.heap[x]?) (hf:∀ x,f x≠zAj∧f x≠.map none):Rd2 f f2 w' A L:=fun hl=>by
 obtain ⟨b,o,rfl,hc⟩:=h hl;refine ⟨b,o,rfl,fun i hi=>?_⟩
 have hne:b≠s:=fun e=>by
  subst e;have:=(hc i hi).1;rw [bM w b _ _ _ _ hs] at this
  rcases z6 this with h1 | h1
  ·exact (hf _).1 h1
  ·exact (hf _).2 h1
 rw [World.cell?_of_block (hk _ hne),World.cell?_of_block (hk _ hne)];exact hc i hi
theorem WR.set0 {w w':World} {A:Option Addr} {r1 r2 g1 g2:Nat} {AL:Option Addr} {l:List Rg} {s:Nat} (h:WR w A r1 r2 g1 g2 AL l) (hs:w.heap[s]?=some (.cells #[zAj,.map none,zAj,.map none,zAj,zAj] 97 (0,0))) (hk:∀ x,x≠s→w'.heap[x]?=w.heap[x]?) (hsz:w.heap.size≤w'.heap.size):WR w' A r1 r2 g1 g2 AL l:=by
 obtain ⟨cs,hcs⟩:=h.h3;have hg2:g2≠s:=zAP hcs hs zc;refine ⟨rd2_set0 h.rg hs hk (fun x=>zg),h.m1.keep (hk _ (zAi h.m1 hs).symm),rd1_set0 h.lv hs hk (fun x=>zg),h.m2.keep (hk _ (zAi h.m2 hs).symm),fun i hi=>?_,fun i hi=>?_,cP h.h1 hsz,cP h.h2 hsz,cs,(hk _ hg2).trans hcs⟩
 ·have hne:g1≠s:=fun e=>by
   subst e;have:=h.up i hi;rw [bM w g1 _ _ _ _ hs] at this
   rcases z6 this with h1 | h1<;>simp at h1
  rw [World.cell?_of_block (hk _ hne)];exact h.up i hi
 ·obtain ⟨Ai,ci,h1,h2⟩:=h.bl i hi
  exact ⟨Ai,ci,by rw [World.cell?_of_block (hk _ hg2)];exact h1,rd1_set0 h2 hs hk (fun x=>zg)⟩
theorem size6 (w:World) (s:Nat) (b0 b1 b2 b3 b4 b5:Value):w.heap.size≤((((((w.setCell ⟨s,0,none⟩ b0).setCell ⟨s,1,none⟩ b1).setCell ⟨s,2,none⟩ b2).setCell ⟨s,3,none⟩ b3).setCell ⟨s,4,none⟩ b4).setCell ⟨s,5,none⟩ b5).heap.size:=zg
theorem own_rd {w w':World} {base n c:Nat} {T:TypeId} {O:Option Addr} {vs:List Value} (h:zAN encV 1 w base T (.slice O n c) vs) (hk:∀ g,base≤g→w'.heap[g]?=w.heap[g]?):Rd1 id w' O vs:=by
 obtain ⟨O',c',e,hr⟩:=(own_keepB h fun g h1 _=>hk g h1).rd1
 injection e with e1
 subst e1;exact hr
def zw:Value:=.agg #[zAj,.map none,zAj,.map none,zAj,zAj]
def areasF (l:List Rg) (aa:List (List Ar)):Int:=if chkR l≠0 then chkR l else ((aa.map (chkA l)).find? fun f=>decide (f≠0)).getD 0
def GivesAs (A:Option Addr) (c:Nat) (l:List Rg) (aa:List (List Ar)) (w:World) (e:Ending) (w':World):Prop :=
 Below w.heap.size w w'∧((areasF l aa≠0∧e = .returned (.tuple #[zw,zAj,.int .i64 (areasF l aa)])) ∨
  (chkR l=0∧(∀ i (h:i<aa.length),chkA l aa[i]=0)∧∃ r1 r2 g1 g2 AL cL O co vs,e = .returned (.tuple #[wv A c r1 r2 g1 g2 AL cL l,.slice O aa.length co,.int .i64 0])∧WR w' A r1 r2 g1 g2 AL l ∧
   vs.length=aa.length∧Rd1 id w' O vs∧SetsOf w' l aa vs))
def ArRel (W:World) (l:List Rg) (aa:List (List Ar)) (m:Nat) (out i:Value) (wr:World):Prop :=
 ∃ (k:Nat) (vs:List Value),k+m=aa.length∧i = .int .i64 k∧vs.length=k∧(∀ j (h:j<aa.length),j<k→chkA l aa[j]=0)∧zAN encV 1 wr W.heap.size 117 out vs∧SetsOf wr l aa vs∧Below W.heap.size W wr
theorem areasF_R {l:List Rg} {aa:List (List Ar)} (h:chkR l≠0):areasF l aa=chkR l:=by rw [areasF,aE h]
theorem areasF_A {l:List Rg} {aa:List (List Ar)} (h:chkR l=0) {k:Nat} (hk:k<aa.length) (hpre:∀ j (h:j<aa.length),j<k→chkA l aa[j]=0) (hf:chkA l aa[k]≠0):areasF l aa=chkA l aa[k]:=by
 rw [areasF,aC (by simp [h])]
 have:(aa.map (chkA l)).find? (fun f=>decide (f≠0))=some (chkA l aa[k]):=by
  rw [List.find?_eq_some_iff_getElem];refine ⟨by simpa using hf,k,qj,zg,fun j hj=>?_⟩
  simp [hpre j za hj]
 rw [this];rfl
theorem areas_c (A B:Option Addr) (c cb:Nat) (l:List Rg) (aa:List (List Ar)) (w:World) (h:Rgs w A l) (hz:∀ i (h:i<l.length),(l[i]).nm.size≤9223372036854775807) (h2:SlA w B aa) (hn2:aa.length≤2) :
  Calls Tryz.prog 58 #[.slice A l.length c,.slice B aa.length cb] w (GivesAs A c l aa w):=by
 have hwb:Below w.heap.size w (w.alloc (.cells #[zAj,.map none,zAj,.map none,zAj,zAj] 97)):=(bN _ _).alloc (aB _) _;have hblk:=bY w (.cells #[zAj,.map none,zAj,.map none,zAj,zAj] 97);generalize hres:chkR l=res;have HR:=zq hres
 go_enter Tryz.func58,Tryz.ntmps58
 go_wp2_with fail
 refine (CheckRegions_c _ _ _ _ (h.below hwb) hz).mono ?_
 rintro e w1 ⟨rfl,hb1⟩;have hw1:Below w.heap.size w w1:=zAb hwb hb1;have hblk1:w1.heap[w.heap.size]?=some (.cells #[zAj,.map none,zAj,.map none,zAj,zAj] 97 (0,0)):=(hb1.block _ zg).trans hblk;have h1:=h.below hw1;have h21:=h2.below hw1;have HW1:=zq hw1;rw [hres];clear hwb hblk hb1 h h2 hw1
 by_cases hr:res=0
 ·subst hr
  have g:=good_of hres;clear hres
  go_wp2_with fail
  refine (newWorld_c A c l w1 g h1).mono ?_
  rintro e w2 ⟨r1,r2,g1,g2,AL,cL,rfl,hwr2,hb2⟩;unfold wv;have hblk2:w2.heap[w.heap.size]?=some (.cells #[zAj,.map none,zAj,.map none,zAj,zAj] 97 (0,0)):=(hb2.block _ (zAg hblk1)).trans hblk1;have hsl2:=h21.below hb2;have hwb2:Below w.heap.size w w2:=zAb HW1.o hb2;clear hb2 HW1 h1 h21 hblk1;go_wp2;generalize hW:w2.alloc (.cells #[.slice A l.length c,.map (some r1),.slice AL (zBY l (fun i=>!zAH l i) l.length).length cL,.map (some r2),.slice (some ⟨g1,0,none⟩) l.length l.length,.slice (some ⟨g2,0,none⟩) l.length l.length] 97)=W
  have hWr:=bY w2 (.cells #[.slice A l.length c,.map (some r1),.slice AL (zBY l (fun i=>!zAH l i) l.length).length cL,.map (some r2),.slice (some ⟨g1,0,none⟩) l.length l.length,.slice (some ⟨g2,0,none⟩) l.length l.length] 97)
  have hWb:Below w2.heap.size w2 W:=yo;rw [hW] at hWr;have hw2W:w2.heap.size<W.heap.size:=zAg hWr;have hblkW:W.heap[w.heap.size]?=some (.cells #[zAj,.map none,zAj,.map none,zAj,zAj] 97 (0,0)):=(hWb.block _ (zAg hblk2)).trans hblk2;have hwW:w.heap.size<W.heap.size:=zAg hblkW;obtain ⟨s8,hs8⟩:∃ s8,s8=w2.heap.size:=⟨_,rfl⟩;rw [←hs8] at hWr hw2W ⊢;have HWR:=zq (hwr2.below hWb);have HSL:=zq (hsl2.below hWb);have HWb:=zq (hwb2.trans (hWb.mono hwb2.size));have HWr:=zq hWr;have HBk:=zq hblkW;clear hW hWr hWb hblkW hblk2 hwr2 hsl2 hwb2 hs8;clear w1 w2
  go_loopg [9,23] aa.length (ArRel W l aa)
  case atStart=>exact ⟨0,[],za,rfl,rfl,fun j _ hj=>absurd hj za,zAN.nil _ _ _ _ _,fun i v hv=>by simp at hv,bN _ _⟩
  case round =>
   obtain ⟨k,vs,hk,rfl,hvs,hpre,hown,hsets,hbel⟩:=hrel;have HK:=zq hk;have HP:=zq hpre;have HB:=zq hbel;have HV:=zq hvs;have hk1:k≤aa.length:=za;have hs8r:s8<wr.heap.size:=cP hw2W hbel.size;have hwr:w.heap.size<wr.heap.size:=cP hwW hbel.size;have hrow:wr.heap[s8]?=_:=(hbel.block _ hw2W).trans HWr.o;have hs0:wr.cell? ⟨s8,0,none⟩=some (.slice A l.length c):=by rw [bM _ s8 0 _ _ _ hrow];rfl
   have hs1:wr.cell? ⟨s8,1,none⟩=some (.map (some r1)):=by rw [bM _ s8 1 _ _ _ hrow];rfl
   have hs2:wr.cell? ⟨s8,2,none⟩=some (.slice AL (zBY l (fun i=>!zAH l i) l.length).length cL):=by rw [bM _ s8 2 _ _ _ hrow];rfl
   have hs3:wr.cell? ⟨s8,3,none⟩=some (.map (some r2)):=by rw [bM _ s8 3 _ _ _ hrow];rfl
   have hs4:wr.cell? ⟨s8,4,none⟩=some (.slice (some ⟨g1,0,none⟩) l.length l.length):=by rw [bM _ s8 4 _ _ _ hrow];rfl
   have hs5:wr.cell? ⟨s8,5,none⟩=some (.slice (some ⟨g2,0,none⟩) l.length l.length):=by rw [bM _ s8 5 _ _ _ hrow];rfl
   have HRow:=zq hrow;clear hk hpre hbel hvs hrow
   by_cases hlt:k<aa.length
   ·obtain ⟨b,o,rfl,hb,hc⟩:=HSL.o.below HB.o
    obtain ⟨Ai,ci,hci,hai⟩:=hc k hlt;have hwrr:=HWR.o.below HB.o;clear hc;generalize hak:chkA l aa[k]=fk;have HAK:=zq hak
    go_wp2_with fail
    refine (checkArea_c A Ai c r1 r2 g1 g2 AL cL ci l aa[k] wr g hwrr hai).mono ?_
    rintro e w3 ⟨rfl,hb3⟩;rw [hak]
    by_cases hf:fk=0
    ·subst hf
     have ga:=goodA_of hak;have hrow3:w3.heap[s8]?=_:=(hb3.block _ hs8r).trans HRow.o;obtain ⟨hs0',hs1',hs2',hs3',hs4',hs5'⟩:=six_cells hrow3;have hs8':s8<w3.heap.size:=zAg hrow3;have hwr3:=hwrr.below hb3;have hai3:=hai.below hb3;have hown3:=hown.below hb3;have hsets3:=hsets.below hb3;have hbel3:Below W.heap.size W w3:=zAb HB.o hb3;clear hs0 hs1 hs2 hs3 hs4 hs5 hrow3 hb3 hwrr hai hown hsets hak hci hb hwr
     go_wp2_with fail
     refine (in_c A Ai c r1 r2 g1 g2 AL cL ci l aa[k] w3 g ga hwr3 hai3).mono ?_
     rintro e w4 ⟨gi,cgi,rfl,hgi,hb4⟩;have hown4:=hown3.below hb4;have hsets4:=hsets3.below hb4;have hbel4:Below W.heap.size W w4:=zAb hbel3 hb4;have hWle:W.heap.size≤w4.heap.size:=hbel4.size;clear hown3 hsets3 hbel3 hb4 hs0' hs1' hs2' hs3' hs4' hs5' hwr3 hai3 hs8';have hvl:vs.length+1≤2:=by have:=HV.o;omega
     have HSP:=zq (SetsOf.push (ci:=cgi) hsets4 (a:=aa[k]) (gi:=gi) (by rw [HV.o];simp [hlt]) hgi)
     go_wp2_with (at_builtin;refine wpList_push _ _ _ elSets rfl rfl W.heap.size _ vs rfl (hown4.alloc _) w4.heap.size 1 (.slice (some ⟨gi,0,none⟩) (inL l aa[k]).length cgi) rfl (bY _ _) rfl yi yk za zj ?_;intro v5 w5 hown5 hg5 hb5)
     have hkeep:∀ (g:Nat) (cs:Array Value),w4.heap[g]?=some (.cells cs 4 (0,0))→w5.heap[g]?=w4.heap[g]?:=fun g cs hg =>
      (hg5.block _ (zAg (zAV hg)) fun e2=>by
       obtain ⟨_,cs',hcs⟩:=zCp hown4 e2.symm;exact zAP hg hcs zc rfl).trans ((zAV hg).trans hg.symm)
     have HO5:=zq hown5;have HS5:=zq (HSP.o.keep hkeep);have HB5:=zq ((hbel4.alloc hWle _).trans hb5);clear hown4 hsets4 hbel4 hown5 hg5 hb5 hkeep hgi HSP;go_wp2
     go_roundg (gk - 1)
     case measure=>have:=HK.o;omega
     case rel =>
      refine ⟨k+1,_,zk,zx,by simp [HV.o],fun j hj hjk=>?_,HO5.o,HS5.o,HB5.o⟩
      rcases bK j k with h1 | h1
      ·exact HP.o j hj h1
      ·obtain rfl:j=k:=by omega
       exact HAK.o
    ·have hfb:(fk != 0)=true:=by simpa using hf
     have hblk3:w3.heap[w.heap.size]?=_:=(hb3.block _ hwr).trans ((HB.o.block _ hwW).trans HBk.o);obtain ⟨hd0,hd1,hd2,hd3,hd4,hd5⟩:=six_cells hblk3;obtain ⟨hf0,hf1,hf2,hf3,hf4,hf5⟩:=six_free hblk3;have ha:areasF l aa=fk:=by rw [areasF_A HR.o hlt HP.o (by rw [hak];exact hf)];exact hak
     have HA:=zq ha;have HB3:=zq (HWb.o.trans ((zAb HB.o hb3).mono (bD hwW)));clear hblk3 hs0 hs1 hs2 hs3 hs4 hs5 hb3 hwrr hai hown hsets hak hci hb hwr ha;go_wp2;refine cW (v:=.tuple #[zw,zAj,.int .i64 fk]) ?_ rfl ?_
     ·simp [results,Tryz.results58,go_sem,zw,hd0,hd1,hd2,hd3,hd4,hd5]
     ·exact ⟨below6 HB3.o (aB _) _ _ _ _ _ _,.inl ⟨by rw [HA.o];exact hf,by rw [HA.o]⟩⟩
   ·have hke:k=aa.length:=by omega
    have HKE:=zq hke;have hblk3:wr.heap[w.heap.size]?=_:=(HB.o.block _ hwW).trans HBk.o;obtain ⟨hd0,hd1,hd2,hd3,hd4,hd5⟩:=six_cells hblk3;obtain ⟨hf0,hf1,hf2,hf3,hf4,hf5⟩:=six_free hblk3;have HO:=zq hown;have HS:=zq hsets;have HB3:=zq (HWb.o.trans (HB.o.mono (bD hwW)));obtain ⟨O,co,rfl,hrd⟩:=hown.rd1;have HD:=zq hrd;have HBL:=zq hblk3;clear hblk3 hown hsets hke hrd;go_wp2;refine cW (v:=.tuple #[wv A c r1 r2 g1 g2 AL cL l,.slice O aa.length co,.int .i64 0]) ?_ rfl ?_
    ·have e:vs.length=aa.length:=by rw [HV.o,HKE.o]
     simp [results,Tryz.results58,go_sem,wv,hd0,hd1,hd2,hd3,hd4,hd5,e]
    ·refine ⟨below6 HB3.o (aB _) _ _ _ _ _ _,.inr ⟨HR.o,fun i hi=>HP.o i hi (by rw [HKE.o];exact hi),r1,r2,g1,g2,AL,cL,O,co,vs,rfl,?_,by rw [HV.o,HKE.o],?_,?_⟩⟩
     ·exact (HWR.o.below HB.o).set0 HBL.o (setCells6 _ _ _ _ _ _) (size6 _ _ _ _ _ _ _ _)
     ·exact own_rd HO.o fun g hg=>setCells6 _ _ _ _ _ _ _ (Nat.ne_of_gt (cP hwW hg))
     ·exact HS.o.keep fun g cs hg=>setCells6 _ _ _ _ _ _ _ (fun e=>by rw [e,HBL.o] at hg;injection hg with hg;injection hg with _ hg;exact absurd hg zc)
 ·have hrb:(res != 0)=true:=by simpa using hr
  have hd0:w1.cell? ⟨w.heap.size,0,none⟩=some zAj:=by rw [bM w1 _ 0 _ _ _ hblk1];rfl
  have hd1:w1.cell? ⟨w.heap.size,1,none⟩=some (.map none):=by rw [bM w1 _ 1 _ _ _ hblk1];rfl
  have hd2:w1.cell? ⟨w.heap.size,2,none⟩=some zAj:=by rw [bM w1 _ 2 _ _ _ hblk1];rfl
  have hd3:w1.cell? ⟨w.heap.size,3,none⟩=some (.map none):=by rw [bM w1 _ 3 _ _ _ hblk1];rfl
  have hd4:w1.cell? ⟨w.heap.size,4,none⟩=some zAj:=by rw [bM w1 _ 4 _ _ _ hblk1];rfl
  have hd5:w1.cell? ⟨w.heap.size,5,none⟩=some zAj:=by rw [bM w1 _ 5 _ _ _ hblk1];rfl
  have hf0:=bU w1 _ 0 _ _ hblk1;have hf1:=bU w1 _ 1 _ _ hblk1;have hf2:=bU w1 _ 2 _ _ hblk1;have hf3:=bU w1 _ 3 _ _ hblk1;have hf4:=bU w1 _ 4 _ _ hblk1;have hf5:=bU w1 _ 5 _ _ hblk1;clear hblk1 hres;go_wp2;refine cW (v:=.tuple #[zw,zAj,.int .i64 res]) ?_ rfl ?_
  ·simp [results,Tryz.results58,go_sem,zw,hd0,hd1,hd2,hd3,hd4,hd5]
  ·have ha:areasF l aa=res:=by rw [areasF_R (by rw [HR.o];exact hr)];exact HR.o
   refine ⟨(((((HW1.o.setCell (p:=⟨w.heap.size,0,none⟩) (aB _) _).setCell (p:=⟨w.heap.size,1,none⟩) (aB _) _).setCell (p:=⟨w.heap.size,2,none⟩) (aB _) _).setCell (p:=⟨w.heap.size,3,none⟩) (aB _) _).setCell (p:=⟨w.heap.size,4,none⟩) (aB _) _).setCell (p:=⟨w.heap.size,5,none⟩) (aB _) _,.inl ⟨by rw [ha];exact hr,by rw [ha]⟩⟩
def GivesS2 (r:List BA×Int) (w:World) (e:Ending) (w':World):Prop :=
 ∃ A c,e = .returned (.tuple #[.slice A r.1.length c,.int .i64 r.2])∧Strs w' A r.1∧Below w.heap.size w w'
theorem GivesS2.err {r:List BA×Int} {w w':World} {f:Int} (hr:r=([],f)) (hw:Below w.heap.size w w'):GivesS2 r w (.returned (.tuple #[.slice none 0 0,.int .i64 f])) w':=by
 subst hr;exact ⟨none,0,rfl,Rd1.nil,hw⟩
theorem GivesS2.ok {r:List BA×Int} {l:List BA} {w w':World} {f:Int} {A:Option Addr} {c:Nat} (hr:r=(l,f)) (hl:Strs w' A l) (hw:Below w.heap.size w w'):GivesS2 r w (.returned (.tuple #[.slice A l.length c,.int .i64 f])) w':=by
 subst hr;exact ⟨A,c,rfl,hl,hw⟩
theorem areasF_1 (l:List Rg) (a:List Ar):areasF l [a]=if chkR l≠0 then chkR l else chkA l a:=by
 unfold areasF
 by_cases h:chkR l=0
 ·by_cases h2:chkA l a=0
  ·simp [h,h2]
  ·simp [h,h2]
 ·simp [h]
def lvTo (l:List Rg) (a:List Ar) (k:Nat):List BA:=(((zAB l).take k).filter (lies l a)).map (nmAt l)
theorem lvTo_succ {l:List Rg} {a:List Ar} {k:Nat} (h:k<(zAB l).length):lvTo l a (k+1)=lvTo l a k++if lies l a (zAB l)[k] then [nmAt l (zAB l)[k]] else []:=by
 unfold lvTo;rw [bA h,List.filter_append,dC]
 congr 1
 cases hl:lies l a (zAB l)[k]<;>simp [hl]
theorem lvTo_le (l:List Rg) (a:List Ar) (k:Nat):(lvTo l a k).length≤k:=by
 unfold lvTo;rw [cO];refine cM (cV _ _) ?_
 rw [bB];omega
def LvRel (W:World) (l:List Rg) (a:List Ar) (m:Nat) (out i:Value) (wr:World):Prop :=
 ∃ k:Nat,k+m=(zAB l).length∧i = .int .i64 k∧zAN encS 1 wr W.heap.size 9 out (lvTo l a k)∧Below W.heap.size W wr
theorem Leaves_c (A A2:Option Addr) (c c2:Nat) (l:List Rg) (a:List Ar) (w:World) (h:Rgs w A l) (h2:Ars w A2 a) (hz:∀ i (h:i<l.length),(l[i]).nm.size≤9223372036854775807) :
  Calls Tryz.prog 21 #[.slice A l.length c,.slice A2 a.length c2] w (GivesS2 (leavesS l a) w):=by
 have hwb:Below w.heap.size w (w.alloc (.cells #[.slice A2 a.length c2] 44)):=(bN _ _).alloc (aB _) _
 have hsl:SlA (w.alloc (.cells #[.slice A2 a.length c2] 44)) (some ⟨w.heap.size,0,none⟩) [a] :=
  ⟨w.heap.size,0,rfl,zg,fun i hi=>by
   have:i=0:=by simp at hi;omega
   subst this;exact ⟨A2,c2,by rw [bM _ w.heap.size _ _ _ _ (bY _ _)];rfl,h2.below hwb⟩⟩
 generalize hres:leavesS l a=res;have HR:=zq hres;clear hres
 go_enter Tryz.func21,Tryz.ntmps21
 go_wp2_with fail
 refine (areas_c A (some ⟨w.heap.size,0,none⟩) c 1 l [a] _ (h.below hwb) hz hsl zg).mono ?_
 rintro e w1 ⟨hb1,⟨hf,rfl⟩ | ⟨hr,hc,r1,r2,g1,g2,AL,cL,O,co,vs,rfl,hwr,hvl,hrd,hsets⟩⟩
 ·have hw1:Below w.heap.size w w1:=zAb hwb hb1
  have hrs:res=([],areasF l [a]):=by
   rw [←HR.o,leavesS];rw [areasF_1] at hf ⊢
   by_cases hq:chkR l=0
   ·rw [aC (by simp [hq])] at hf
    simp [hq,hf]
   ·simp [hq]
  have HS:=zq hrs;generalize areasF l [a]=f at *;have hfb:(f != 0)=true:=by simpa using hf
  have HB:=zq (hw1.alloc hw1.size (.cells #[zAj,.map none,zAj,.map none,zAj,zAj] 97));clear hrs hf hb1 hw1 hwb hsl h h2;unfold zw;go_wp2;go_ret2
  exact GivesS2.err HS.o HB.o
 ·have hw1:Below w.heap.size w w1:=zAb hwb hb1
  have g:=good_of hr;have hn:=g.len;have ha0:chkA l a=0:=hc 0 zg
  have hrs:res=(zCg l a,0):=by
   rw [←HR.o,leavesS];simp [hr,ha0]
  have HS:=zq hrs;clear hrs hb1 hwb hsl h h2 hc ha0 hr
  obtain ⟨v0,hv0⟩:∃ v0,vs=[v0]:=by
   match vs,hvl with
   | [v0],_=>exact ⟨v0,rfl⟩
  subst hv0;obtain ⟨a',ha',gi,ci,rfl,hgi⟩:=hsets 0 v0 rfl;have:a'=a:=by simpa using ha'.symm
  subst this;obtain ⟨bo,oo,rfl,hbo,hco⟩:=hrd.at_ zg;have hco0:w1.cell? ⟨bo,oo,none⟩=some (.slice (some ⟨gi,0,none⟩) (inL l a').length ci):=hco 0 zg;clear hco hsets hvl ha' hrd;unfold wv;go_wp2;have hgl:(zBY l (fun i=>!zAH l i) l.length).length=(zAB l).length:=by rw [gath_len l a',inL,cO]
  have hil:(zAB l).length≤200:=cM (leafTo_le l l.length) hn;rw [hgl];have HGL:=zq hgl;clear hgl;generalize hW:w1.alloc (.cells #[.slice A l.length c,.map (some r1),.slice AL (zAB l).length cL,.map (some r2),.slice (some ⟨g1,0,none⟩) l.length l.length,.slice (some ⟨g2,0,none⟩) l.length l.length] 97)=W;have hWb:Below w1.heap.size w1 W:=yo;have HLV:=zq (hwr.lv.below hWb);have hgW:gi<W.heap.size:=cP (zAg hgi) hWb.size;have HGI:=zq ((hWb.block _ (zAg hgi)).trans hgi);have hboW:bo<W.heap.size:=cP hbo hWb.size;have hcoW:=(hWb.cell hbo).trans hco0;have HWb:=zq (zAb hw1 hWb);clear hW hWb hwr hgi hbo hco0 hw1;obtain ⟨s6,hs6⟩:∃ s6,s6=w1.heap.size:=⟨_,rfl⟩;rw [←hs6];clear hs6;clear w1;have hinl:(inL l a').length=(zAB l).length:=by rw [inL,cO]
  rw [hinl] at hcoW;have HIN:=zq hinl;clear hinl
  go_loopg [9,26] (zAB l).length (LvRel W l a')
  case atStart=>exact ⟨0,za,rfl,zAN.nil _ _ _ _ _,bN _ _⟩
  case round =>
   obtain ⟨k,hk,rfl,hown,hbel⟩:=hrel;have HK:=zq hk;have hk1:k≤(zAB l).length:=za;clear hk
   by_cases hlt:k<(zAB l).length
   ·have hltG:k<(zBY l (fun i=>!zAH l i) l.length).length:=by rw [HGL.o];exact hlt
    obtain ⟨b,o,rfl,hb,hc⟩:=HLV.o.at_ za;have hyl:=leafIdx_lt hlt
    have hc0:wr.cell? ⟨b,o+k,none⟩=some (.string (nmAt l (zAB l)[k])):=by
     rw [hbel.cell hb,hc k hltG,gath_get l hltG hlt]
    have hbr:b<wr.heap.size:=cP hb hbel.size;have hcor:=(hbel.cell hboW).trans hcoW;have hbor:bo<wr.heap.size:=cP hboW hbel.size;have hgr:gi<wr.heap.size:=cP hgW hbel.size
    have hcs:wr.cell? ⟨gi,k,none⟩=some (.bool (lies l a' (zAB l)[k])):=by
     rw [hbel.cell hgW,bM _ gi k _ _ _ HGI.o,zDg _ _ (by rw [HIN.o];exact hlt)]
     simp [inL,hlt]
    have hle:=lvTo_le l a' k;have hwr:W.heap.size≤wr.heap.size:=hbel.size;have HSU:=zq (lvTo_succ (a:=a') hlt);clear hc;generalize hx:nmAt l (zAB l)[k]=nm at *
    cases hq:lies l a' (zAB l)[k] with
    | false =>
     rw [hq] at hcs;have HQ:=zq hq;have HO:=zq hown;have HB:=zq hbel;clear hq hown hbel hx;go_wp2
     go_roundg (gk - 1)
     case measure=>have:=HK.o;omega
     case rel=>exact ⟨k+1,zk,zx,by rw [HSU.o,HQ.o];simpa using HO.o,HB.o⟩
    | true =>
     rw [hq] at hcs;have HQ:=zq hq;clear hq hx
     go_wp2_with (at_builtin;refine wpList_push _ _ _ elStr rfl rfl W.heap.size _ (lvTo l a' k) rfl (hown.alloc _) wr.heap.size 1 nm rfl (bY _ _) rfl yi yk za zj ?_;intro v1 w2 hown2 hg2 hb2)
     have HO:=zq hown2;have HB:=zq ((hbel.alloc hwr _).trans hb2);clear hown hbel hown2 hg2 hb2;go_wp2
     go_roundg (gk - 1)
     case measure=>have:=HK.o;omega
     case rel=>exact ⟨k+1,zk,zx,by rw [HSU.o,HQ.o];simpa using HO.o,HB.o⟩
   ·have hke:k=(zAB l).length:=by omega
    have e:lvTo l a' k=zCg l a':=by rw [hke,lvTo,bI];rfl
    rw [e] at hown;obtain ⟨A',c',rfl,hrd⟩:=hown.rd1;have HB:=zq (zAb HWb.o hbel);have HD:=zq hrd;clear e hown hrd hbel hke;go_wp2;go_ret2
    exact GivesS2.ok HS.o HD.o HB.o
def sa:BA:=⟨#[97]⟩
theorem leaves_awake:leavesS [⟨sa,emp⟩] [⟨sa,false⟩]=([sa],0):=qt
theorem awake_c (w:World):Calls Tryz.prog 8 #[] w (zAe (.bool true) w):=by
 have hb1:Below w.heap.size w (w.alloc (.cells #[.string ⟨#[97]⟩,.string ⟨#[]⟩] 56)):=(bN _ _).alloc (aB _) _;have hb2:Below w.heap.size w ((w.alloc (.cells #[.string ⟨#[97]⟩,.string ⟨#[]⟩] 56)).alloc (.cells #[.string ⟨#[97]⟩,.bool false] 65)):=hb1.alloc hb1.size _
 have hr:Rgs ((w.alloc (.cells #[.string ⟨#[97]⟩,.string ⟨#[]⟩] 56)).alloc (.cells #[.string ⟨#[97]⟩,.bool false] 65)) (some ⟨w.heap.size,0,none⟩) [⟨sa,emp⟩]:=fun _ =>
  ⟨w.heap.size,0,rfl,fun i hi=>by
   have:i=0:=by simp at hi;omega
   subst this
   constructor
   ·rw [bM _ w.heap.size _ _ _ _ (zAV (bY _ _))];rfl
   ·rw [bM _ w.heap.size _ _ _ _ (zAV (bY _ _))];rfl⟩
 have ha:Ars ((w.alloc (.cells #[.string ⟨#[97]⟩,.string ⟨#[]⟩] 56)).alloc (.cells #[.string ⟨#[97]⟩,.bool false] 65)) (some ⟨w.heap.size+1,0,none⟩) [⟨sa,false⟩]:=fun _ =>
  ⟨w.heap.size+1,0,rfl,fun i hi=>by
   have:i=0:=by simp at hi;omega
   subst this;have hn:=bY (w.alloc (.cells #[.string ⟨#[97]⟩,.string ⟨#[]⟩] 56)) (.cells #[.string ⟨#[97]⟩,.bool false] 65);rw [show (w.alloc (.cells #[.string ⟨#[97]⟩,.string ⟨#[]⟩] 56)).heap.size=w.heap.size+1 by simp] at hn
   constructor
   ·rw [bM _ (w.heap.size+1) _ _ _ _ hn];rfl
   ·rw [bM _ (w.heap.size+1) _ _ _ _ hn];rfl⟩
 have hl:=Leaves_c (some ⟨w.heap.size,0,none⟩) (some ⟨w.heap.size+1,0,none⟩) 1 1 [⟨sa,emp⟩] [⟨sa,false⟩] _ hr ha (fun i hi=>by
  have:i=0:=by simp at hi;omega
  subst this
  show (sa.size:Nat)≤9223372036854775807
  decide)
 rw [leaves_awake] at hl
 go_enter Tryz.func8,Tryz.ntmps8
 go_wp2_with fail
 refine hl.mono ?_
 rintro e w1 ⟨A1,c1,rfl,hx,hb⟩;have HB:=zq (hb2.trans (hb.mono hb2.size));obtain ⟨b,o,rfl,hbl,hc⟩:=hx.at_ zg;have hc0:w1.cell? ⟨b,o,none⟩=some (.string ⟨#[97]⟩):=hc 0 zg;clear hl hr ha hb1 hb2 hb hx hc;go_wp2;go_ret
 exact zAe.mk rfl HB.o
theorem sameT_pl {rs:List Rg} {us:List BA} {ds ds2:List De} (h:ds.map zAI=ds2.map zAI):SameT rs us ds rs us ds2:=by
 have hl:ds.length=ds2.length:=by have:=aV List.length h;simpa using this
 refine ⟨rfl,rfl,hl,fun i hi=>(sameD_iff _ _).2 ?_⟩
 have h1:ds.getD i default=ds[i]:=by simp [List.getD_eq_getElem?_getD,List.getElem?_eq_getElem hi]
 have h2:ds2.getD i default=ds2[i]'(by omega):=by simp [List.getD_eq_getElem?_getD,List.getElem?_eq_getElem (show i<ds2.length by omega)]
 rw [h1,h2];have h3:(ds.map zAI)[i]?=(ds2.map zAI)[i]?:=yx;rw [List.getElem?_map,List.getElem?_map,List.getElem?_eq_getElem hi,List.getElem?_eq_getElem (show i<ds2.length by omega)] at h3
 simpa using h3
theorem txtL_plain (rs:List Rg) (us:List BA) (ds:List De):txtL rs us (ds.map zAI)=txtL rs us ds:=by
 have h:zAr zBN (ds.map zAI)=zAr zBN ds:=by
  unfold zAr;rw [List.map_map]
  rfl
 unfold txtL;rw [h]
theorem readF_none {t:Ln} {rs:List Rg} {us:List BA} {ds:List De} {n f:Int} (h:readF t=((rs,us,ds),n,f)) (hf:f≠0):rs=[]:=by
 unfold readF at h
 split at h
 ·cases h;rfl
 ·split at h
  ·cases h;rfl
  ·split at h
   ·cases h;rfl
   ·split at h
    ·cases h;rfl
    ·cases h;exact absurd rfl hf
theorem txF_zero {rs:List Rg} {us:List BA} {ds:List De} {p:BA} (h:txF rs us ds=(p,0)):zDh rs us ds=0∧¬ 500000<(txtL rs us ds).length∧p.data.toList=txtL rs us ds:=by
 unfold txF at h
 split at h
 ·next hc=>injection h with _ h;exact absurd h hc
 ·next hc =>
  split at h
  ·injection h with _ h;cases h
  ·next hl=>injection h with h _;exact ⟨Classical.not_not.1 hc,hl,by rw [←h]⟩
theorem txF_read {s:BA} {rs:List Rg} {us:List BA} {ds:List De} {n:Int} (h:readF s.data.toList=((rs,us,ds.map zAI),n,0)):txF rs us ds=(s,0):=by
 obtain ⟨h1,h2,h3,_⟩:=readF_ok h;rw [txtL_plain] at h1;rw [chkT_plain] at h3;unfold txF;rw [aC (by rw [h3];simp),h1,aC za]
theorem lawT_c (RA:Option Addr) (rc:Nat) (rs:List Rg) (UA:Option Addr) (uc:Nat) (us:List BA) (DA:Option Addr) (dc:Nat) (ds:List De) (s:BA) (w:World)
  (hr:Rgs w RA rs) (hu:Strs w UA us) (hd:Des w DA ds) (hz:∀ i (h:i<rs.length),(rs[i]).nm.size≤9223372036854775807) (hz2:∀ i (h:i<us.length),(us[i]).size≤9223372036854775807) (hs:s.size≤9223372036854775807) (hn:rs.length≤140737488355328∧us.length≤140737488355328∧ds.length≤140737488355328) (hP:POK w) (hG:GOK w) :
  Calls Tryz.prog 4 #[.agg (tiC RA rc rs UA uc us DA dc ds),.string s] w (zAe (.bool true) w):=by
 have HX:Hid (Bx (w.alloc (.cells (tiC RA rc rs UA uc us DA dc ds) 26)) w.heap.size (tiC RA rc rs UA uc us DA dc ds) 26):=Bx.new _ _ _;have HB:Hid (Below w.heap.size w (w.alloc (.cells (tiC RA rc rs UA uc us DA dc ds) 26))):=(bN _ _).alloc (aB _) _;obtain ⟨W,hW⟩:∃ W,W=w.alloc (.cells (tiC RA rc rs UA uc us DA dc ds) 26):=⟨_,rfl⟩;rw [←hW] at HX HB;have HR:=zq (hr.below HB.o);have HU:=zq (hu.below HB.o);have HD:=zq (hd.below HB.o);have HPK:=zq hP;have HGK:=zq hG;clear hr hu hd hP hG
 go_enter Tryz.func4,Tryz.ntmps4
 go_upto_region 1 with fail
 rw [←hW];clear hW;have HC:=zq (Text_c RA rc rs UA uc us DA dc ds W HR.o HU.o HD.o hz hz2 (HPK.o.below HB.o));obtain ⟨res,hres⟩:∃ res,res=txF rs us ds:=⟨_,rfl⟩;rw [←hres] at HC;have HRES:=zq hres;clear hres
 iterate 2 go_step
 refine wp_load_mid _ _ zy w.heap.size 0 zy (tiC RA rc rs UA uc us DA dc ds).toList _ (rangeB HX.o) Tryz.underlying26 rfl zb ?_
 go_wp2_with fail
 with_reducible refine HC.o.mono ?_
 rintro e w1 ⟨rfl,hb1⟩;have HB1:=zq (zAb HB.o hb1);have HX1:=zq (HX.o.below hb1);have HR1:=zq (HR.o.below hb1);have HU1:=zq (HU.o.below hb1);have HD1:=zq (HD.o.below hb1);clear hb1 HX HC HR HU HD HB;obtain ⟨ra,rf⟩:=res;obtain ⟨tb,htb⟩:∃ tb,tb=(rf == 0):=⟨_,rfl⟩;have q0:(rf == 0)=tb:=htb.symm;have HTB:Hid (tb=true→rf=0):=fun h=>by rw [htb] at h;simpa using h
 clear htb;go_upto_if 20 with fail
 go_cut [] (fun wx=>Below w.heap.size w wx)
 case first =>
  cases tb with
  | false =>
   go_wp2_with fail
   go_meet;exact HB1.o
  | true =>
   have hrf:=HTB.o rfl;subst hrf;obtain ⟨hc0,hln,hp⟩:=txF_zero HRES.o.symm
   have hra:ra.size≤9223372036854775807:=by
    have:ra.size=ra.data.toList.length:=rfl;rw [this,hp];omega
   have HRD:=zq (Read_c ra w1 (HGK.o.below HB1.o) hra);rw [hp] at HRD;have HWR:=zq (readF_wr hc0 za);clear hc0 hln hp hra q0
   go_wp2_with fail
   with_reducible refine HRD.o.mono ?_
   rintro e w2 ⟨RA3,rc3,rs3,UA3,uc3,us3,DA3,dc3,ds3,n3,f3,rfl,hrf,⟨hr3,hu3,hd3⟩,hl3,_,_,hb2⟩;rw [HWR.o] at hrf;simp only [Prod.mk.injEq] at hrf;obtain ⟨⟨rfl,rfl,hds⟩,rfl,rfl⟩:=hrf;have HDS:=zq hds;have HBA:Hid (Below w2.heap.size w2 (w2.alloc (.cells (tiC RA3 rc3 rs UA3 uc3 us DA3 dc3 ds3) 26))):=(bN w2.heap.size w2).alloc (aB _) _;have HXA:=zq ((HX1.o.below hb2).below HBA.o);have HZA:Hid (Bx (w2.alloc (.cells (tiC RA3 rc3 rs UA3 uc3 us DA3 dc3 ds3) 26)) w2.heap.size (tiC RA3 rc3 rs UA3 uc3 us DA3 dc3 ds3) 26):=Bx.new _ _ _;have HBW:=zq (zAb (zAb HB1.o hb2) HBA.o);have HSA:=zq (sameTitle_c RA3 rc3 rs UA3 uc3 us DA3 dc3 ds3 RA rc rs UA uc us DA dc ds (w2.alloc (.cells (tiC RA3 rc3 rs UA3 uc3 us DA3 dc3 ds3) 26)) (hr3.below HBA.o) (hu3.below HBA.o) (hd3.below HBA.o) ((HR1.o.below hb2).below HBA.o) ((HU1.o.below hb2).below HBA.o) ((HD1.o.below hb2).below HBA.o) ⟨za,za,za⟩ hn);clear hds hr3 hu3 hd3 hb2 HX1 HR1 HU1 HD1 HB1 HBA HRD;obtain ⟨g1,hg1⟩:∃ g1,g1=w2.heap.size:=⟨_,rfl⟩;rw [←hg1] at HZA;obtain ⟨wA,hwA⟩:∃ wA,wA=w2.alloc (.cells (tiC RA3 rc3 rs UA3 uc3 us DA3 dc3 ds3) 26):=⟨_,rfl⟩;rw [←hwA] at HXA HZA HBW HSA;go_upto_region 4 with fail
   rw [←hg1,←hwA];clear hg1 hwA;obtain ⟨x0,x1,x2⟩:=HXA.o.t;have hsx:=HXA.o.lt;obtain ⟨y0,y1,y2⟩:=HZA.o.t;have hsy:=HZA.o.lt
   go_wp2_with fail
   with_reducible refine HSA.o.mono ?_
   rintro e w4 ⟨r,rfl,hrr,hb4⟩;obtain rfl:r=true:=hrr.2 (sameT_pl HDS.o.symm);have HB4:=zq (zAb HBW.o hb4);clear hrr hb4
   go_wp2_with fail
   go_meet;exact HB4.o
 case rest =>
  have HB2:=zq hcut;clear hcut q0 HRES HTB HB1 HX1 HR1 HU1 HD1;have HRD:=zq (Read_c s wc (HGK.o.below HB2.o) hs)
  go_wp2_with fail
  with_reducible refine HRD.o.mono ?_
  rintro e w2 ⟨RA3,rc3,rs3,UA3,uc3,us3,DA3,dc3,ds3,n3,f3,rfl,hrf,⟨hr3,hu3,hd3⟩,hl3,hz3,hz4,hb2⟩;have HRF:=zq hrf;have HBA:Hid (Below w2.heap.size w2 (w2.alloc (.cells (tiC RA3 rc3 rs3 UA3 uc3 us3 DA3 dc3 ds3) 26))):=(bN w2.heap.size w2).alloc (aB _) _;have HZA:Hid (Bx (w2.alloc (.cells (tiC RA3 rc3 rs3 UA3 uc3 us3 DA3 dc3 ds3) 26)) w2.heap.size (tiC RA3 rc3 rs3 UA3 uc3 us3 DA3 dc3 ds3) 26):=Bx.new _ _ _;have HBW:=zq (zAb (zAb HB2.o hb2) HBA.o);have HTX:=zq (Text_c RA3 rc3 rs3 UA3 uc3 us3 DA3 dc3 ds3 (w2.alloc (.cells (tiC RA3 rc3 rs3 UA3 uc3 us3 DA3 dc3 ds3) 26)) (hr3.below HBA.o) (hu3.below HBA.o) (hd3.below HBA.o) (fun i h=>by have:=hz3 i h;omega) (fun i h=>by have:=hz4 i h;omega) (HPK.o.below HBW.o))
  clear hrf hr3 hu3 hd3 hb2 HBA HRD HB2;obtain ⟨g1,hg1⟩:∃ g1,g1=w2.heap.size:=⟨_,rfl⟩;rw [←hg1] at HZA;obtain ⟨wA,hwA⟩:∃ wA,wA=w2.alloc (.cells (tiC RA3 rc3 rs3 UA3 uc3 us3 DA3 dc3 ds3) 26):=⟨_,rfl⟩;rw [←hwA] at HZA HBW HTX;go_upto_region 7 with fail
  rw [←hg1,←hwA];clear hg1 hwA
  by_cases hf:f3=0
  case neg =>
   have hfb:(f3 != 0)=true:=by simpa using hf
   obtain rfl:rs3=[]:=readF_none HRF.o hf;have y0:wA.cell? ⟨g1,0,none⟩=some (.slice RA3 0 rc3):=HZA.o.c 0 rfl;have hsy:=HZA.o.lt;clear hf HRF HTX
   go_wp2_with fail
   with_reducible refine (awake_c _).mono ?_
   rintro e w5 ⟨rfl,hb5⟩;have HB5:=zq (zAb HBW.o hb5);clear hb5 y0 hsy;go_wp2;go_ret
   exact zAe.mk rfl HB5.o
  case pos =>
   subst hf;rw [txF_read HRF.o] at HTX;have ha:=zAQ (rfl:s=s);clear HRF;go_upto_region 9 with fail
   iterate 2 go_step
   refine wp_load_mid _ _ zy g1 0 zy (tiC RA3 rc3 rs3 UA3 uc3 us3 DA3 dc3 ds3).toList _ (rangeB HZA.o) Tryz.underlying26 rfl zb ?_
   go_wp2_with fail
   with_reducible refine HTX.o.mono ?_
   rintro e w4 ⟨rfl,hb4⟩;have HB4:=zq (zAb HBW.o hb4);clear hb4 HTX
   go_wp2_with fail
   with_reducible refine (awake_c _).mono ?_
   rintro e w5 ⟨rfl,hb5⟩;have HB5:=zq (zAb HB4.o hb5);clear hb5;go_wp2;go_ret
   exact zAe.mk rfl HB5.o
end Go.Proofs.YtoaelidmmcbkfaaGreatDoor
