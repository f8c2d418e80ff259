/- Parts of the proof, joined: Walks over the reference of chapter 7 (places): CheckRegions. Walks ov. -/
import Derived.Test.YtbbchlpccgkikaaGreatDoorSh01
import Derived.Shelf.Small.Wraps
import Derived.Shelf.Small.Strs
import Derived.Shelf.Strings.SlTrimAscii
set_option maxRecDepth 100000
set_option maxHeartbeats 8000000
namespace Go.Proofs.YtbbchlpccgkikaaGreatDoor
open Go.RowKit Dw
theorem parBad_false{l:List Rg}(h:∀j (h:j<l.length),zCD l l[j]=false){i:Nat}(hi:i<l.length)(hp:(l[i]).par≠emp):∃j,idx l (l[i]).par=some j:=by
 have:=h i hi;unfold zCD at this
 cases hx:idx l (l[i]).par with
 |some j=>exact⟨j,rfl⟩
 |none=>rw[hx]at this;simp[hp]at this
theorem chkR_head{l:List Rg}(h1:l≠[])(h2:¬200<l.length):chkR l=match (List.range l.length).findSome? (zBb l)with
 |some f=>f
 |none=>if l.any (zCD l)=true then 5 else if EndsR l then 0 else 14:=by
 unfold chkR;rw[aW h1,aW h2]<;>rfl
theorem chkR_first{l:List Rg}(h1:l≠[])(h2:¬200<l.length){k:Nat}{x:Int}(hk:k<l.length)(hpre:∀j,j<k->zBb l j=none)(h:zBb l k=some x):chkR l=x:=by
 rw[chkR_head h1 h2,zBf hk hpre h]
theorem chkR_par{l:List Rg}(h1:l≠[])(h2:¬200<l.length)(hpre:∀j,j<l.length->zBb l j=none){k:Nat}(hk:k<l.length)(h:zCD l l[k]=true):chkR l=5:=by
 rw[chkR_head h1 h2,zBl hpre];simp only[];rw[aD (List.any_eq_true.2 ⟨l[k],bI hk,h⟩)]
theorem chkR_last{l:List Rg}(h1:l≠[])(h2:¬200<l.length)(hpre:∀j,j<l.length->zBb l j=none)(h:∀j (h:j<l.length),zCD l l[j]=false):chkR l=if EndsR l then 0 else 14:=by
 rw[chkR_head h1 h2,zBl hpre];simp only[];rw[aW];intro hh;obtain⟨x,hx,hb⟩:=List.any_eq_true.1 hh;obtain⟨j,hj,rfl⟩:=dO hx;rw[h j hj]at hb;cases hb
theorem elStr:ElemT Tryz.prog 23 9 (.string ⟨#[]⟩) 1 16:=⟨Tryz.underlying23,zb,rfl,zc⟩
theorem elAr:ElemT Tryz.prog 41 99 (.agg #[.string ⟨#[]⟩,.bool false]) 2 24:=⟨Tryz.underlying41,zb,rfl,zc⟩
abbrev encS:BA->List Value:=fun s=>[.string s]
abbrev encA:Ar->List Value:=fun x=>[.string x.rg,.bool x.out]
def zAg(v:Value)(w:World)(e:Ending)(w':World):Prop:=e=.returned v/\Below w.heap.size w w'
theorem zAg.mk{v v':Value}{w w':World}(h:v=v')(hw:Below w.heap.size w w'):zAg v' w (.returned v) w':=⟨by rw[h],hw⟩
theorem zAY{p:Nat->Bool}(k:Nat):(List.range (k+1)).filter p=(List.range k).filter p++(if p k then [k] else []):=by
 rw[dP,dQ]
 cases h:p k<;>simp[h]
def zBF(l:List Rg)(p:Nat->Bool)(k:Nat):List BA:=((List.range k).filter p).map (zCg l)
theorem gath_yes{l:List Rg}{p:Nat->Bool}{k:Nat}(h:p k=true):zBF l p (k+1)=zBF l p k++[zCg l k]:=by
 unfold zBF;rw[zAY,h];simp
theorem gath_no{l:List Rg}{p:Nat->Bool}{k:Nat}(h:p k=false):zBF l p (k+1)=zBF l p k:=by
 unfold zBF;rw[zAY,h];simp
theorem gath_le(l:List Rg)(p:Nat->Bool)(k:Nat):(zBF l p k).length<=k:=by
 unfold zBF;rw[dE];have:=dR p (List.range k)
 simpa using this
theorem leafIdx_lt{l:List Rg}{t:Nat}(h:t<(zAf l).length):(zAf l)[t]<l.length:=by
 have:=bI h;unfold zAf at this;rw[List.mem_filter,List.mem_range]at this;exact this.1
theorem leafIdx_le(l:List Rg):(zAf l).length<=l.length:=by
 unfold zAf;have:=dR (fun i=>!zAB l i) (List.range l.length)
 simpa using this
abbrev inV(ng:Bool)(A:Option Addr)(c n:Nat):Value:=.agg #[.bool ng,.slice A (zAc B32 n).length c]
abbrev raV(ng:Bool)(A:Option Addr)(c n:Nat)(A2:Option Addr)(c2 d:Nat):Value:=.agg #[.bool ng,.slice A (zAc B32 n).length c,.slice A2 (zAc B32 d).length c2]
def GivesI(ng:Bool)(n:Nat)(w:World)(e:Ending)(w':World):Prop:=∃A c,e=.returned (inV ng A c n)/\Nt w' A c n/\Below w.heap.size w w'
def zCa(ng:Bool)(n d:Nat)(w:World)(e:Ending)(w':World):Prop:=
 ∃A c A2 c2,e=.returned (raV ng A c n A2 c2 d)/\Nt w' A c n/\Nt w' A2 c2 d/\Below w.heap.size w w'
theorem bcellK{W w1:World}(hb:Below W.heap.size W w1):(∀b o,b<W.heap.size->w1.cell? ⟨b,o,none⟩=W.cell? ⟨b,o,none⟩)/\(∀b o,b<W.heap.size->w1.frozen? ⟨b,o,none⟩=W.frozen? ⟨b,o,none⟩):=
 ⟨fun b o h=>hb.cell (p:=⟨b,o,none⟩) h,fun b o h=>hb.frozen (p:=⟨b,o,none⟩) h⟩
theorem Nt.alloc{w:World}{A:Option Addr}{c n:Nat}(h:Nt w A c n)(o:Obj):Nt (w.alloc o) A c n:=⟨h.rd.alloc o,h.cap⟩
theorem Nt.drew{w:World}{A:Option Addr}{c n:Nat}(h:Nt w A c n):Nt w.drew A c n:=⟨h.rd,h.cap⟩
theorem Nt.set{w:World}{A:Option Addr}{c n:Nat}{p:Addr}{v:Value}(h:Nt w A c n)(hp:w.cell? p=some v)(hv:∀x:Nat,v≠u32V x)(u:Value):Nt (w.setCell p u) A c n:=by
 refine⟨fun hl=>?_,h.cap⟩
 obtain⟨b,o,rfl,hc⟩:=h.rd hl;refine⟨b,o,rfl,fun i hi=>?_⟩;rw[World.cell?_setCell_other _ _ _ _ (fun e=>?_)]
 ·exact hc i hi
 ·have h1:=hc i hi
  rw[<-e]at h1;rw[hp]at h1
  injection h1 with h1
  exact hv _ h1
theorem Nt.set2{w:World}{A:Option Addr}{c n R:Nat}{v0 v1:Value}(h:Nt w A c n)(h0:w.cell? ⟨R,0,none⟩=some v0)(h1:w.cell? ⟨R,1,none⟩=some v1)(n0:∀x:Nat,v0≠u32V x)(n1:∀x:Nat,v1≠u32V x)(u0 u1:Value): Nt ((w.setCell ⟨R,0,none⟩ u0).setCell ⟨R,1,none⟩ u1) A c n:=
 (h.set h0 n0 u0).set (by rw[World.cell?_setCell_other _ _ _ _ (fun e=>qf)];exact h1) n1 u1
theorem Nt.set3{w:World}{A:Option Addr}{c n R:Nat}{v0 v1 v2:Value}(h:Nt w A c n)(h0:w.cell? ⟨R,0,none⟩=some v0)(h1:w.cell? ⟨R,1,none⟩=some v1)(h2:w.cell? ⟨R,2,none⟩=some v2)(n0:∀x:Nat,v0≠u32V x)(n1:∀x:Nat,v1≠u32V x)(n2:∀x:Nat,v2≠u32V x)(u0 u1 u2:Value): Nt (((w.setCell ⟨R,0,none⟩ u0).setCell ⟨R,1,none⟩ u1).setCell ⟨R,2,none⟩ u2) A c n:=
 (h.set2 h0 h1 n0 n1 u0 u1).set (by
  rw[World.cell?_setCell_other _ _ _ _ (fun e=>qf),World.cell?_setCell_other _ _ _ _ (fun e=>qf)];exact h2) n2 u2
theorem nb_(b:Bool)(x:Nat):Value.bool b≠u32V x:=fun e=>by cases e
theorem ns_(A:Option Addr)(n c x:Nat):Value.slice A n c≠u32V x:=fun e=>by cases e
theorem IMul_c(A A2:Option Addr)(c c2 a b:Nat)(w:World)(h:Nt w A c a)(h2:Nt w A2 c2 b)(hn:(zAc B32 a).length<=400000000)(hm:(zAc B32 b).length<=400000000): Calls Tryz.prog 101 #[inV false A c a,inV false A2 c2 b] w (GivesI false (a*b) w):=by
 go_enter Tryz.func101,Tryz.ntmps101;(go_wp2_with fail);(with_reducible refine(Mul_c A A2 c c2 a b _ (((h.alloc _).alloc _).alloc _) (((h2.alloc _).alloc _).alloc _) hn hm).mono ?_);rintro e w1⟨A5,c5,rfl,h5,hb⟩;obtain⟨hc,hf⟩:=bcellK hb;have hz:w.heap.size+2<w1.heap.size:=qb;have c0:w1.cell? ⟨w.heap.size+1+1,0,none⟩=some (.bool false):=zj;have c1:w1.cell? ⟨w.heap.size+1+1,1,none⟩=some (.slice none 0 0):=zj;have HB:Hid (Below w.heap.size w w1):=((((aJ w.heap.size w).alloc (aE _) _).alloc zd _).alloc ze _).trans (hb.mono ze);go_wp2;refine aC (v:=inV false A5 c5 (a*b)) (by simp[results,Tryz.results101,go_sem,hc]) rfl ⟨A5,c5,rfl,?_,?_⟩
 ·exact h5.set2 c0 c1 (nb_ _) (ns_ _ _ _) _ _
 ·exact tc4
theorem ICmp_c(A A2:Option Addr)(c c2 a b:Nat)(w:World)(h:Nt w A c a)(h2:Nt w A2 c2 b)(hn:(zAc B32 a).length<=400000000): Calls Tryz.prog 102 #[inV false A c a,inV false A2 c2 b] w (zAg (.int .i64 (cmpN a b)) w):=by
 go_enter Tryz.func102,Tryz.ntmps102;(go_wp2_with fail);(with_reducible refine(Cmp_c A A2 c c2 a b _ ((h.alloc _).alloc _) ((h2.alloc _).alloc _) za).mono ?_);rintro e w1⟨rfl,nd,rfl⟩;go_wp2;go_ret
 exact zAg.mk rfl (zAd (((aJ w.heap.size w).alloc (aE _) _).alloc zd _) nd)
theorem IAdd_c(A A2:Option Addr)(c c2 a b:Nat)(w:World)(h:Nt w A c a)(h2:Nt w A2 c2 b)(hn:(zAc B32 a).length<=400000000)(hm:(zAc B32 b).length<=400000000): Calls Tryz.prog 165 #[inV false A c a,inV false A2 c2 b] w (GivesI false (a+b) w):=by
 have HA:=zq (fun W (q:Nt W A c a) (q2:Nt W A2 c2 b)=>Add_c A A2 c c2 a b W q q2 za za)
 go_enter Tryz.func165,Tryz.ntmps165;go_wp2
 go_region_held3 (fun w'=>w'.cell? ⟨w.heap.size,0,none⟩=some (.bool false)/\w'.cell? ⟨w.heap.size,1,none⟩=some (.slice A (zAc B32 a).length c)/\w'.cell? ⟨w.heap.size+1,1,none⟩=some (.slice A2 (zAc B32 b).length c2)) ((refine⟨?_,?_,?_⟩<;>go_simp))
  (first
   |((go_at_call 222;(with_reducible refine(HA.o _ (Nt.drew (((h.alloc _).alloc _).alloc _)) (Nt.drew (((h2.alloc _).alloc _).alloc _))).mono ?_);rintro e w1⟨A5,c5,rfl,h5,hb⟩;obtain⟨hc,hf⟩:=bcellK hb;have hz:w.heap.size+2<w1.heap.size:=by(have:=hb.size;simp at this;omega))))
 have c0:w1.cell? ⟨w.heap.size+1+1,0,none⟩=some (.bool false):=zj;have c1:w1.cell? ⟨w.heap.size+1+1,1,none⟩=some (.slice none 0 0):=zj;have HB:Hid (Below w.heap.size w w1):=(zAd ((((aJ w.heap.size w).alloc (aE _) _).alloc zd _).alloc ze _) 1).trans (hb.mono ze);go_wp2;refine aC (v:=inV false A5 c5 (a+b)) (by simp[results,Tryz.results165,go_sem,hc]) rfl ⟨A5,c5,rfl,?_,?_⟩
 ·exact h5.set2 c0 c1 (nb_ _) (ns_ _ _ _) _ _
 ·exact tc4
def sgnI(ng:Bool)(n:Nat):Int:=if ng=true then -1 else if n=0 then 0 else 1
theorem ISign_c(ng:Bool)(A:Option Addr)(c n:Nat)(w:World):Calls Tryz.prog 191 #[inV ng A c n] w (zAg (.int .i64 (sgnI ng n)) w):=by
 cases ng with
 |true =>
  exact tbt
 |false =>
  by_cases h0:n=0
  ·subst h0
   exact tbt
  ·have hl:0<(zAc B32 n).length:=by
    rcases cN (zAc B32 n).length with e|e
    ·exact absurd ((zCA zAn (n:=n)).1 (dJ e)) h0
    ·exact e
   have hr:sgnI false n=1:=by simp[sgnI,h0]
   rw[hr];have HR:=zq hr;clear hr h0;exact tbt
theorem RSign_c(ng:Bool)(A A2:Option Addr)(c c2 n d:Nat)(w:World):Calls Tryz.prog 141 #[raV ng A c n A2 c2 d] w (zAg (.int .i64 (sgnI ng n)) w):=by
 go_enter Tryz.func141,Tryz.ntmps141;(go_wp2_with fail);(with_reducible refine(ISign_c ng A c n _).mono ?_);rintro e w1⟨rfl,hb⟩;go_wp2;go_ret
 exact zAg.mk rfl (((aJ w.heap.size w).alloc (aE _) _).trans (hb.mono zd))
theorem one_cases{w:World}{A:Option Addr}{c m:Nat}(h:Nt w A c m)(hm:0<m): (m=1/\(zAc B32 m).length=1/\∃b o,A=some ⟨b,o,none⟩/\b<w.heap.size/\w.cell? ⟨b,o,none⟩=some (.int .u32 1)) \/ (m≠1/\(zAc B32 m).length≠1)\/(m≠1/\(zAc B32 m).length=1/\∃b o,A=some ⟨b,o,none⟩/\b<w.heap.size/\w.cell? ⟨b,o,none⟩=some (.int .u32 (m:Int))):=by
 by_cases hl:(zAc B32 m).length=1
 ·have hw:=words_one hl
  have hr:=h.rd;rw[hw]at hr;obtain⟨b,o,hA,hb,hc⟩:=hr.at_ zd;have hc0:=hc 0 zd;rw[zBt]at hc0;simp only[cY,cZ]at hc0
  by_cases h1:m=1
  ·subst h1
   exact .inl ⟨rfl,hl,b,o,hA,hb,hc0⟩
  ·exact .inr (.inr ⟨h1,hl,b,o,hA,hb,hc0⟩)
 ·refine .inr (.inl ⟨fun e=>?_,hl⟩)
  rw[e,one_words]at hl;exact hl rfl
theorem lowP_zero(d:Nat)(h:0<d):zCN 0 d=(0,1):=by
 unfold zCN;rw[Nat.gcd_zero_left,Nat.zero_div,Nat.div_self h]
theorem lowP_one(n d:Nat)(h:Nat.gcd n d=1):zCN n d=(n,d):=by
 unfold zCN;rw[h,Nat.div_one,Nat.div_one]
theorem Over_zero(A A2:Option Addr)(c c2 d:Nat)(ng:Bool)(w:World):Calls Tryz.prog 164 #[inV ng A c 0,ntV A2 c2 d] w (zCa false 0 1 w):=by
 go_enter Tryz.func164,Tryz.ntmps164;(go_wp2_with fail);(with_reducible refine(One_c _).mono ?_);rintro e w1⟨A5,c5,rfl,h5,hb⟩;obtain⟨hc,hf⟩:=bcellK hb;have hz:w.heap.size+1<w1.heap.size:=qb;have c0:w1.cell? ⟨w.heap.size+1,0,none⟩=some (.bool false):=zj;have c1:w1.cell? ⟨w.heap.size+1,1,none⟩=some (.slice none 0 0):=zj;have c2:w1.cell? ⟨w.heap.size+1,2,none⟩=some (.slice none 0 0):=zj;have HB:Hid (Below w.heap.size w w1):=(((aJ w.heap.size w).alloc (aE _) _).alloc zd _).trans (hb.mono ze);go_wp2;refine aC (v:=raV false none 0 0 A5 c5 1) (by simp[results,Tryz.results164,go_sem,hc];rfl) rfl ⟨none,0,A5,c5,rfl,Nt.zero _,?_,?_⟩
 ·exact h5.set3 c0 c1 c2 (nb_ _) (ns_ _ _ _) (ns_ _ _ _) _ _ _
 ·exact tc1
theorem pos_len{n:Nat}(h:0<n):0<(zAc B32 n).length:=by
 rcases cN (zAc B32 n).length with e|e
 ·have:=(zCA zAn (n:=n)).1 (dJ e)
  omega
 ·exact e
theorem Over_same(A A2:Option Addr)(c c2 n:Nat)(ng:Bool)(w:World)(h:Nt w A c n)(h2:Nt w A2 c2 1)(h0:0<n):Calls Tryz.prog 164 #[inV ng A c n,ntV A2 c2 1] w (zCa ng n 1 w):=by
 have hl:=pos_len h0;have hlb:(((zAc B32 n).length:Int) == 0)=false:=by simp;intro e;rw[e]at hl;simp at hl
 rcases one_cases h2 za with ⟨_,hl1,b,o,rfl,hb,hcell⟩|⟨e,_⟩|⟨e,_⟩
 ·have e2:ntV (some ⟨b,o,none⟩) c2 1=.slice (some ⟨b,o,none⟩) 1 c2:=by
   show Value.slice _ (zAc B32 1).length c2=_
   rw[hl1]
  have HL1:=zq hl1;clear hl1;rw[e2];have E2:=zq e2;clear e2 hl
  go_enter Tryz.func164,Tryz.ntmps164;go_wp2;refine aC (v:=raV ng A c n (some ⟨b,o,none⟩) c2 1) (by simp[results,Tryz.results164,go_sem];rfl) rfl ⟨A,c,_,c2,rfl,?_,?_,?_⟩
  ·exact(h.alloc _).alloc _
  ·exact(h2.alloc _).alloc _
  ·exact tc2
 ·exact absurd rfl e
 ·exact absurd rfl e
theorem Over_gen(A A2:Option Addr)(c c2 n d:Nat)(ng:Bool)(w:World)(h:Nt w A c n)(h2:Nt w A2 c2 d)(h0:0<n)(hd0:0<d)(hd:d≠1)(hn:(zAc B32 n).length<=400000000)(hm:(zAc B32 d).length<=400000000): Calls Tryz.prog 164 #[inV ng A c n,ntV A2 c2 d] w (zCa ng (zCN n d).1 (zCN n d).2 w):=by
 have hl:=pos_len h0;have hl2:=pos_len hd0;have hlb:(((zAc B32 n).length:Int) == 0)=false:=by simp;intro e;rw[e]at hl;simp at hl
 have HGB:Hid (Nat.gcd n d<=d):=Nat.gcd_le_right n hd0;have hg0:0<Nat.gcd n d:=dS n hd0;have hgl:(zAc B32 (Nat.gcd n d)).length<=400000000:=dC (zAI zAn HGB.o) hm;have HLP:Hid (zCN n d=(n/Nat.gcd n d,d/Nat.gcd n d)):=rfl;rw[HLP.o];obtain⟨G,hG⟩:∃G,Nat.gcd n d=G:=⟨_,rfl⟩;rw[hG]at hg0 hgl ⊢;have HG:=zq hG;clear hG;have HQ1:=zq (fun W A5 c5 (q:Nt W A c n) (q2:Nt W A5 c5 G)=>Div_c A A5 c c5 n G W q q2 hn hg0);have HQ2:=zq (fun W A5 c5 (q:Nt W A2 c2 d) (q2:Nt W A5 c5 G)=>Div_c A2 A5 c2 c5 d G W q q2 hm hg0);have hgc:=fun W (q:Nt W A c n) (q2:Nt W A2 c2 d)=>gcd_c A A2 c c2 n d W q q2 hn hm
 rw[HG.o]at hgc;have HGC:=zq hgc;clear hgc
 have CS:Hid ((((zAc B32 d).length:Int) == 1)=false\/((((zAc B32 d).length:Int) == 1)=true/\((d:Int) == 1)=false/\∃b o,A2=some ⟨b,o,none⟩/\b<w.heap.size/\w.cell? ⟨b,o,none⟩=some (.int .u32 (d:Int)))):=by
  rcases one_cases h2 hd0 with ⟨e,_⟩|⟨_,e⟩|⟨e,hl1,b,o,hA,hb,hc⟩
  ·exact absurd e hd
  ·exact .inl ze
  ·exact .inr ⟨ze,ze,b,o,hA,hb,hc⟩
 clear hd
 rcases CS.out with hc1|⟨hc1,hc2,b,o,rfl,hb,hcell⟩
 all_goals
  go_enter Tryz.func164,Tryz.ntmps164;(go_wp2_with fail);(with_reducible refine(HGC.o _ ((h.alloc _).alloc _) ((h2.alloc _).alloc _)).mono ?_);rintro e w1⟨A5,c5,rfl,h5,hb5⟩;obtain⟨hc,hf⟩:=bcellK hb5;have hz:w.heap.size+1<w1.heap.size:=by have:=hb5.size;simp at this;omega
  have k0:w1.cell? ⟨w.heap.size+1,0,none⟩=some (.bool false):=zj;have k1:w1.cell? ⟨w.heap.size+1,1,none⟩=some (.slice none 0 0):=zj;have k2:w1.cell? ⟨w.heap.size+1,2,none⟩=some (.slice none 0 0):=zj;have HB:Hid (Below w.heap.size w w1):=(((aJ w.heap.size w).alloc (aE _) _).alloc zd _).trans (hb5.mono ze);have hn1:=((h.alloc _).alloc _).below hb5;have hd1:=((h2.alloc _).alloc _).below hb5
  have CS2:Hid ((G=1/\(((zAc B32 G).length:Int) == 1)=true/\0<(zAc B32 G).length/\∃b o,A5=some ⟨b,o,none⟩/\b<w1.heap.size/\w1.cell? ⟨b,o,none⟩=some (.int .u32 1))\/(((zAc B32 G).length:Int) == 1)=false \/
    ((((zAc B32 G).length:Int) == 1)=true/\0<(zAc B32 G).length/\((G:Int) == 1)=false/\∃b o,A5=some ⟨b,o,none⟩/\b<w1.heap.size/\w1.cell? ⟨b,o,none⟩=some (.int .u32 (G:Int)))):=by
   rcases one_cases h5 hg0 with ⟨e,hl1,b,o,hA,hb,hc⟩|⟨_,e⟩|⟨e,hl1,b,o,hA,hb,hc⟩
   ·exact .inl ⟨e,ze,za,b,o,hA,hb,hc⟩
   ·exact .inr (.inl ze)
   ·exact .inr (.inr ⟨ze,za,ze,b,o,hA,hb,hc⟩)
  clear hb5
  rcases CS2.out with ⟨hG1,hg1,hg2,b2,o2,hA5,hb2,hcell2⟩|hg1|⟨hg1,hg2,hg3,b2,o2,hA5,hb2,hcell2⟩
  ·subst hA5
   have HG1:=zq hG1;clear hG1 hc1;go_wp2;rw[HG1.o,Nat.div_one,Nat.div_one];refine aC (v:=raV ng A c n _ c2 d) (by simp[results,Tryz.results164,go_sem,hc]) rfl ⟨A,c,_,c2,rfl,hn1.set3 k0 k1 k2 (nb_ _) (ns_ _ _ _) (ns_ _ _ _) _ _ _,hd1.set3 k0 k1 k2 (nb_ _) (ns_ _ _ _) (ns_ _ _ _) _ _ _,?_⟩
   exact tc1
  ·exact tab
  ·subst hA5
   exact tab
theorem Over_c(A A2:Option Addr)(c c2 n d:Nat)(ng:Bool)(w:World)(h:Nt w A c n)(h2:Nt w A2 c2 d)(hd0:0<d)(hn:(zAc B32 n).length<=400000000)(hm:(zAc B32 d).length<=400000000): Calls Tryz.prog 164 #[inV ng A c n,ntV A2 c2 d] w (zCa (ng&&decide (n≠0)) (zCN n d).1 (zCN n d).2 w):=by
 by_cases h0:n=0
 ·subst h0
  rw[lowP_zero d hd0];have:=Over_zero A A2 c c2 d ng w
  simpa using this
 ·have e:(ng&&decide (n≠0))=ng:=by simp[h0]
  rw[e]
  by_cases h1:d=1
  ·subst h1
   rw[lowP_one n 1 (Nat.gcd_one_right n)];exact Over_same A A2 c c2 n ng w h h2 za
  ·exact Over_gen A A2 c c2 n d ng w h h2 za hd0 h1 hn hm
end Go.Proofs.YtbbchlpccgkikaaGreatDoor
namespace Go.Proofs
open Go.Shelf
def Tryz.lays160_ren:Go.Shelf.Ren:=⟨fun|160=>154|232=>202|231=>201|227=>203|234=>205|233=>204|236=>207|235=>206|228=>268|271=>271|151=>270|197=>269|120=>304|152=>303|260=>302|137=>326|119=>327|224=>328|225=>329|217=>339|266=>344|n=>n,fun|9=>9|4=>4|3=>3|5=>5|117=>286|116=>285|0=>0|124=>289|21=>21|105=>330|46=>248|119=>380|139=>383|138=>382|n=>n,fun|3=>2|4=>3|n=>n⟩
theorem Tryz.lays160:Go.Proofs.Lays.n160 Tryz.prog Tryz.lays160_ren:={
 mixed:=zb
 f119:=Tryz.func327.trans (bX some zb)
 f120:=Tryz.func304.trans (bX some zb)
 f137:=Tryz.func326.trans (bX some zb)
 f151:=Tryz.func270.trans (bX some zb)
 f152:=Tryz.func303.trans (bX some zb)
 f160:=Tryz.func154.trans (bX some zb)
 f197:=Tryz.func269.trans (bX some zb)
 f217:=Tryz.func339.trans (bX some zb)
 f224:=Tryz.func328.trans (bX some zb)
 f225:=Tryz.func329.trans (bX some zb)
 f227:=Tryz.func203.trans (bX some zb)
 f228:=Tryz.func268.trans (bX some zb)
 f231:=Tryz.func201.trans (bX some zb)
 f232:=Tryz.func202.trans (bX some zb)
 f233:=Tryz.func204.trans (bX some zb)
 f234:=Tryz.func205.trans (bX some zb)
 f235:=Tryz.func206.trans (bX some zb)
 f236:=Tryz.func207.trans (bX some zb)
 f260:=Tryz.func302.trans (bX some zb)
 f266:=Tryz.func344.trans (bX some zb)
 f271:=Tryz.func271.trans (bX some zb)
 t0:=Tryz.underlying0
 a0:=Tryz.isAgg0
 z0:=Tryz.sizeOf0
 v0:=Tryz.zeroValue0
 t3:=Tryz.underlying3
 a3:=Tryz.isAgg3
 z3:=Tryz.sizeOf3
 v3:=Tryz.zeroValue3
 t4:=Tryz.underlying4
 a4:=Tryz.isAgg4
 z4:=Tryz.sizeOf4
 v4:=Tryz.zeroValue4
 t5:=Tryz.underlying5
 a5:=Tryz.isAgg5
 z5:=Tryz.sizeOf5
 v5:=Tryz.zeroValue5
 t9:=Tryz.underlying9
 a9:=Tryz.isAgg9
 z9:=Tryz.sizeOf9
 v9:=Tryz.zeroValue9
 t21:=Tryz.underlying21
 a21:=Tryz.isAgg21
 z21:=Tryz.sizeOf21
 v21:=Tryz.zeroValue21
 t46:=Tryz.underlying248
 a46:=Tryz.isAgg248
 z46:=Tryz.sizeOf248
 v46:=Tryz.zeroValue248
 t105:=Tryz.underlying330
 a105:=Tryz.isAgg330
 z105:=Tryz.sizeOf330
 v105:=Tryz.zeroValue330
 t116:=Tryz.underlying285
 a116:=Tryz.isAgg285
 z116:=Tryz.sizeOf285
 t117:=Tryz.underlying286
 a117:=Tryz.isAgg286
 z117:=Tryz.sizeOf286
 v117:=Tryz.zeroValue286
 t119:=Tryz.underlying380
 a119:=Tryz.isAgg380
 z119:=Tryz.sizeOf380
 t124:=Tryz.underlying289
 a124:=Tryz.isAgg289
 z124:=Tryz.sizeOf289
 v124:=Tryz.zeroValue289
 t138:=Tryz.underlying382
 a138:=Tryz.isAgg382
 z138:=Tryz.sizeOf382
 v138:=Tryz.zeroValue382
 t139:=Tryz.underlying383
 a139:=Tryz.isAgg383
 z139:=Tryz.sizeOf383
 v139:=Tryz.zeroValue383
 g3:=zb
 g4:=by kernel_rfl }
def Tryz.lays103_ren:Go.Shelf.Ren:=⟨fun|103=>193|210=>261|206=>299|n=>n,fun|9=>9|4=>4|24=>274|3=>3|n=>n,fun|n=>n⟩
theorem Tryz.lays103:Go.Proofs.Lays.n103 Tryz.prog Tryz.lays103_ren:={
 mixed:=zb
 f103:=Tryz.func193.trans (bX some zb)
 f206:=Tryz.func299.trans (bX some zb)
 f210:=Tryz.func261.trans (bX some zb)
 t3:=Tryz.underlying3
 a3:=Tryz.isAgg3
 z3:=Tryz.sizeOf3
 v3:=Tryz.zeroValue3
 t4:=Tryz.underlying4
 a4:=Tryz.isAgg4
 z4:=Tryz.sizeOf4
 v4:=Tryz.zeroValue4
 t9:=Tryz.underlying9
 a9:=Tryz.isAgg9
 z9:=Tryz.sizeOf9
 v9:=Tryz.zeroValue9
 t24:=Tryz.underlying274
 a24:=Tryz.isAgg274
 z24:=Tryz.sizeOf274
 v24:=Tryz.zeroValue274 }
def Tryz.lays106_ren:Go.Shelf.Ren:=⟨fun|106=>99|213=>162|265=>219|n=>n,fun|9=>9|3=>3|n=>n,fun|n=>n⟩
theorem Tryz.lays106:Go.Proofs.Lays.n106 Tryz.prog Tryz.lays106_ren:={
 mixed:=zb
 f106:=Tryz.func99.trans (bX some zb)
 f213:=Tryz.func162.trans (bX some zb)
 f265:=Tryz.func219.trans (bX some zb)
 t3:=Tryz.underlying3
 a3:=Tryz.isAgg3
 z3:=Tryz.sizeOf3
 v3:=Tryz.zeroValue3
 t9:=Tryz.underlying9
 a9:=Tryz.isAgg9
 z9:=Tryz.sizeOf9
 v9:=Tryz.zeroValue9 }
end Go.Proofs
namespace Go.Proofs.YtbbchlpccgkikaaGreatDoor
open Go.RowKit Dw
theorem Of_c(n:Nat)(w:World)(h:n<=1000000000):Calls Tryz.prog 103 #[.int .i64 (n:Int)] w (GivesI false n w):=by
 go_enter Tryz.func103,Tryz.ntmps103;(go_wp2_with fail);(with_reducible refine(natOf_c n _ za).mono ?_);rintro e w1⟨A5,c5,rfl,h5,hb⟩;obtain⟨hc,hf⟩:=bcellK hb;have hz:w.heap.size<w1.heap.size:=qb;have k0:w1.cell? ⟨w.heap.size,0,none⟩=some (.bool false):=zj;have k1:w1.cell? ⟨w.heap.size,1,none⟩=some (.slice none 0 0):=zj;have HB:Hid (Below w.heap.size w w1):=((aJ w.heap.size w).alloc (aE _) _).trans (hb.mono zd);go_wp2;refine aC (v:=inV false A5 c5 n) (by simp[results,Tryz.results103,go_sem,hc]) rfl ⟨A5,c5,rfl,?_,?_⟩
 ·exact h5.set2 k0 k1 (nb_ _) (ns_ _ _ _) _ _
 ·exact(HB.o.setCell zd _).setCell zd _
theorem Whole_c(n:Nat)(w:World)(h:n<=1000000000):Calls Tryz.prog 49 #[.int .i64 (n:Int)] w (zCa false n 1 w):=by
 go_enter Tryz.func49,Tryz.ntmps49;(go_wp2_with fail);(with_reducible refine(Of_c n _ h).mono ?_);rintro e w1⟨A5,c5,rfl,h5,hb⟩;(go_wp2_with fail);(with_reducible refine(One_c _).mono ?_);rintro e w2⟨A6,c6,rfl,h6,hb6⟩;have h56:=h5.below hb6;have hb7:=zAa hb hb6;obtain⟨hc,hf⟩:=bcellK hb7;have hz:w.heap.size<w2.heap.size:=by have:=hb7.size;simp at this;omega
 have k0:w2.cell? ⟨w.heap.size,0,none⟩=some (.bool false):=zj;have k1:w2.cell? ⟨w.heap.size,1,none⟩=some (.slice none 0 0):=zj;have k2:w2.cell? ⟨w.heap.size,2,none⟩=some (.slice none 0 0):=zj;have HB:Hid (Below w.heap.size w w2):=((aJ w.heap.size w).alloc (aE _) _).trans (hb7.mono zd);go_wp2;refine aC (v:=raV false A5 c5 n A6 c6 1) (by simp[results,Tryz.results49,go_sem,hc]) rfl ⟨A5,c5,A6,c6,rfl,?_,?_,?_⟩
 ·exact h56.set3 k0 k1 k2 (nb_ _) (ns_ _ _ _) (ns_ _ _ _) _ _ _
 ·exact h6.set3 k0 k1 k2 (nb_ _) (ns_ _ _ _) (ns_ _ _ _) _ _ _
 ·exact tc1
theorem byte45(c:UInt8):(45 == c)=decide (c.toNat=45):=by
 have h:∀n:Nat,n<256->((45:UInt8) == UInt8.ofNat n)=decide ((UInt8.ofNat n).toNat=45):=by decide +kernel
 have:=h c.toNat c.toNat_lt
 simpa using this
theorem cut_c(s:BA)(w:World):Calls Tryz.prog 193 #[.string s,.string ⟨#[45]⟩] w (zBk (.tuple #[.string (zBe s),.bool (negB s)]) w):=by
 have h:=Any.strings_CutPrefix Tryz.lays103 s ⟨#[45]⟩ w;change Calls Tryz.prog 193 _ _ _ at h
 have e1:Lib.hasPrefix s.data.toList [45]=negB s:=by
  unfold Lib.hasPrefix negB;rw[Lib.size_eq]
  cases s.data.toList with
  |nil=>rfl
  |cons a l =>
   have:(45 == a)=decide (a.toNat=45):=byte45 a;simp[List.isPrefixOf,this]
 have e2:(⟨(Lib.trimPrefix s.data.toList [45]).toArray⟩:BA)=zBe s:=by
  unfold Lib.trimPrefix zBe absL;rw[e1]
  cases negB s<;>simp
 refine h.mono fun _ _ ⟨he,hw⟩=>⟨?_,hw.symm⟩
 rw[he];show Ending.returned (.tuple #[.string ⟨(Lib.trimPrefix s.data.toList [45]).toArray⟩,.bool (Lib.hasPrefix s.data.toList [45])])=_
 rw[e1,e2]
def Bx(w:World)(g:Nat)(cs:Array Value)(T:TypeId):Prop:=w.heap[g]?=some (.cells cs T (0,0))
section
variable {w w':World} {g:Nat} {cs:Array Value} {T:TypeId}
theorem Bx.lt(h:Bx w g cs T):g<w.heap.size:=(Array.getElem?_eq_some_iff.1 h).1
theorem Bx.cell(h:Bx w g cs T){i:Nat}{v:Value}(hi:cs[i]?=some v):w.cell? ⟨g,i,none⟩=some v:=by
 rw[aX w g i _ _ _ h];exact hi
theorem Bx.c(h:Bx w g cs T)(i:Nat){v:Value}(hi:cs[i]?=some v):w.cell? ⟨g,i,none⟩=some v:=h.cell hi
theorem Bx.t{w:World}{g:Nat}{T:TypeId}{a b c:Value}(h:Bx w g #[a,b,c] T):w.cell? ⟨g,0,none⟩=some a/\w.cell? ⟨g,1,none⟩=some b/\w.cell? ⟨g,2,none⟩=some c:=⟨h.c 0 rfl,h.c 1 rfl,h.c 2 rfl⟩
theorem Bx.frozen(h:Bx w g cs T)(i:Nat):w.frozen? ⟨g,i,none⟩=false:=cU w g i _ _ h
theorem Bx.below(h:Bx w g cs T)(hb:Below w.heap.size w w'):Bx w' g cs T:=(hb.block g h.lt).trans h
theorem Bx.drew(h:Bx w g cs T):Bx w.drew g cs T:=h
theorem Bx.drewN(h:Bx w g cs T)(n:Nat):Bx (w.drewN n) g cs T:=h
theorem Bx.alloc(h:Bx w g cs T)(o:Obj):Bx (w.alloc o) g cs T:=(dT w o g h.lt).trans h
theorem Bx.new(w:World)(cs:Array Value)(T:TypeId):Bx (w.alloc (.cells cs T)) w.heap.size cs T:=aK w _
theorem Bx.new1(w:World)(o:Obj)(cs:Array Value)(T:TypeId):Bx ((w.alloc o).alloc (.cells cs T)) (w.heap.size+1) cs T:=by
 have:=Bx.new (w.alloc o) cs T
 rwa [show(w.alloc o).heap.size=w.heap.size+1 by simp]at this
theorem Bx.new2(w:World)(o o2:Obj)(cs:Array Value)(T:TypeId):Bx (((w.alloc o).alloc o2).alloc (.cells cs T)) (w.heap.size+1+1) cs T:=by
 have:=Bx.new1 (w.alloc o) o2 cs T
 rwa [show(w.alloc o).heap.size=w.heap.size+1 by simp]at this
end
abbrev zBj:Array Value:=#[.bool false,.slice none 0 0,.slice none 0 0]
theorem Nt.setR{w:World}{A:Option Addr}{c n R:Nat}{T:TypeId}(h:Nt w A c n)(hb:Bx w R zBj T)(u0 u1 u2:Value):Nt (((w.setCell ⟨R,0,none⟩ u0).setCell ⟨R,1,none⟩ u1).setCell ⟨R,2,none⟩ u2) A c n:=
 h.set3 (hb.c 0 rfl) (hb.c 1 rfl) (hb.c 2 rfl) (nb_ _) (ns_ _ _ _) (ns_ _ _ _) _ _ _
def sgB(s:BA):Bool:=negB s&&decide (zAD (zBe s)≠0)
theorem Parse_c(s:BA)(w:World)(hd:(zBe s).data.toList.all dgB=true)(hs:(zBe s).size<=2000):Calls Tryz.prog 146 #[.string s] w (GivesI (sgB s) (zAD (zBe s)) w):=by
 have HS:Hid ((zAD (zBe s)=0/\sgB s=false)\/(0<(zAc B32 (zAD (zBe s))).length/\sgB s=negB s)):=by
  by_cases h0:zAD (zBe s)=0
  ·exact .inl ⟨h0,by simp[sgB,h0]⟩
  ·exact .inr ⟨pos_len za,by simp[sgB,h0]⟩
 have HN:=zq (fun W=>natText_c (zBe s) W hd hs);have HC:=zq (fun W=>cut_c s W);clear hd hs;generalize zBe s=t at *;generalize zAD t=n at *;generalize sgB s=sg at *;generalize negB s=ng at *
 rcases HS.o with ⟨rfl,rfl⟩|⟨hl,rfl⟩
 case' inr=>cases sg
 case' inl=>cases ng
 all_goals
  clear HS
  go_enter Tryz.func146,Tryz.ntmps146;(go_wp2_with fail);(with_reducible refine(HC.o _).mono ?_);rintro e w1⟨rfl,rfl⟩;(go_wp2_with fail);(with_reducible refine(HN.o _).mono ?_);rintro e w2⟨A5,c5,rfl,h5,hb⟩;obtain⟨hc,hf⟩:=bcellK hb;have hz:w.heap.size<w2.heap.size:=qb;have k0:w2.cell? ⟨w.heap.size,0,none⟩=some (.bool false):=zj;have k1:w2.cell? ⟨w.heap.size,1,none⟩=some (.slice none 0 0):=zj;have HB:Hid (Below w.heap.size w w2):=((aJ w.heap.size w).alloc (aE _) _).trans (hb.mono zd);clear HC HN;go_wp2;refine aC (v:=inV _ A5 c5 _) (by first|(simp[results,Tryz.results146,go_sem,hc];done)|(simp[results,Tryz.results146,go_sem,hc];rfl)) rfl ⟨A5,c5,rfl,?_,?_⟩
  ·exact h5.set2 k0 k1 (nb_ _) (ns_ _ _ _) _ _
  ·exact(HB.o.setCell zd _).setCell zd _
theorem From_c(nu de:BA)(w:World)(hd:(zBe nu).data.toList.all dgB=true)(hs:(zBe nu).size<=2000)(hd2:de.data.toList.all dgB=true)(hs2:de.size<=2000): Calls Tryz.prog 80 #[.agg #[.string nu,.string de]] w (zCa (sgB nu) (zAD (zBe nu)) (zAD de) w):=by
 have HP:=zq (fun W=>Parse_c nu W hd hs);have HN:=zq (fun W=>natText_c de W hd2 hs2);clear hd hs hd2 hs2;generalize zAD (zBe nu)=n at *;generalize sgB nu=sg at *;generalize zAD de=d at *
 go_enter Tryz.func80,Tryz.ntmps80;go_wp2;have HX:Hid (Bx ((w.alloc (.cells #[.string nu,.string de] 36)).alloc (.cells zBj 86)) w.heap.size #[.string nu,.string de] 36):=(Bx.new _ _ _).alloc _;have HR:Hid (Bx ((w.alloc (.cells #[.string nu,.string de] 36)).alloc (.cells zBj 86)) (w.heap.size+1) zBj 86):=Bx.new1 _ _ _ _;have HB:Hid (Below w.heap.size w ((w.alloc (.cells #[.string nu,.string de] 36)).alloc (.cells zBj 86))):=((aJ w.heap.size w).alloc (aE _) _).alloc zd _
 go_region_held3 (fun w'=>w'.cell? ⟨w.heap.size,0,none⟩=some (.string nu)/\w'.cell? ⟨w.heap.size,1,none⟩=some (.string de)) ((refine⟨?_,?_⟩<;>first|with_reducible assumption|go_simp))
  (first
   |((go_at_call 146;(with_reducible refine(HP.o _).mono ?_);rintro e w1⟨A5,c5,rfl,h5,hb⟩;have HX1:=zq (HX.o.drew.below hb);have HR1:=zq (HR.o.drew.below hb);have HB1:=zq ((zAd HB.o 1).trans (hb.mono HB.o.size));have a0:=HX1.o.c 0 rfl;have a1:=HX1.o.c 1 rfl;clear hb))
   |((go_at_call 147;(with_reducible refine(HN.o _).mono ?_);rintro e w2⟨A6,c6,rfl,h6,hb6⟩;have h56:=h5.below hb6;have HX2:=zq (HX1.o.below hb6);have HR2:=zq (HR1.o.below hb6);have HB2:=zq (zAa HB1.o hb6);have a2:=HX2.o.c 0 rfl;have a3:=HX2.o.c 1 rfl;obtain⟨r0,r1,r2⟩:=HR2.o.t;have fr:=HR2.o.frozen;have rl:=HR2.o.lt;clear hb6)))
 clear HX HR HB HX1 HR1 HB1 a0 a1 h5;go_wp2;refine aC (v:=raV sg A5 c5 n A6 c6 d) (by simp[results,Tryz.results80,go_sem,r0,r1,r2]) rfl ⟨A5,c5,A6,c6,rfl,h56.setR HR2.o _ _ _,h6.setR HR2.o _ _ _,?_⟩
 exact((HB2.o.setCell zd _).setCell zd _).setCell zd _
def lowB(n d:Nat):Bool:=decide (Nat.gcd n d=1)
theorem low_cmp{n d:Nat}(hd:0<d):(cmpN (zCN n d).2 d == 0)=lowB n d:=by
 unfold lowB zCN;show(cmpN (d/Nat.gcd n d) d == 0)=_
 have hg:=dS n hd
 by_cases h:Nat.gcd n d=1
 ·have e:d/Nat.gcd n d=d:=by rw[h];exact Nat.div_one d
  rw[e,zDq rfl];simp[h]
 ·have hlt:d/Nat.gcd n d<d:=Nat.div_lt_self hd za
  rw[zCI hlt];simp[h]
theorem fldDen(W:World)(ng:Bool)(A A2:Option Addr)(n c m c2:Nat):(Instr.field 86 (.agg #[.bool ng,.slice A n c,.slice A2 m c2]) 1).run Tryz.prog W=.ok (.slice A2 m c2) W:=zb
theorem Lowest_c(ng:Bool)(A A2:Option Addr)(c c2 n d:Nat)(w:World)(h:Nt w A c n)(h2:Nt w A2 c2 d)(hd:0<d)(hn:(zAc B32 n).length<=400000000)(hm:(zAc B32 d).length<=400000000): Calls Tryz.prog 264 #[raV ng A c n A2 c2 d] w (zAg (.bool (lowB n d)) w):=by
 have hlc:=low_cmp (n:=n) hd;have HL2:Hid ((zAc B32 (zCN n d).2).length<=400000000):=dC (zAI zAn (Nat.div_le_self d _)) hm;have HO:=zq (fun W (q:Nt W A c n) (q2:Nt W A2 c2 d)=>Over_c A A2 c c2 n d ng W q q2 hd hn hm);generalize (ng&&decide (n≠0))=ng2 at *;generalize (zCN n d).1=p1 at *;generalize (zCN n d).2=p2 at *;generalize lowB n d=lb at *;have HLC:=zq hlc;clear hlc hd;have HXX:Hid (Bx (w.alloc (.cells #[.bool ng,.slice A (zAc B32 n).length c,.slice A2 (zAc B32 d).length c2] 86)) w.heap.size #[.bool ng,.slice A (zAc B32 n).length c,.slice A2 (zAc B32 d).length c2] 86):=Bx.new _ _ _;have HB:Hid (Below w.heap.size w (w.alloc (.cells #[.bool ng,.slice A (zAc B32 n).length c,.slice A2 (zAc B32 d).length c2] 86))):=(aJ w.heap.size w).alloc (aE _) _
 go_enter Tryz.func264,Tryz.ntmps264;go_wp2;have hfd:=fldDen
 go_region_held3 (fun w'=>w'.cell? ⟨w.heap.size,0,none⟩=some (.bool ng)/\w'.cell? ⟨w.heap.size,1,none⟩=some (.slice A (zAc B32 n).length c)/\w'.cell? ⟨w.heap.size,2,none⟩=some (.slice A2 (zAc B32 d).length c2)) ((refine⟨?_,?_,?_⟩<;>first|with_reducible assumption|go_simp))
  (first
   |((go_at_call 164;(with_reducible refine(HO.o _ (Nt.drew (h.alloc _)) (Nt.drew (h2.alloc _))).mono ?_);rintro e w1⟨A5,c5,A6,c6,rfl,h5,h6,hb⟩;have HX1:=zq (HXX.o.drew.below hb);have HB1:=zq ((zAd HB.o 1).trans (hb.mono HB.o.size));obtain⟨a0,a1,a2⟩:=HX1.o.t;have h21:=(Nt.drew (h2.alloc _)).below hb;clear hb))
   |((go_at_call 163;(with_reducible refine(Cmp_c A6 A2 c6 c2 p2 d _ h6 h21 (dC HL2.o za)).mono ?_);rintro e w2⟨rfl,nd,rfl⟩)))
 clear HXX HB HX1 a0 a1 a2 h5 h6 h21 hfd;go_wp2;go_ret
 exact zAg.mk (zDm HLC.o) (zAd HB1.o nd)
theorem lowP_scale{k x y:Nat}(h:0<k):zCN (k*x) (k*y)=zCN x y:=by
 unfold zCN;rw[Nat.gcd_mul_left,Nat.mul_div_mul_left _ _ h,Nat.mul_div_mul_left _ _ h]
theorem addP_same(n m d:Nat)(h:0<d):addP (n,d) (m,d)=zCN (n+m) d:=by
 unfold addP;show zCN (n*d+m*d) (d*d)=_
 rw[<-bT,aR,lowP_scale h]
theorem zCC(a b:Nat):(zAc B32 (a*b)).length<=(zAc B32 a).length+(zAc B32 b).length:=by
 refine zCt zAn ?_;rw[Nat.pow_add];have h1:=zCf zAn a;have h2:=zCf zAn b;exact bV (cB a (Nat.le_of_lt h2)) (Nat.mul_lt_mul_of_pos_right h1 (Nat.pow_pos zBI))
theorem len_add(a b:Nat):(zAc B32 (a+b)).length<=max (zAc B32 a).length (zAc B32 b).length+1:=by
 refine zCt zAn ?_;have h1:=zCf zAn a;have h2:=zCf zAn b;have h3:B32^(zAc B32 a).length<=B32^max (zAc B32 a).length (zAc B32 b).length:=aV zBI (Nat.le_max_left _ _);have h4:B32^(zAc B32 b).length<=B32^max (zAc B32 a).length (zAc B32 b).length:=aV zBI (Nat.le_max_right _ _);rw[bQ];have h5:=cB (B32^max (zAc B32 a).length (zAc B32 b).length) (show 2<=B32 by decide);omega
abbrev raC(A:Option Addr)(c n:Nat)(A2:Option Addr)(c2 d:Nat):Array Value:=#[.bool false,.slice A (zAc B32 n).length c,.slice A2 (zAc B32 d).length c2]
theorem RCmp_c(A A2 A3 A4:Option Addr)(c c2 c3 c4 n d m e:Nat)(w:World)(h:Nt w A c n)(h2:Nt w A2 c2 d)(h3:Nt w A3 c3 m)(h4:Nt w A4 c4 e)(hn:(zAc B32 n).length<=100000000)(hd:(zAc B32 d).length<=100000000)(hm:(zAc B32 m).length<=100000000)(he:(zAc B32 e).length<=100000000): Calls Tryz.prog 48 #[raV false A c n A2 c2 d,raV false A3 c3 m A4 c4 e] w (zAg (.int .i64 (cmpN (n*e) (m*d))) w):=by
 have HM1:=zq (fun W (q:Nt W A c n) (q2:Nt W A4 c4 e)=>IMul_c A A4 c c4 n e W q q2 za za);have HM2:=zq (fun W (q:Nt W A3 c3 m) (q2:Nt W A2 c2 d)=>IMul_c A3 A2 c3 c2 m d W q q2 za za);have HL:Hid ((zAc B32 (n*e)).length<=400000000):=dC (zCC n e) za;obtain⟨p,hp⟩:∃p,n*e=p:=⟨_,rfl⟩;obtain⟨q,hq⟩:∃q,m*d=q:=⟨_,rfl⟩;rw[hp]at HM1 HL ⊢;rw[hq]at HM2 ⊢;clear hp hq;have HK:=zq (fun(A5:Option Addr) c5 (A6:Option Addr) c6 W (x:Nt W A5 c5 p) (y:Nt W A6 c6 q)=>ICmp_c A5 A6 c5 c6 p q W x y HL.o);have HX:Hid (Bx ((w.alloc (.cells (raC A c n A2 c2 d) 86)).alloc (.cells (raC A3 c3 m A4 c4 e) 86)) w.heap.size (raC A c n A2 c2 d) 86):=(Bx.new _ _ _).alloc _;have HY:Hid (Bx ((w.alloc (.cells (raC A c n A2 c2 d) 86)).alloc (.cells (raC A3 c3 m A4 c4 e) 86)) (w.heap.size+1) (raC A3 c3 m A4 c4 e) 86):=Bx.new1 _ _ _ _;have HB:Hid (Below w.heap.size w ((w.alloc (.cells (raC A c n A2 c2 d) 86)).alloc (.cells (raC A3 c3 m A4 c4 e) 86))):=((aJ w.heap.size w).alloc (aE _) _).alloc zd _;clear hn hd hm he
 go_enter Tryz.func48,Tryz.ntmps48;go_wp2
 go_region_held3 (fun w'=>(w'.cell? ⟨w.heap.size,0,none⟩=some (.bool false)/\w'.cell? ⟨w.heap.size,1,none⟩=some (.slice A (zAc B32 n).length c)/\w'.cell? ⟨w.heap.size,2,none⟩=some (.slice A2 (zAc B32 d).length c2))/\(w'.cell? ⟨w.heap.size+1,0,none⟩=some (.bool false)/\w'.cell? ⟨w.heap.size+1,1,none⟩=some (.slice A3 (zAc B32 m).length c3)/\w'.cell? ⟨w.heap.size+1,2,none⟩=some (.slice A4 (zAc B32 e).length c4)))
  ((refine⟨⟨?_,?_,?_⟩,?_,?_,?_⟩<;>first|with_reducible assumption|go_simp))
  (first
   |((go_at_call 101;(with_reducible refine(HM1.o _ (Nt.drew ((h.alloc _).alloc _)) (Nt.drew ((h4.alloc _).alloc _))).mono ?_);rintro e1 w1⟨A5,c5,rfl,h5,hb⟩;have HX1:=zq (HX.o.drew.below hb);have HY1:=zq (HY.o.drew.below hb);have HB1:=zq ((zAd HB.o 1).trans (hb.mono HB.o.size));obtain⟨a0,a1,a2⟩:=HX1.o.t;obtain⟨b0,b1,b2⟩:=HY1.o.t;have h31:=(Nt.drew ((h3.alloc _).alloc _)).below hb;have h21:=(Nt.drew ((h2.alloc _).alloc _)).below hb;clear hb))
   |((go_at_call 101;(with_reducible refine(HM2.o _ h31 h21).mono ?_);rintro e2 w2⟨A6,c6,rfl,h6,hb6⟩;have h52:=h5.below hb6;have HX2:=zq (HX1.o.below hb6);have HY2:=zq (HY1.o.below hb6);have HB2:=zq (zAa HB1.o hb6);clear a0 a1 a2 b0 b1 b2;obtain⟨a0,a1,a2⟩:=HX2.o.t;obtain⟨b0,b1,b2⟩:=HY2.o.t;clear hb6))
   |((go_at_call 102;(with_reducible refine(HK.o _ _ _ _ _ h52 h6).mono ?_);rintro e3 w3⟨rfl,hb7⟩;have HB3:=zq (zAa HB2.o hb7);have HX3:=zq (HX2.o.below hb7);have HY3:=zq (HY2.o.below hb7);clear a0 a1 a2 b0 b1 b2;obtain⟨a0,a1,a2⟩:=HX3.o.t;obtain⟨b0,b1,b2⟩:=HY3.o.t;clear hb7)))
 go_wp2;go_ret
 exact zAg.mk rfl HB3.o
theorem RAdd_same(A A2 A3 A4:Option Addr)(c c2 c3 c4 n d m e:Nat)(w:World)(h:Nt w A c n)(h2:Nt w A2 c2 d)(h3:Nt w A3 c3 m)(h4:Nt w A4 c4 e)(hn:(zAc B32 n).length<=100000000)(hd:(zAc B32 d).length<=100000000)(hm:(zAc B32 m).length<=100000000)(he:(zAc B32 e).length<=100000000)(hd0:0<d)(he0:0<e)(hde:d=e): Calls Tryz.prog 100 #[raV false A c n A2 c2 d,raV false A3 c3 m A4 c4 e] w (zCa false (addP (n,d) (m,e)).1 (addP (n,d) (m,e)).2 w):=by
 subst hde;rw[addP_same n m d hd0];have HC:=zq (fun W (x:Nt W A2 c2 d) (y:Nt W A4 c4 d)=>Cmp_c A2 A4 c2 c4 d d W x y za);have HA:=zq (fun W (x:Nt W A c n) (y:Nt W A3 c3 m)=>IAdd_c A A3 c c3 n m W x y za za);have HO:=zq (fun A5 c5 W (x:Nt W A5 c5 (n+m)) (y:Nt W A2 c2 d)=>Over_c A5 A2 c5 c2 (n+m) d false W x y hd0 (by have:=len_add n m;omega) za);rw[zDq rfl]at HC;simp only[Bool.false_and]at HO;generalize (zCN (n+m) d).1=pp at *;generalize (zCN (n+m) d).2=pq at *;generalize n+m=nm at *;have HX0:Hid (Bx (((w.alloc (.cells (raC A c n A2 c2 d) 86)).alloc (.cells (raC A3 c3 m A4 c4 d) 86)).alloc (.cells zBj 86)) w.heap.size (raC A c n A2 c2 d) 86):=((Bx.new _ _ _).alloc _).alloc _;have HY0:Hid (Bx (((w.alloc (.cells (raC A c n A2 c2 d) 86)).alloc (.cells (raC A3 c3 m A4 c4 d) 86)).alloc (.cells zBj 86)) (w.heap.size+1) (raC A3 c3 m A4 c4 d) 86):=(Bx.new1 _ _ _ _).alloc _;have HZ0:Hid (Bx (((w.alloc (.cells (raC A c n A2 c2 d) 86)).alloc (.cells (raC A3 c3 m A4 c4 d) 86)).alloc (.cells zBj 86)) (w.heap.size+1+1) zBj 86):=Bx.new2 _ _ _ _ _;have HB0:Hid (Below w.heap.size w (((w.alloc (.cells (raC A c n A2 c2 d) 86)).alloc (.cells (raC A3 c3 m A4 c4 d) 86)).alloc (.cells zBj 86))):=(((aJ w.heap.size w).alloc (aE _) _).alloc zd _).alloc ze _;obtain⟨W,hW⟩:∃W,W=(((w.alloc (.cells (raC A c n A2 c2 d) 86)).alloc (.cells (raC A3 c3 m A4 c4 d) 86)).alloc (.cells zBj 86)):=⟨_,rfl⟩;have g1:Nt W A c n:=yb;have g2:Nt W A2 c2 d:=zx;have g3:Nt W A3 c3 m:=zy;have g4:Nt W A4 c4 d:=ya;rw[<-hW]at HX0 HY0 HZ0 HB0;clear hn hd hm he hd0 he0
 go_enter Tryz.func100,Tryz.ntmps100;(go_wp2_with fail);rw[<-hW];clear hW;obtain⟨x0,x1,x2⟩:=HX0.o.t;obtain⟨y0,y1,y2⟩:=HY0.o.t;have z0:=HZ0.o.frozen;have z1:=HZ0.o.lt;(go_wp2_with fail);(with_reducible refine(HC.o _ g2 g4).mono ?_);rintro e0 w0⟨rfl,nd,rfl⟩;clear x0 x1 x2 y0 y1 y2 z0 z1;have HX:=zq (HX0.o.drewN (nd+1));have HY:=zq (HY0.o.drewN (nd+1));have HZ:=zq (HZ0.o.drewN (nd+1));have HB:=zq (zAd HB0.o (nd+1));obtain⟨x0,x1,x2⟩:=HX.o.t;obtain⟨y0,y1,y2⟩:=HY.o.t;clear HX0 HY0 HZ0 HB0;go_wp2
 go_region_held3 (fun w'=>(w'.cell? ⟨w.heap.size,0,none⟩=some (.bool false)/\w'.cell? ⟨w.heap.size,1,none⟩=some (.slice A (zAc B32 n).length c)/\w'.cell? ⟨w.heap.size,2,none⟩=some (.slice A2 (zAc B32 d).length c2))/\(w'.cell? ⟨w.heap.size+1,0,none⟩=some (.bool false)/\w'.cell? ⟨w.heap.size+1,1,none⟩=some (.slice A3 (zAc B32 m).length c3)/\w'.cell? ⟨w.heap.size+1,2,none⟩=some (.slice A4 (zAc B32 d).length c4)))
  ((refine⟨⟨?_,?_,?_⟩,?_,?_,?_⟩<;>first|with_reducible assumption|go_simp))
  (first
   |((go_at_call 165;(with_reducible refine(HA.o _ (g1.drewN (nd+1)) (g3.drewN (nd+1))).mono ?_);rintro e1 w1⟨A5,c5,rfl,h5,hb1⟩;have HX1:=zq (HX.o.below hb1);have HY1:=zq (HY.o.below hb1);have HZ1:=zq (HZ.o.below hb1);have HB1:=zq (HB.o.trans (hb1.mono HB.o.size));have g21:=(g2.drewN (nd+1)).below hb1;obtain⟨a0,a1,a2⟩:=HX1.o.t;obtain⟨b0,b1,b2⟩:=HY1.o.t;clear hb1))
   |((go_at_call 164;(with_reducible refine(HO.o _ _ _ h5 g21).mono ?_);rintro e2 w2⟨A6,c6,A7,c7,rfl,h6,h7,hb2⟩;have HX2:=zq (HX1.o.below hb2);have HY2:=zq (HY1.o.below hb2);have HZ2:=zq (HZ1.o.below hb2);have HB2:=zq (zAa HB1.o hb2);clear a0 a1 a2 b0 b1 b2;obtain⟨a0,a1,a2⟩:=HX2.o.t;obtain⟨b0,b1,b2⟩:=HY2.o.t;obtain⟨r0,r1,r2⟩:=HZ2.o.t;have fr:=HZ2.o.frozen;have rl:=HZ2.o.lt;clear hb2)))
 clear HX HY HZ HB;go_wp2;refine aC (v:=raV false A6 c6 pp A7 c7 pq) ym rfl ⟨A6,c6,A7,c7,rfl,h6.setR HZ2.o _ _ _,h7.setR HZ2.o _ _ _,?_⟩
 exact((HB2.o.setCell ze _).setCell ze _).setCell ze _
theorem RAdd_diff(A A2 A3 A4:Option Addr)(c c2 c3 c4 n d m e:Nat)(w:World)(h:Nt w A c n)(h2:Nt w A2 c2 d)(h3:Nt w A3 c3 m)(h4:Nt w A4 c4 e)(hn:(zAc B32 n).length<=100000000)(hd:(zAc B32 d).length<=100000000)(hm:(zAc B32 m).length<=100000000)(he:(zAc B32 e).length<=100000000)(hd0:0<d)(he0:0<e)(hde:d≠e): Calls Tryz.prog 100 #[raV false A c n A2 c2 d,raV false A3 c3 m A4 c4 e] w (zCa false (addP (n,d) (m,e)).1 (addP (n,d) (m,e)).2 w):=by
 have HC:=zq (fun W (x:Nt W A2 c2 d) (y:Nt W A4 c4 e)=>Cmp_c A2 A4 c2 c4 d e W x y za)
 have hk:(cmpN d e == 0)=false:=by
  exact tcm
 have l1:=zCC n e;have l2:=zCC m d;have l3:=zCC d e;have l4:=len_add (n*e) (m*d);have HM1:=zq (fun W (x:Nt W A c n) (y:Nt W A4 c4 e)=>IMul_c A A4 c c4 n e W x y za za);have HM2:=zq (fun W (x:Nt W A3 c3 m) (y:Nt W A2 c2 d)=>IMul_c A3 A2 c3 c2 m d W x y za za);have HM3:=zq (fun W (x:Nt W A2 c2 d) (y:Nt W A4 c4 e)=>Mul_c A2 A4 c2 c4 d e W x y za za);have HA:=zq (fun A5 c5 A6 c6 W (x:Nt W A5 c5 (n*e)) (y:Nt W A6 c6 (m*d))=>IAdd_c A5 A6 c5 c6 (n*e) (m*d) W x y za za);have HO:=zq (fun A5 c5 A6 c6 W (x:Nt W A5 c5 (n*e+m*d)) (y:Nt W A6 c6 (d*e))=>Over_c A5 A6 c5 c6 (n*e+m*d) (d*e) false W x y (dH hd0 he0) za za);simp only[Bool.false_and]at HO;have hap:addP (n,d) (m,e)=zCN (n*e+m*d) (d*e):=rfl;rw[hap];clear hap l1 l2 l3 l4;generalize (zCN (n*e+m*d) (d*e)).1=pp at *;generalize (zCN (n*e+m*d) (d*e)).2=pq at *;generalize n*e=p1 at *;generalize m*d=p2 at *;generalize d*e=p3 at *;generalize p1+p2=p4 at *;generalize cmpN d e=cz at *;have HX0:Hid (Bx (((w.alloc (.cells (raC A c n A2 c2 d) 86)).alloc (.cells (raC A3 c3 m A4 c4 e) 86)).alloc (.cells zBj 86)) w.heap.size (raC A c n A2 c2 d) 86):=((Bx.new _ _ _).alloc _).alloc _;have HY0:Hid (Bx (((w.alloc (.cells (raC A c n A2 c2 d) 86)).alloc (.cells (raC A3 c3 m A4 c4 e) 86)).alloc (.cells zBj 86)) (w.heap.size+1) (raC A3 c3 m A4 c4 e) 86):=(Bx.new1 _ _ _ _).alloc _;have HZ0:Hid (Bx (((w.alloc (.cells (raC A c n A2 c2 d) 86)).alloc (.cells (raC A3 c3 m A4 c4 e) 86)).alloc (.cells zBj 86)) (w.heap.size+1+1) zBj 86):=Bx.new2 _ _ _ _ _;have HB0:Hid (Below w.heap.size w (((w.alloc (.cells (raC A c n A2 c2 d) 86)).alloc (.cells (raC A3 c3 m A4 c4 e) 86)).alloc (.cells zBj 86))):=(((aJ w.heap.size w).alloc (aE _) _).alloc zd _).alloc ze _;obtain⟨W,hW⟩:∃W,W=(((w.alloc (.cells (raC A c n A2 c2 d) 86)).alloc (.cells (raC A3 c3 m A4 c4 e) 86)).alloc (.cells zBj 86)):=⟨_,rfl⟩;have g1:Nt W A c n:=yb;have g2:Nt W A2 c2 d:=zx;have g3:Nt W A3 c3 m:=zy;have g4:Nt W A4 c4 e:=ya;rw[<-hW]at HX0 HY0 HZ0 HB0;clear hn hd hm he hd0 he0 hde
 go_enter Tryz.func100,Tryz.ntmps100;(go_wp2_with fail);rw[<-hW];clear hW;obtain⟨x0,x1,x2⟩:=HX0.o.t;obtain⟨y0,y1,y2⟩:=HY0.o.t;have z0:=HZ0.o.frozen;have z1:=HZ0.o.lt;(go_wp2_with fail);(with_reducible refine(HC.o _ g2 g4).mono ?_);rintro e0 w0⟨rfl,nd,rfl⟩;clear x0 x1 x2 y0 y1 y2 z0 z1;have HX:=zq (HX0.o.drewN (nd+1));have HY:=zq (HY0.o.drewN (nd+1));have HZ:=zq (HZ0.o.drewN (nd+1));have HB:=zq (zAd HB0.o (nd+1));obtain⟨x0,x1,x2⟩:=HX.o.t;obtain⟨y0,y1,y2⟩:=HY.o.t;clear HX0 HY0 HZ0 HB0;go_wp2
 go_region_held3 (fun w'=>(w'.cell? ⟨w.heap.size,0,none⟩=some (.bool false)/\w'.cell? ⟨w.heap.size,1,none⟩=some (.slice A (zAc B32 n).length c)/\w'.cell? ⟨w.heap.size,2,none⟩=some (.slice A2 (zAc B32 d).length c2))/\(w'.cell? ⟨w.heap.size+1,0,none⟩=some (.bool false)/\w'.cell? ⟨w.heap.size+1,1,none⟩=some (.slice A3 (zAc B32 m).length c3)/\w'.cell? ⟨w.heap.size+1,2,none⟩=some (.slice A4 (zAc B32 e).length c4)))
  ((refine⟨⟨?_,?_,?_⟩,?_,?_,?_⟩<;>first|with_reducible assumption|go_simp))
  (first
   |((go_at_call 101;(with_reducible refine(HM1.o _ (g1.drewN (nd+1)) (g4.drewN (nd+1))).mono ?_);rintro e1 w1⟨A5,c5,rfl,h5,hb1⟩;have HX1:=zq (HX.o.below hb1);have HY1:=zq (HY.o.below hb1);have HZ1:=zq (HZ.o.below hb1);have HB1:=zq (HB.o.trans (hb1.mono HB.o.size));have g21:=(g2.drewN (nd+1)).below hb1;have g31:=(g3.drewN (nd+1)).below hb1;have g41:=(g4.drewN (nd+1)).below hb1;obtain⟨a0,a1,a2⟩:=HX1.o.t;obtain⟨b0,b1,b2⟩:=HY1.o.t;clear hb1))
   |((go_at_call 101;(with_reducible refine(HM2.o _ g31 g21).mono ?_);rintro e2 w2⟨A6,c6,rfl,h6,hb2⟩;have HX2:=zq (HX1.o.below hb2);have HY2:=zq (HY1.o.below hb2);have HZ2:=zq (HZ1.o.below hb2);have HB2:=zq (zAa HB1.o hb2);have h52:=h5.below hb2;have g22:=g21.below hb2;have g42:=g41.below hb2;clear a0 a1 a2 b0 b1 b2;obtain⟨a0,a1,a2⟩:=HX2.o.t;obtain⟨b0,b1,b2⟩:=HY2.o.t;clear hb2))
   |((go_at_call 165;(with_reducible refine(HA.o _ _ _ _ _ h52 h6).mono ?_);rintro e3 w3⟨A7,c7,rfl,h7,hb3⟩;have HX3:=zq (HX2.o.below hb3);have HY3:=zq (HY2.o.below hb3);have HZ3:=zq (HZ2.o.below hb3);have HB3:=zq (zAa HB2.o hb3);have g23:=g22.below hb3;have g43:=g42.below hb3;clear a0 a1 a2 b0 b1 b2;obtain⟨a0,a1,a2⟩:=HX3.o.t;obtain⟨b0,b1,b2⟩:=HY3.o.t;clear hb3))
   |((go_at_call 166;(with_reducible refine(HM3.o _ g23 g43).mono ?_);rintro e4 w4⟨A8,c8,rfl,h8,hb4⟩;have HX4:=zq (HX3.o.below hb4);have HY4:=zq (HY3.o.below hb4);have HZ4:=zq (HZ3.o.below hb4);have HB4:=zq (zAa HB3.o hb4);have h74:=h7.below hb4;clear a0 a1 a2 b0 b1 b2;obtain⟨a0,a1,a2⟩:=HX4.o.t;obtain⟨b0,b1,b2⟩:=HY4.o.t;clear hb4))
   |((go_at_call 164;(with_reducible refine(HO.o _ _ _ _ _ h74 h8).mono ?_);rintro e5 w5⟨A9,c9,AD,cE,rfl,h9,hF,hb5⟩;have HX5:=zq (HX4.o.below hb5);have HY5:=zq (HY4.o.below hb5);have HZ5:=zq (HZ4.o.below hb5);have HB5:=zq (zAa HB4.o hb5);clear a0 a1 a2 b0 b1 b2;obtain⟨a0,a1,a2⟩:=HX5.o.t;obtain⟨b0,b1,b2⟩:=HY5.o.t;obtain⟨r0,r1,r2⟩:=HZ5.o.t;have fr:=HZ5.o.frozen;have rl:=HZ5.o.lt;clear hb5)))
 clear HX HY HZ HB;go_wp2;refine aC (v:=raV false A9 c9 pp AD cE pq) ym rfl ⟨A9,c9,AD,cE,rfl,h9.setR HZ5.o _ _ _,hF.setR HZ5.o _ _ _,?_⟩
 exact((HB5.o.setCell ze _).setCell ze _).setCell ze _
theorem RAdd_c(A A2 A3 A4:Option Addr)(c c2 c3 c4 n d m e:Nat)(w:World)(h:Nt w A c n)(h2:Nt w A2 c2 d)(h3:Nt w A3 c3 m)(h4:Nt w A4 c4 e)(hn:(zAc B32 n).length<=100000000)(hd:(zAc B32 d).length<=100000000)(hm:(zAc B32 m).length<=100000000)(he:(zAc B32 e).length<=100000000)(hd0:0<d)(he0:0<e): Calls Tryz.prog 100 #[raV false A c n A2 c2 d,raV false A3 c3 m A4 c4 e] w (zCa false (addP (n,d) (m,e)).1 (addP (n,d) (m,e)).2 w):=by
 by_cases hde:d=e
 ·exact RAdd_same A A2 A3 A4 c c2 c3 c4 n d m e w h h2 h3 h4 hn hd hm he hd0 he0 hde
 ·exact RAdd_diff A A2 A3 A4 c c2 c3 c4 n d m e w h h2 h3 h4 hn hd hm he hd0 he0 hde
theorem zCM:(⟨#[48]⟩:BA).toList=[48]:=by rw[Dw.toList_eq]
theorem zBc{s:BA}(h:numB s=true):s.data.toList.all dgB=true/\1<=s.size:=by
 unfold numB at h;simp only[dN,Bool.or_eq_true,bG]at h;refine⟨h.1,?_⟩
 rcases h.2 with h2|h2<;>omega
def DigRel(w:World)(s:BA)(m:Nat)(iv:Value)(wr:World):Prop:=
 wr=w/\∃k:Nat,k+m=s.size/\iv=.int .i64 k/\(s.data.toList.take k).all dgB=true
theorem all_take_succ{s:BA}{k:Nat}(hk:k<s.size)(h:(s.data.toList.take k).all dgB=true)(h2:dgB s[k]=true):(s.data.toList.take (k+1)).all dgB=true:=by
 rw[bA (by simpa using hk),List.all_append,h,zCs s k hk];simp[h2]
theorem not_all{s:BA}{k:Nat}(hk:k<s.size)(h2:dgB s[k]=false):s.data.toList.all dgB=false:=by
 rw[List.all_eq_false];exact⟨s[k],by rw[<-zCs s k hk];exact bI _,by simp[h2]⟩
theorem digits_c(s:BA)(w:World)(hs:s.size<=9223372036854775807):Calls Tryz.prog 263 #[.string s] w (zBk (.bool (numB s)) w):=by
 go_enter Tryz.func263,Tryz.ntmps263;go_wp2
 go_loopg[6] s.size (DigRel w s)
 case atStart=>exact⟨rfl,0,za,rfl,rfl⟩
 case round =>
  obtain⟨hw,k,hkm,rfl,hall⟩:=hrel;subst hw;have HM:=zq hkm;have HA:=zq hall;clear hkm hall
  by_cases hlt:k<s.size
  ·by_cases h1:s[k].toNat<48
   ·have HD:=zq (not_all hlt (show dgB s[k]=false by unfold dgB;simp;omega))
    go_wp2;go_ret
    refine zBk.mk (zDm ?_) rfl;unfold numB;rw[HD.o];rfl
   ·by_cases h2:57<s[k].toNat
    ·have HD:=zq (not_all hlt (show dgB s[k]=false by unfold dgB;simp;omega))
     have h1b:(48:Int)<=(s[k].toNat:Int):=za;go_wp2;go_ret
     refine zBk.mk (zDm ?_) rfl;unfold numB;rw[HD.o];rfl
    ·have HD:=zq (all_take_succ hlt HA.o (show dgB s[k]=true by unfold dgB;simp;omega))
     have h1b:(48:Int)<=(s[k].toNat:Int):=za;have h2b:(s[k].toNat:Int)<=57:=za;go_wp2
     go_roundg (gk-1)
     case measure=>have:=HM.o;omega
     case rel=>exact⟨rfl,k+1,by have:=HM.o;omega,zi,HD.o⟩
  ·obtain rfl:k=s.size:=by have:=HM.o;omega
   have HALL:Hid (s.data.toList.all dgB=true):=by
    show _=_
    have:=HA.o
    rwa [bC zd]at this
   have hr:numB s=(decide (s.size=1) || decide (1<s.size)&&decide ((s.data.toList.headD 0).toNat≠48)):=by
    unfold numB;rw[HALL.o];rfl
   rcases cN s.size with h0|h0
   ·have he:s=emp:=by
     apply Dw.toList_inj
     rw[Dw.toList_eq,Dw.toList_eq,dJ (l:=s.data.toList) (by simpa using h0)]
     rfl
    have hv:numB s=false:=by rw[hr,h0];rfl
    rw[hv];have q1:=zAv he;have q2:(s.toList == [48])=false:=by rw[<-zCM];exact zBh (by rw[he];decide)
    have HV:=zq hv;clear hr hv he;exact tdi
   ·have hne:s≠emp:=fun e=>by rw[e]at h0;exact absurd h0 zc
    have q1:=zAx hne
    by_cases hz:s=zeroS
    ·have hv:numB s=true:=by rw[hz];decide +kernel
     rw[hv];have q2:(s.toList == [48])=true:=by rw[<-zCM];exact zBx hz
     have HV:=zq hv;clear hr hv hz hne;exact tdi
    ·have q2:(s.toList == [48])=false:=by rw[<-zCM];exact zBh hz
     have hd0:s.data.toList.headD 0=s[0]:=headD_get s h0
     by_cases hh:s[0].toNat=48
     ·have h1:s.size≠1:=fun e=>hz (by
       apply Dw.toList_inj
       rw[Dw.toList_eq,Dw.toList_eq]
       apply dU
       ·simp[zeroS,e]
       ·intro i hi1 hi2
        obtain rfl:i=0:=by simp[e]at hi1;omega
        rw[zCs s 0 h0];have:s[0]=48:=UInt8.toNat_inj.1 (by simpa using hh);rw[this];rfl)
      have hv:numB s=false:=by rw[hr,hd0,hh];simp[h1]
      have q3:((s[0].toNat:Int) != 48)=false:=by simp[hh]
      rw[hv];have HV:=zq hv;clear hr hv hz hne hh hd0 h1;exact tdi
     ·have hv:numB s=true:=by
       rw[hr,hd0]
       rcases aQ 1 s.size with h|h
       ·simp[h,hh]
       ·have:s.size=1:=by omega
        simp[this]
      have q3:((s[0].toNat:Int) != 48)=true:=ze;rw[hv];have HV:=zq hv;clear hr hv hz hne hh hd0;exact tdi
theorem len_val{s:BA}(h:s.data.toList.all dgB=true)(hs:s.size<=2000):(zAc B32 (zAD s)).length<=2000:=by
 have h1:=decV_dg h;have h2:10^s.data.toList.length<=B32^s.data.toList.length:=Nat.pow_le_pow_left zc _;have h3:=zCt zAn (aB h1 h2);have h4:s.data.toList.length=s.size:=zd;unfold zAD;omega
theorem den_pos{s:BA}(h:numB s=true)(hz:s≠zeroS):0<zAD s:=by
 obtain⟨h1,h2⟩:=zBc h;unfold numB at h;rw[h1]at h;simp only[Bool.true_and,Bool.or_eq_true,bG,dN]at h;have hd0:s.data.toList.headD 0=s[0]:=headD_get s za
 have hne:s[0].toNat≠48:=by
  rcases h with h|⟨_,h⟩
  ·intro e
   apply hz
   apply Dw.toList_inj
   rw[Dw.toList_eq,Dw.toList_eq]
   apply dU
   ·simp[zeroS,h]
   ·intro i hi1 hi2
    obtain rfl:i=0:=by simp[h]at hi1;omega
    rw[zCs s 0 za];have:s[0]=48:=UInt8.toNat_inj.1 (by simpa using e);rw[this];rfl
  ·rwa [hd0]at h
 have hdg:=dgB_of (List.all_eq_true.1 h1 s[0] (by rw[<-zCs s 0 za];exact bI _));unfold zAD;rw[decV_cut s.data.toList 1]
 have e1:s.data.toList.take 1=[s[0]]:=by
  rw[bA ze,zCs s 0 za];rfl
 have e2:zBW [s[0]]=s[0].toNat-48:=by simp[zBW]
 rw[e1,e2];have h3:1*10^(s.data.toList.length-1)<=(s[0].toNat-48)*10^(s.data.toList.length-1):=bU _ za;have h4:0<10^(s.data.toList.length-1):=Nat.pow_pos za;omega
theorem CheckRatio_c(nu de:BA)(w:World)(hs:(zBe nu).size<=9223372036854775807)(hs2:de.size<=9223372036854775807): Calls Tryz.prog 198 #[.agg #[.string nu,.string de]] w (zAg (.int .i64 (ratF nu de)) w):=by
 generalize hres:ratF nu de=res;have HR:=zq hres;clear hres;unfold ratF at HR;have HB0:Hid (Below w.heap.size w (w.alloc (.cells #[.string nu,.string de] 36))):=(aJ w.heap.size w).alloc (aE _) _;have HC:=zq (fun W=>cut_c nu W);have HD1:=zq (fun W=>digits_c (zBe nu) W hs);have HD2:=zq (fun W=>digits_c de W hs2);have HF:=zq (fun(h1:numB (zBe nu)=true)(h2:numB de=true)(h3:(zBe nu).size<=2000)(h4:de.size<=2000) W=>From_c nu de W (zBc h1).1 h3 (zBc h2).1 h4)
 have HL:=zq (fun(h1:numB (zBe nu)=true)(h2:numB de=true)(hz:de≠zeroS)(h3:(zBe nu).size<=2000)(h4:de.size<=2000) A c A2 c2 W (x:Nt W A c (zAD (zBe nu))) (y:Nt W A2 c2 (zAD de)) =>
  Lowest_c (sgB nu) A A2 c c2 (zAD (zBe nu)) (zAD de) W x y (den_pos h2 hz) (dC (len_val (zBc h1).1 h3) za) (dC (len_val (zBc h2).1 h4) za))
 go_enter Tryz.func198,Tryz.ntmps198;(go_wp2_with fail);(with_reducible refine(HC.o _).mono ?_);rintro e w1⟨rfl,rfl⟩;(go_wp2_with fail);(with_reducible refine(HD1.o _).mono ?_);rintro e w1⟨rfl,rfl⟩
 cases h1:numB (zBe nu)with
 |false =>
  have HS:Hid (res=3):=by show _=_;rw[<-HR.o,aD (.inl h1)]
  clear h1;exact tde
 |true =>
  by_cases h2:negB nu=true/\zBe nu=zeroS
  ·have HS:Hid (res=3):=by show _=_;rw[<-HR.o,aD (.inr (.inl h2))]
   have q1:=h2.1;have q2:((zBe nu).toList == [48])=true:=by rw[<-zCM];exact zBx h2.2
   rw[q1];clear h1 h2 q1;exact tde
  ·have HQ:Hid (negB nu=false\/((zBe nu).toList == [48])=false):=by
    show _\/_
    by_cases h3:negB nu=true
    ·exact .inr (by rw[<-zCM];exact zBh fun e=>h2 ⟨h3,e⟩)
    ·exact .inl (by simpa using h3)
   have hr1:=HR.o
   have HR1:Hid ((if numB de=false\/de=zeroS then 3 else if 2000<(zBe nu).size\/2000<de.size then 2 else if Nat.gcd (zAD (zBe nu)) (zAD de)=1 then 0 else 3)=res):=by
    show _=_
    rw[<-hr1]
    by_cases h4:numB de=false\/de=zeroS
    ·rw[aD h4,aD (.inr (.inr h4))]
    ·have hno:¬(numB (zBe nu)=false\/(negB nu=true/\zBe nu=zeroS)\/numB de=false\/de=zeroS):=by
      rintro(h|h|h)
      ·rw[h1]at h;cases h
      ·exact h2 h
      ·exact h4 h
     rw[aW h4,aW hno]
   have H1:=zq h1;clear hr1 HR h2 h1 HD1 HC
   rcases HQ.o with q|q
   case' inr=>cases hng:negB nu
   case' inl=>rw[q]
   all_goals
    clear HQ;(go_wp2_with fail);(with_reducible refine(HD2.o _).mono ?_);rintro e w1⟨rfl,rfl⟩
    cases h3:numB de with
    |false =>
     have HS:Hid (res=3):=by show _=_;rw[<-HR1.o,aD (.inl h3)]
     clear h3;exact tde
    |true =>
     by_cases h4:de=zeroS
     ·have HS:Hid (res=3):=by show _=_;rw[<-HR1.o,aD (.inr h4)]
      have q2:(de.toList == [48])=true:=by rw[<-zCM];exact zBx h4
      exact tc3
     ·have q2:(de.toList == [48])=false:=by rw[<-zCM];exact zBh h4
      have HR2:Hid ((if 2000<(zBe nu).size\/2000<de.size then 2 else if Nat.gcd (zAD (zBe nu)) (zAD de)=1 then 0 else 3)=res):=by
       show _=_
       have hno:¬(numB de=false\/de=zeroS):=by
        rintro(h|h)
        ·rw[h3]at h;cases h
        ·exact h4 h
       rw[<-HR1.o,aW hno]
      by_cases h5:2000<(zBe nu).size
      ·have HS:Hid (res=2):=by show _=_;rw[<-HR2.o,aD (.inl h5)]
       exact tc3
      ·by_cases h6:2000<de.size
       ·have HS:Hid (res=2):=by show _=_;rw[<-HR2.o,aD (.inr h6)]
        exact tc3
       ·have HR3:Hid ((if Nat.gcd (zAD (zBe nu)) (zAD de)=1 then (0:Int) else 3)=res):=by
         show _=_
         rw[<-HR2.o,aW (show ¬(2000<(zBe nu).size\/2000<de.size) by omega)]
        have HF2:=zq (HF.o H1.o h3 za za);have HL2:=zq (HL.o H1.o h3 h4 za za);clear h3 h4;(go_wp2_with fail);(with_reducible refine(HF2.o _).mono ?_);rintro e w2⟨A5,c5,A6,c6,rfl,h7,h8,hb2⟩;have HB2:=zq (HB0.o.trans (hb2.mono HB0.o.size));clear hb2;(go_wp2_with fail);(with_reducible refine(HL2.o A5 c5 A6 c6 _ h7 h8).mono ?_);rintro e w3⟨rfl,hb3⟩;have HB3:=zq (zAa HB2.o hb3);clear hb3 HF HL HF2 HL2 HB2
        by_cases h9:Nat.gcd (zAD (zBe nu)) (zAD de)=1
        ·have HS:Hid (res=0):=by show _=_;rw[<-HR3.o,aD h9]
         have hlb:lowB (zAD (zBe nu)) (zAD de)=true:=by unfold lowB;exact aT h9
         rw[hlb];clear h9 hlb;go_wp2;go_ret
         exact zAg.mk (zCp HS.o.symm) HB3.o
        ·have HS:Hid (res=3):=by show _=_;rw[<-HR3.o,aW h9]
         have hlb:lowB (zAD (zBe nu)) (zAD de)=false:=by unfold lowB;exact aU h9
         rw[hlb];clear h9 hlb;go_wp2;go_ret
         exact zAg.mk (zCp HS.o.symm) HB3.o
def posS(l:List BA)(s:BA):Int:=match l.findIdx? fun x=>decide (x=s)with
 |some i=>i
 |none=>-1
theorem posS_mem(l:List BA)(s:BA):decide ((0:Int)<=posS l s)=memS l s:=by
 unfold posS memS
 cases h:l.findIdx? fun x=>decide (x=s)with
 |none =>
  have:(l.any fun x=>decide (x=s))=false:=by
   rw[dV];intro x hx;have:=List.findIdx?_eq_none_iff.1 h x hx
   simpa using this
  rw[this];rfl
 |some i =>
  obtain⟨hi,hp,_⟩:=List.findIdx?_eq_some_iff_getElem.1 h;have:(l.any fun x=>decide (x=s))=true:=List.any_eq_true.2 ⟨l[i],bI hi,hp⟩;rw[this];simp
def PosIRel(w:World)(l:List BA)(s:BA)(m:Nat)(i:Value)(wr:World):Prop:=
 w=wr/\∃k:Nat,k+m=l.length/\i=.int .i64 k/\∀j (h:j<l.length),j<k->l[j]≠s
theorem indexS_c(A:Option Addr)(c:Nat)(l:List BA)(s:BA)(w:World)(hn:l.length<=1000000)(h:Strs w A l): Calls Tryz.prog 39 #[.slice A l.length c,.string s] w (zBk (.int .i64 (posS l s)) w):=by
 generalize hres:posS l s=res;have HR:=zq hres;clear hres
 go_enter Tryz.func39,Tryz.ntmps39;go_wp2
 go_loopg[8] l.length (PosIRel w l s)
 case atStart=>exact⟨rfl,0,za,rfl,fun j _ hj=>absurd hj za⟩
 case round =>
  obtain⟨hw,k,hk,rfl,hpre⟩:=hrel;subst hw;have HK:=zq hk;have HP:=zq hpre;have hk1:k<=l.length:=za;clear hk hpre
  by_cases hlt:k<l.length
  ·obtain⟨b,o,rfl,hb,hc⟩:=h.at_ za
   have hc0:=hc k hlt;clear hc
   by_cases hq:s=l[k]
   ·have hqb:=zBx hq
    have HQ:=zq hq;clear hq;go_wp2;go_ret
    refine zBk.mk (zCp ?_) rfl;rw[<-HR.o];unfold posS;rw[List.findIdx?_eq_some_iff_getElem.2 ⟨hlt,by simp[HQ.o],fun j hj=>by simpa using HP.o j za hj⟩]
   ·have hqb:=zBh hq
    have HQ:=zq hq;clear hq;go_wp2
    go_roundg (gk-1)
    case measure=>have:=HK.o;omega
    case rel =>
     refine⟨rfl,k+1,zh,zi,fun j hj hjk=>?_⟩
     rcases aQ j k with h1|h1
     ·exact HP.o j hj h1
     ·obtain rfl:j=k:=by omega
      exact fun e=>HQ.o e.symm
  ·go_wp2
   go_ret
   refine zBk.mk (zCp ?_) rfl;rw[<-HR.o];unfold posS
   rw[List.findIdx?_eq_none_iff.2 fun x hx=>by
    obtain⟨j,hj,rfl⟩:=dO hx
    simpa using HP.o j hj za]
theorem zDr(A:Option Addr)(c:Nat)(l:List BA)(s:BA)(w:World)(hn:l.length<=1000000)(h:Strs w A l): Calls Tryz.prog 12 #[.slice A l.length c,.string s] w (zBk (.bool (memS l s)) w):=by
 have hm:=posS_mem l s;generalize memS l s=res at *;have HM:=zq hm;clear hm
 go_enter Tryz.func12,Tryz.ntmps12
 go_wp2_with (go_at_call 39;refine(indexS_c _ _ _ _ _ hn h).mono ?_;rintro e w' ⟨rfl,rfl⟩)
 go_ret
 exact zBk.mk (zDm HM.o) rfl
abbrev Ints:=Rd1 (fun n:Int=>Value.int .i64 n)
def cmpI(a b:Int):Int:=if a<b then -1 else if b<a then 1 else 0
theorem isNaN_c(a:Int)(w:World):Calls Tryz.prog 262 #[.int .i64 a] w (zBk (.bool false) w):=by
 have hb:(a != a)=false:=zd
 go_enter Tryz.func262,Tryz.ntmps262;go_wp2;go_ret
 exact zBk.mk rfl rfl
theorem cmpI_c(a b:Int)(w:World):Calls Tryz.prog 197 #[.int .i64 a,.int .i64 b] w (zBk (.int .i64 (cmpI a b)) w):=by
 generalize hres:cmpI a b=res;have HR:=zq hres;clear hres
 by_cases h1:a<b
 ·have HS:Hid (res=-1):=by
   show res=-1
   rw[<-HR.o];unfold cmpI;rw[aD h1]
  exact tba
 ·by_cases h2:b<a
  ·have HS:Hid (res=1):=by
    show res=1
    rw[<-HR.o];unfold cmpI;rw[aW h1,aD h2]
   exact tba
  ·have HS:Hid (res=0):=by
    show res=0
    rw[<-HR.o];unfold cmpI;rw[aW h1,aW h2]
   exact tba
def orI:List Int->Int
 |[]=>0
 |a::l=>if a=0 then orI l else a
theorem orI_at{l:List Int}{k:Nat}(hk:k<l.length)(hp:∀j (h:j<l.length),j<k->l[j]=0)(h:l[k]≠0):orI l=l[k]:=by
 induction l generalizing k with
 |nil=>simp at hk
 |cons a t ih =>
  cases k with
  |zero=>simp at h;simp[orI,h]
  |succ k =>
   have h0:a=0:=hp 0 zd za;rw[orI,aD h0];exact ih (by simpa using hk) (fun j hj hjk=>hp (j+1) yg za) zr
theorem orI_none{l:List Int}(hp:∀j (h:j<l.length),l[j]=0):orI l=0:=by
 induction l with
 |nil=>rfl
 |cons a t ih =>
  have h0:a=0:=hp 0 zd;rw[orI,aD h0];exact ih fun j hj=>hp (j+1) yg
def OrRel(w:World)(l:List Int)(m:Nat)(i:Value)(wr:World):Prop:=
 w=wr/\∃k:Nat,k+m=l.length/\i=.int .i64 k/\∀j (h:j<l.length),j<k->l[j]=0
theorem cmpOr_c(A:Option Addr)(c:Nat)(l:List Int)(w:World)(hn:l.length<=1000000)(h:Ints w A l): Calls Tryz.prog 196 #[.slice A l.length c] w (zBk (.int .i64 (orI l)) w):=by
 generalize hres:orI l=res;have HR:=zq hres;clear hres
 go_enter Tryz.func196,Tryz.ntmps196;go_wp2
 go_loopg[8] l.length (OrRel w l)
 case atStart=>exact⟨rfl,0,za,rfl,fun j _ hj=>absurd hj za⟩
 case round =>
  obtain⟨hw,k,hk,rfl,hpre⟩:=hrel;subst hw;have HK:=zq hk;have HP:=zq hpre;have hk1:k<=l.length:=za;clear hk hpre
  by_cases hlt:k<l.length
  ·obtain⟨b,o,rfl,hb,hc⟩:=h.at_ za
   have hc0:=hc k hlt;clear hc
   by_cases hq:l[k]=0
   ·have hqb:(l[k] != 0)=false:=by simpa using hq
    have HQ:=zq hq;clear hq;go_wp2
    go_roundg (gk-1)
    case measure=>have:=HK.o;omega
    case rel =>
     refine⟨rfl,k+1,zh,zi,fun j hj hjk=>?_⟩
     rcases aQ j k with h1|h1
     ·exact HP.o j hj h1
     ·obtain rfl:j=k:=by omega
      exact HQ.o
   ·have hqb:(l[k] != 0)=true:=by simpa using hq
    have HQ:=zq hq;clear hq;go_wp2;go_ret
    exact zBk.mk (zCp (by rw[<-HR.o,orI_at hlt HP.o HQ.o])) rfl
  ·go_wp2
   go_ret
   exact zBk.mk (zCp (by rw[<-HR.o,orI_none fun j hj=>HP.o j hj za])) rfl
def cfS(x y:BA):Int:=Lib.compareBytes x.data.toList y.data.toList
theorem compare_less:∀(a b:List UInt8),decide (Lib.compareBytes a b<0)=Op.bytesLess a b
 |[],[]=>by simp[Lib.compareBytes,Op.bytesLess]
 |[],_::_=>by simp[Lib.compareBytes,Op.bytesLess]
 |_::_,[]=>by simp[Lib.compareBytes,Op.bytesLess]
 |a::x,b::y=>by
  have ih:=compare_less x y;rw[Lib.compareBytes,Op.bytesLess]
  by_cases h1:a<b
  ·simp[h1]
  ·by_cases h2:b<a
   ·have h3:¬a=b:=fun e=>by subst e;exact h1 h2
    simp[h1,h2,h3]
   ·have h3:a=b:=UInt8.le_antisymm (UInt8.not_lt.1 h2) (UInt8.not_lt.1 h1)
    subst h3;simp only[h1,if_false];rw[ih];simp
theorem cfS_lt(x y:BA):decide (cfS x y<0)=slt x y:=by
 unfold cfS slt;rw[compare_less,Dw.toList_eq,Dw.toList_eq]
theorem compareS_c(x y:BA)(w:World):Calls Tryz.prog 99 #[.string x,.string y] w (zBk (.int .i64 (cfS x y)) w):=by
 have h:=Any.strings_Compare Tryz.lays106 x y w;change Calls Tryz.prog 99 _ _ _ at h;exact h.mono fun _ _ ⟨he,hw⟩=>⟨he,hw.symm⟩
def Shs(w:World)(A:Option Addr)(l:List Sh):Prop:=
 0<l.length->∃b o:Nat,A=some ⟨b,o,none⟩/\∀i (h:i<l.length),w.cell? ⟨b,o+i*3,none⟩=some (.string (l[i]).pt)/\w.cell? ⟨b,o+i*3+1,none⟩=some (.string (l[i]).nu)/\w.cell? ⟨b,o+i*3+2,none⟩=some (.string (l[i]).de)
theorem Shs.at_{w:World}{A:Option Addr}{l:List Sh}(h:Shs w A l)(hl:0<l.length):∃b o:Nat,A=some ⟨b,o,none⟩/\b<w.heap.size/\∀i (h:i<l.length),w.cell? ⟨b,o+i*3,none⟩=some (.string (l[i]).pt)/\w.cell? ⟨b,o+i*3+1,none⟩=some (.string (l[i]).nu)/\w.cell? ⟨b,o+i*3+2,none⟩=some (.string (l[i]).de):=by
 exact tce
theorem Shs.below{w w':World}{A:Option Addr}{l:List Sh}(h:Shs w A l)(hb:Below w.heap.size w w'):Shs w' A l:=fun hl=>by
 obtain⟨b,o,rfl,hlt,hc⟩:=h.at_ hl;refine⟨b,o,rfl,fun i hi=>?_⟩;rw[hb.cell hlt,hb.cell hlt,hb.cell hlt];exact hc i hi
abbrev deC(d:De):Array Value:=#[.string d.id,.int .i64 d.day,.int .i64 d.kd,.string d.th,.string d.fr,.string d.to_,.string d.nu,.string d.de,.bool d.ex,.bool d.sb,.slice d.arA d.ar.length d.arc,.slice d.usA d.us.length d.usc,.int .i64 d.bg,.int .i64 d.en,.slice d.shA d.sh.length d.shc,.string d.ot]
abbrev deV(d:De):Value:=.agg (deC d)
structure DeOk (w:World) (d:De):Prop where
 ars:Ars w d.arA d.ar
 uses:Strs w d.usA d.us
 shs:Shs w d.shA d.sh
 lens:d.ar.length<=140737488355328/\d.us.length<=140737488355328/\d.sh.length<=140737488355328
 strs:d.id.size<=9223372036854775807/\d.th.size<=9223372036854775807/\d.fr.size<=9223372036854775807/\d.to_.size<=9223372036854775807/\d.nu.size<=9223372036854775807/\d.de.size<=9223372036854775807
 shz:∀s∈d.sh,s.pt.size<=9223372036854775807/\s.nu.size<=9223372036854775807/\s.de.size<=9223372036854775807
theorem DeOk.below{w w':World}{d:De}(h:DeOk w d)(hb:Below w.heap.size w w'):DeOk w' d:=⟨h.ars.below hb,h.uses.below hb,h.shs.below hb,h.lens,h.strs,h.shz⟩
theorem isDay_c(n:Int)(w:World):Calls Tryz.prog 78 #[.int .i64 n] w (zBk (.bool (zCF n)) w):=by
 by_cases h1:0<=n
 ·by_cases h2:n<=200000
  ·have hv:zCF n=true:=by simp[zCF,h1,h2]
   rw[hv];have HV:=zq hv;clear hv
   go_enter Tryz.func78,Tryz.ntmps78;go_wp2;go_ret
   exact zBk.mk rfl rfl
  ·have hv:zCF n=false:=by simp[zCF,h2]
   rw[hv];have HV:=zq hv;have h2':200000<n:=za;clear hv h2
   go_enter Tryz.func78,Tryz.ntmps78;go_wp2;go_ret
   exact zBk.mk (zDm (aU za)) rfl
 ·have hv:zCF n=false:=by simp[zCF,h1]
  rw[hv];have HV:=zq hv;have h1':n<0:=za;clear hv h1
  go_enter Tryz.func78,Tryz.ntmps78;go_wp2;go_ret
  exact zBk.mk rfl rfl
def kindB(n:Int):Bool:=decide (1<=n)&&decide (n<=5)
theorem isKindD_c(n:Int)(w:World):Calls Tryz.prog 151 #[.int .i64 n] w (zBk (.bool (kindB n)) w):=by
 by_cases h1:1<=n
 ·by_cases h2:n<=5
  ·have hv:kindB n=true:=by simp[kindB,h1,h2]
   rw[hv];have HV:=zq hv;clear hv
   go_enter Tryz.func151,Tryz.ntmps151;go_wp2;go_ret
   exact zBk.mk rfl rfl
  ·have hv:kindB n=false:=by simp[kindB,h2]
   rw[hv];have HV:=zq hv;have h2':5<n:=za;clear hv h2
   go_enter Tryz.func151,Tryz.ntmps151;go_wp2;go_ret
   exact zBk.mk (zDm (aU za)) rfl
 ·have hv:kindB n=false:=by simp[kindB,h1]
  rw[hv];have HV:=zq hv;have h1':n<1:=za;clear hv h1
  go_enter Tryz.func151,Tryz.ntmps151;go_wp2;go_ret
  exact zBk.mk rfl rfl
def deCmp(a b:De):Int:=orI [cmpI a.day b.day,cfS a.id b.id]
theorem deCmp_lt(a b:De):decide (deCmp a b<0)=deLt a b:=by
 unfold deCmp deLt cmpI
 rcases Int.lt_trichotomy a.day b.day with h|h|h
 ·simp[h,orI]
 ·rw[h]
  have e1:=cfS_lt a.id b.id;rw[<-e1]
  by_cases hz:cfS a.id b.id=0
  ·simp[orI,hz]
  ·simp[orI,hz]
 ·have h1:¬a.day<b.day:=by omega
  have h2:¬a.day=b.day:=za;simp[orI,h,h1,h2]
theorem ints_twoR(w:World)(a b:Int)(t:TypeId):Ints (w.alloc (.cells #[.int .i64 a,.int .i64 b] t)) (some ⟨w.heap.size,0,none⟩) [a,b]:=fun _=>by
 refine⟨w.heap.size,0,rfl,fun i hi=>?_⟩;have h2:i=0\/i=1:=by simp at hi;omega
 rcases h2 with rfl|rfl
 ·exact(Bx.new w _ t).cell rfl
 ·exact(Bx.new w _ t).cell rfl
theorem compareDeeds_c(a b:De)(w:World):Calls Tryz.prog 150 #[deV a,deV b] w (zAg (.int .i64 (deCmp a b)) w):=by
 have HX:Hid (Bx ((w.alloc (.cells (deC a) 126)).alloc (.cells (deC b) 126)) w.heap.size (deC a) 126):=(Bx.new _ _ _).alloc _;have HY:Hid (Bx ((w.alloc (.cells (deC a) 126)).alloc (.cells (deC b) 126)) (w.heap.size+1) (deC b) 126):=Bx.new1 _ _ _ _;have HB:Hid (Below w.heap.size w ((w.alloc (.cells (deC a) 126)).alloc (.cells (deC b) 126))):=((aJ w.heap.size w).alloc (aE _) _).alloc zd _;obtain⟨W,hW⟩:∃W,W=(w.alloc (.cells (deC a) 126)).alloc (.cells (deC b) 126):=⟨_,rfl⟩;rw[<-hW]at HX HY HB;unfold deCmp;have HC:=zq (fun W'=>cmpI_c a.day b.day W');have HS:=zq (fun W'=>compareS_c a.id b.id W')
 go_enter Tryz.func150,Tryz.ntmps150;(go_wp2_with fail);rw[<-hW];clear hW;have x0:=HX.o.c 0 rfl;have x1:=HX.o.c 1 rfl;have y0:=HY.o.c 0 rfl;have y1:=HY.o.c 1 rfl;generalize cmpI a.day b.day=z1 at *;generalize cfS a.id b.id=z2 at *
 have ho:∀W':World,Calls Tryz.prog 196 #[.slice (some ⟨W'.heap.size,0,none⟩) 2 2] (W'.alloc (.cells #[.int .i64 z1,.int .i64 z2] 3)).drew (zBk (.int .i64 (orI [z1,z2])) (W'.alloc (.cells #[.int .i64 z1,.int .i64 z2] 3)).drew):=
  fun W'=>cmpOr_c (some ⟨W'.heap.size,0,none⟩) 2 [z1,z2] _ zd (Rd1.drew (ints_twoR W' z1 z2 _))
 have HO:=zq ho;clear ho;refine wp_region_still_tail 10 zb zb ?_;simp only[aL,aM,aN,aO];iterate 4 still_step
 still_call ((HC.o _).mono (fun _ _ h=>⟨h.1,h.2.symm⟩))
 iterate 4 still_step
 still_call ((HS.o _).mono (fun _ _ h=>⟨h.1,h.2.symm⟩))
 refine wpStill_nil ?_;change wpList _ _ _ _ _ W.drew;clear x0 x1 y0 y1 HC HS;(go_wp2_with fail);(with_reducible refine(HO.o W).mono ?_);rintro e w3⟨rfl,rfl⟩;have HB3:Hid (Below w.heap.size w (W.alloc (.cells #[.int .i64 z1,.int .i64 z2] 3)).drew):=zAd (HB.o.alloc HB.o.size _) 1;go_wp2;go_ret
 exact zAg.mk rfl HB3.o
def fldC(k:Int):Array Value:=
 if k=1 then #[.bool true,.bool false,.bool false,.bool false,.bool false,.bool false,.bool false,.bool true,.bool false]
 else if k=2 then #[.bool true,.bool true,.bool true,.bool true,.bool false,.bool true,.bool true,.bool false,.bool false]
 else if k=3 then #[.bool true,.bool true,.bool true,.bool false,.bool true,.bool true,.bool true,.bool false,.bool false]
 else if k=4 then #[.bool false,.bool false,.bool false,.bool false,.bool false,.bool false,.bool false,.bool false,.bool true]
 else #[.bool false,.bool true,.bool false,.bool false,.bool false,.bool false,.bool false,.bool true,.bool false]
theorem zBX(k:Int)(w:World)(hk:1<=k/\k<=5):Calls Tryz.prog 52 #[.int .i64 k] w (zAg (.agg (fldC k)) w):=by
 have h5:k=1\/k=2\/k=3\/k=4\/k=5:=za
 rcases h5 with rfl|rfl|rfl|rfl|rfl
 all_goals
  clear hk
  go_enter Tryz.func52,Tryz.ntmps52;go_wp2;refine aC (v:=.agg (fldC _)) (by simp[results,Tryz.results52,go_sem];rfl) rfl ⟨rfl,?_⟩
  exact(aJ w.heap.size w).alloc (aE _) _
end Go.Proofs.YtbbchlpccgkikaaGreatDoor
