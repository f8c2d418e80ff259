/- Parts of the proof, joined: Package right: checkShares. Words for maps: a map that reads as a func. -/
import Derived.Test.YtieoifkdobcpiaaGreatDoorSa08
set_option maxRecDepth 100000
set_option maxHeartbeats 8000000
namespace Go.Proofs.YtieoifkdobcpiaaGreatDoor
open Go.RowKit Dw
theorem Bx.set {w:World} {g:Nat} {cs:Array Value} {T:TypeId} (h:Bx w g cs T) (i:Nat) (v:Value):Bx (w.setCell ⟨g,i,none⟩ v) g (cs.setIfInBounds i v) T:=by
 have h':w.heap[g]?=some (.cells cs T (0,0)):=h
 show (w.setCell ⟨g,i,none⟩ v).heap[g]?=_
 simp [World.setCell,Array.getElem?_modify,h']
theorem Bx.far {w:World} {g:Nat} {cs:Array Value} {T:TypeId} (h:Bx w g cs T) {p:Addr} (hp:g≠p.block) (v:Value):Bx (w.setCell p v) g cs T:=(Below.heap_setCell w p v g hp).trans h
abbrev rdC (ng:Bool) (A:Option Addr) (c n:Nat) (A2:Option Addr) (c2 d:Nat):Array Value:=#[.bool ng,.slice A (zAc B32 n).length c,.slice A2 (zAc B32 d).length c2]
structure ShSt (w:World) (d:De) (g:Nat) (A:Option Addr) (c:Nat) (A2:Option Addr) (c2:Nat) (pr:Nat×Nat) (W:World):Prop where
 bel:Below w.heap.size w W
 box:Bx W w.heap.size (deC d) 52
 sum:Bx W g (rdC false A c pr.1 A2 c2 pr.2) 89
 n1:Nt W A c pr.1
 n2:Nt W A2 c2 pr.2
 gt:w.heap.size<g
section
variable {w W W':World} {d:De} {g:Nat} {A A2:Option Addr} {c c2:Nat} {pr:Nat×Nat}
theorem ShSt.below (h:ShSt w d g A c A2 c2 pr W) (hb:Below W.heap.size W W'):ShSt w d g A c A2 c2 pr W' :=
 ⟨zAb h.bel hb,h.box.below hb,h.sum.below hb,h.n1.below hb,h.n2.below hb,h.gt⟩
theorem ShSt.drewN (h:ShSt w d g A c A2 c2 pr W) (n:Nat):ShSt w d g A c A2 c2 pr (W.drewN n) :=
 ⟨zAd h.bel n,h.box,h.sum,h.n1.drewN n,h.n2.drewN n,h.gt⟩
theorem ShSt.alloc (h:ShSt w d g A c A2 c2 pr W) (o:Obj):ShSt w d g A c A2 c2 pr (W.alloc o) :=
 h.below ((Below.refl _ _).alloc (Nat.le_refl _) o)
theorem ShSt.store (h:ShSt w d g A c A2 c2 pr W) {A' A2':Option Addr} {c' c2':Nat} {pr':Nat×Nat} (h1:Nt W A' c' pr'.1) (h2:Nt W A2' c2' pr'.2) :
  ShSt w d g A' c' A2' c2' pr' (((W.setCell ⟨g,0,none⟩ (.bool false)).setCell ⟨g,1,none⟩ (.slice A' (zAc B32 pr'.1).length c')).setCell ⟨g,2,none⟩ (.slice A2' (zAc B32 pr'.2).length c2')):=by
 have hg:=h.gt;have k0:=h.sum.cell (i:=0) rfl;have k1:=h.sum.cell (i:=1) rfl;have k2:=h.sum.cell (i:=2) rfl;refine ⟨((h.bel.setCell ze _).setCell ze _).setCell ze _,((h.box.far ze _).far ze _).far ze _,?_,h1.set3 k0 k1 k2 (nb_ _) (ns_ _ _ _) (ns_ _ _ _) _ _ _,h2.set3 k0 k1 k2 (nb_ _) (ns_ _ _ _) (ns_ _ _ _) _ _ _,hg⟩
 exact ((h.sum.set 0 _).set 1 _).set 2 _
theorem ShSt.shs (h:ShSt w d g A c A2 c2 pr W) (hd:DeOk w d):Shs W d.shA d.sh:=hd.shs.below h.bel
end
theorem sumP_zero (l:List Sh):zDs l 0=(0,1):=rfl
theorem sumP_succ {l:List Sh} {k:Nat} (h:k<l.length):zDs l (k+1)=addP (zDs l k) (zAy (zAS l[k].nu),zAy l[k].de):=by
 unfold zDs;rw [List.take_succ_eq_append_getElem h,List.foldl_append]
 rfl
def ShLen (p:Nat×Nat) (k:Nat):Prop:=(zAc B32 p.1).length≤4001*k+1∧(zAc B32 p.2).length≤4001*k+1∧0<p.2
theorem shLen_succ {p:Nat×Nat} {k n d:Nat} (h:ShLen p k) (hn:(zAc B32 n).length≤2000) (hd:(zAc B32 d).length≤2000) (hd0:0<d):ShLen (addP p (n,d)) (k+1):=by
 obtain ⟨h1,h2,h3⟩:=h;have e1:=zCF p.1 d;have e2:=zCF n p.2;have e3:=len_add (p.1*d) (n*p.2);have e4:=zCF p.2 d;have hp:0<p.2*d:=Nat.mul_pos h3 hd0;have f1:=zAq zAo (Nat.div_le_self (p.1*d+n*p.2) (Nat.gcd (p.1*d+n*p.2) (p.2*d)));have f2:=zAq zAo (Nat.div_le_self (p.2*d) (Nat.gcd (p.1*d+n*p.2) (p.2*d)));refine ⟨?_,?_,Nat.div_pos (Nat.le_of_dvd hp (Nat.gcd_dvd_right _ _)) (Nat.gcd_pos_of_pos_right _ hp)⟩
 ·show (zAc B32 ((p.1*d+n*p.2) / Nat.gcd (p.1*d+n*p.2) (p.2*d))).length≤_
  omega
 ·show (zAc B32 (p.2*d / Nat.gcd (p.1*d+n*p.2) (p.2*d))).length≤_
  omega
theorem ptAt_of {l:List Sh} {i:Nat} (h:i<l.length):ptAt l i=l[i].pt:=by simp [ptAt,List.getD,h]
theorem shD_of {l:List Sh} {i:Nat} (h:i<l.length):l.getD i default=l[i]:=by simp [List.getD,h]
theorem zBY {nu de:ByteArray} (h:zCN nu de=0):zCj (zAS nu)=true∧zCj de=true∧de≠zCf∧(zAS nu).size≤2000∧de.size≤2000:=by
 unfold zCN at h
 split at h
 ·cases h
 ·next h1 =>
  split at h
  ·cases h
  ·next h2 =>
   refine ⟨?_,?_,?_,za,za⟩
   ·cases hq:zCj (zAS nu) with
    | true=>rfl
    | false=>exact absurd (.inl hq) h1
   ·cases hq:zCj de with
    | true=>rfl
    | false=>exact absurd (.inr (.inr (.inl hq))) h1
   ·exact fun e=>h1 (.inr (.inr (.inr e)))
theorem absN_size (s:ByteArray):(zAS s).size≤s.size:=by
 show (absL s).toArray.size≤_
 unfold absL;have e:s.data.toList.length=s.size:=Array.length_toList
 split
 ·rw [List.size_toArray,List.length_tail];omega
 ·rw [List.size_toArray];omega
theorem posB_sgn (nu:ByteArray):decide (sgnI (sgB nu) (zAy (zAS nu))≤0) = !posB nu:=by
 unfold sgnI sgB posB
 cases negB nu<;>by_cases h:zAy (zAS nu)=0<;>simp [h]
theorem posB_sg {nu:ByteArray} (h:posB nu=true):sgB nu=false:=by
 unfold posB at h;unfold sgB
 cases hn:negB nu<;>simp_all
def ShRel (w:World) (d:De) (g:Nat) (m:Nat) (i:Value) (wr:World):Prop :=
 ∃ A c A2 c2 k,ShSt w d g A c A2 c2 (zDs d.sh k) wr∧ShLen (zDs d.sh k) k∧k+m=d.sh.length∧i = .int .i64 (k:Nat)∧∀ j,j<k→zBq d.sh j=none
def zCn (d:De):Int:=if shF d.kd d.sh≠0 then shF d.kd d.sh else if d.kd=5∧(d.sh.any fun s=>decide (s.pt=d.fr))=true then 12 else 0
theorem whole0_c (w:World):Calls Tryz.prog 34 #[.int .i64 0] w (zCl false 0 1 w):=Whole_c 0 w za
theorem whole1_c (w:World):Calls Tryz.prog 34 #[.int .i64 1] w (zCl false 1 1 w):=Whole_c 1 w za
def shEnd (d:De):Int:=if (zDs d.sh d.sh.length).2<(zDs d.sh d.sh.length).1∨(d.kd=5∧(zDs d.sh d.sh.length).1≠(zDs d.sh d.sh.length).2) then 1 else if d.kd=5∧(d.sh.any (ptIs d.fr))=true then 12 else 0
def shRest (s:Sh):Option Int:=if zCN s.nu s.de≠0 then some (zCN s.nu s.de) else if posB s.nu=false then some 1 else none
theorem shFault_nz {l:List Sh} {k:Nat} {f:Int} (h:zBq l k=some f):f≠0:=by
 unfold zBq at h
 split at h
 ·cases h;decide
 ·split at h
  ·cases h;decide
  ·split at h
   ·next hr=>cases h;exact hr
   ·split at h
    ·cases h;decide
    ·cases h
theorem shFull_hit {d:De} {k:Nat} {f:Int} (hne:d.sh≠[]) (h20:¬20<d.sh.length) (hk:k<d.sh.length) (hp:∀ j,j<k→zBq d.sh j=none) (hf:zBq d.sh k=some f):zCn d=f:=by
 have e:shF d.kd d.sh=f:=by
  unfold shF;rw [if_neg hne,if_neg h20,zBo hk hp hf]
 unfold zCn;rw [e,if_pos (shFault_nz hf)]
theorem shFull_none {d:De} (hne:d.sh≠[]) (h20:¬20<d.sh.length) (hp:∀ j,j<d.sh.length→zBq d.sh j=none):zCn d=shEnd d:=by
 have e:shF d.kd d.sh=if (zDs d.sh d.sh.length).2<(zDs d.sh d.sh.length).1∨(d.kd=5∧(zDs d.sh d.sh.length).1≠(zDs d.sh d.sh.length).2) then 1 else 0:=by
  unfold shF;rw [if_neg hne,if_neg h20,zBx hp]
 unfold zCn shEnd;rw [e]
 by_cases h:(zDs d.sh d.sh.length).2<(zDs d.sh d.sh.length).1∨(d.kd=5∧(zDs d.sh d.sh.length).1≠(zDs d.sh d.sh.length).2)
 ·rw [if_pos h,if_pos h];rfl
 ·rw [if_neg h,if_neg h];rfl
theorem checkShares_c (d:De) (w:World) (hd:DeOk w d):Calls Tryz.prog 210 #[deV d] w (zAe (.int .i64 (zCn d)) w):=by
 generalize hres:zCn d=res;have HR:=zq hres;clear hres;have HD:=zq hd;clear hd;have HX:Hid (Bx (w.alloc (.cells (deC d) 52)) w.heap.size (deC d) 52):=Bx.new _ _ _;have HB:Hid (Below w.heap.size w (w.alloc (.cells (deC d) 52))):=(Below.refl w.heap.size w).alloc (Nat.le_refl _) _;obtain ⟨W,hW⟩:∃ W,W=w.alloc (.cells (deC d) 52):=⟨_,rfl⟩;rw [←hW] at HX HB;have hsz:w.heap.size<W.heap.size:=HX.o.lt
 go_enter Tryz.func210,Tryz.ntmps210
 by_cases h0:d.sh.length=0
 ·have HS:Hid (res=9):=by
   show _=_
   rw [←HR.o];unfold zCn shF;have:d.sh=[]:=List.length_eq_zero_iff.1 h0;simp [this]
  go_wp2;go_ret
  exact zAe.mk (zAW HS.o.symm) (hW▸HB.o)
 ·by_cases h20:20<d.sh.length
  ·have HS:Hid (res=2):=by
    show _=_
    rw [←HR.o];unfold zCn shF;have:d.sh≠[]:=fun e=>h0 (by rw [e];rfl)
    simp [this,h20]
   go_wp2;go_ret
   exact zAe.mk (zAW HS.o.symm) (hW▸HB.o)
  ·have hne:d.sh≠[]:=fun e=>h0 (by rw [e];rfl)
   have HH:Hid (∀ k f,k<d.sh.length→(∀ j,j<k→zBq d.sh j=none)→zBq d.sh k=some f→res=f):=by
    intro k f hk hp hf;rw [←HR.o];exact shFull_hit hne h20 hk hp hf
   have HN:Hid ((∀ j,j<d.sh.length→zBq d.sh j=none)→shEnd d=res):=by
    intro hp;rw [←HR.o];exact (shFull_none hne h20 hp).symm
   have x14:=HX.o.cell (i:=14) rfl
   go_wp2_with fail
   rw [←hW];with_reducible refine (whole0_c W).mono ?_
   rintro e w1 ⟨A1,c1,A2,c2,rfl,hn1,hn2,hb1⟩;have HX1:=zq (HX.o.below hb1);have HB1:=zq (zAb HB.o hb1);have hs1:=hb1.size
   have HST:Hid (ShSt w d w1.heap.size A1 c1 A2 c2 (zDs d.sh 0) (w1.alloc (.cells (rdC false A1 c1 0 A2 c2 1) 89))) :=
    ⟨HB1.o.alloc za _,HX1.o.alloc _,Bx.new _ _ _,hn1.alloc _,hn2.alloc _,za⟩
   have y14:=HX1.o.cell (i:=14) rfl;have hlt1:=HX1.o.lt;clear hb1 x14;go_wp2;obtain ⟨b,o,hA,hb0,hc0⟩:=HD.o.shs.at_ za;have HC0:=zq hc0;clear hc0;rw [hA]
   go_loopg [21] d.sh.length (ShRel w d w1.heap.size)
   case atStart=>exact ⟨A1,c1,A2,c2,0,HST.o,⟨by rw [sumP_zero];decide,by rw [sumP_zero];decide,by rw [sumP_zero];decide⟩,za,rfl,fun j hj=>absurd hj za⟩
   case round =>
    clear HST HB1 HX1 hn1 hn2 y14 hs1 hW HX HB hsz;obtain ⟨A3,c3,A4,c4,k,hst,hle,hkm,rfl,hpre⟩:=hrel;have HST:=zq hst;have HLE:=zq hle;have HKM:=zq hkm;have HP:=zq hpre;have hkl:k≤d.sh.length:=za;clear hst hle hkm hpre;have HSH:=zq (HST.o.shs HD.o)
    by_cases hlt:k<d.sh.length
    ·have hb:b<wr.heap.size:=Nat.lt_of_lt_of_le hb0 HST.o.bel.size
     have hc:∀ i (h:i<d.sh.length),wr.cell? ⟨b,o+i*3,none⟩=some (.string (d.sh[i]).pt)∧wr.cell? ⟨b,o+i*3+1,none⟩=some (.string (d.sh[i]).nu)∧wr.cell? ⟨b,o+i*3+2,none⟩=some (.string (d.sh[i]).de) :=
      fun i h=>⟨(HST.o.bel.cell hb0).trans (HC0.o i h).1,(HST.o.bel.cell hb0).trans (HC0.o i h).2.1,(HST.o.bel.cell hb0).trans (HC0.o i h).2.2⟩
     have HCL:=zq hc;obtain ⟨s0,s1,s2⟩:=hc k hlt;clear hc;have HSB:Hid (Bx (wr.alloc (.cells #[.string d.sh[k].pt,.string d.sh[k].nu,.string d.sh[k].de] 42)) wr.heap.size #[.string d.sh[k].pt,.string d.sh[k].nu,.string d.sh[k].de] 42):=Bx.new _ _ _;have HST1:=zq (HST.o.alloc (.cells #[.string d.sh[k].pt,.string d.sh[k].nu,.string d.sh[k].de] 42));have hsz1:=(HD.o.shz _ (List.getElem_mem hlt)).1;have hz1:=Nat.le_trans (absN_size d.sh[k].nu) (HD.o.shz _ (List.getElem_mem hlt)).2.1;have hz2:=(HD.o.shz _ (List.getElem_mem hlt)).2.2
     go_wp2_with fail
     with_reducible refine (zBP d.sh[k].pt _ hsz1).mono ?_
     rintro e w2 ⟨rfl,hb2⟩;have HST2:=zq (HST1.o.below hb2);have hbw:Below wr.heap.size wr w2:=((Below.refl _ _).alloc (Nat.le_refl _) _).trans (hb2.mono zd);have HSB2:=zq (HSB.o.below hb2);clear HST1 HSB hb2
     cases hnm:zBp d.sh[k].pt with
     | false =>
      have HS:Hid (res=5):=HH.o k 5 hlt HP.o (by unfold zBq;rw [ptAt_of hlt,if_pos hnm])
      clear hnm;go_wp2;go_ret
      exact zAe.mk (zAW HS.o.symm) HST2.o.bel
     | true =>
      have HNM:=zq hnm;clear hnm;have yd:w2.cell? ⟨w.heap.size,14,none⟩=some (.slice (some ⟨b,o,none⟩) d.sh.length d.shc):=by rw [←hA];exact HST2.o.box.cell (i:=14) rfl
      have ye:=HST2.o.box.lt;have z0:=HSB2.o.cell (i:=0) rfl;have z1:=HSB2.o.cell (i:=1) rfl;have z2:=HSB2.o.cell (i:=2) rfl;have HPV:Hid (∀ (h:0<k),w2.cell? ⟨b,o+(k - 1)*3,none⟩=some (.string (d.sh[k - 1]'(by omega)).pt)):=fun h=>(hbw.cell hb).trans (HCL.o (k - 1) za).1
      clear hbw s0 s1 s2
      by_cases hk0:0<k
      case' pos =>
       have zp:=HPV.o hk0;have hd:decide ((0:Int)<(k:Int))=true:=ze;have hd0:decide ((0:Int)≤(k:Int) - 1)=true:=ze
       cases hle:sle d.sh[k].pt (d.sh[k - 1]'(by omega)).pt
       case' true =>
        have HS:Hid (res=8):=HH.o k 8 hlt HP.o (by unfold zBq;rw [ptAt_of hlt,ptAt_of (show k - 1<d.sh.length by omega),if_neg (by rw [HNM.o];simp),if_pos ⟨hk0,hle⟩])
        unfold sle at hle;clear HPV HCL;go_wp2
        go_quiet (fail)
        go_wp2;go_ret
        exact zAe.mk (zAW HS.o.symm) (zAd HST2.o.bel _)
       case' false =>
        have HF:Hid (zBq d.sh k=shRest d.sh[k]):=by
         show _=_
         unfold zBq shRest;rw [shD_of hlt,ptAt_of hlt,ptAt_of (show k - 1<d.sh.length by omega),if_neg (by rw [HNM.o];simp),if_neg (fun hh=>by rw [hle] at hh;cases hh.2)]
        unfold sle at hle
      case' neg =>
       have hd:decide ((0:Int)<(k:Int))=false:=ze
       have HF:Hid (zBq d.sh k=shRest d.sh[k]):=by
        show _=_
        unfold zBq shRest;rw [shD_of hlt,ptAt_of hlt,if_neg (by rw [HNM.o];simp),if_neg (fun hh=>hk0 hh.1)]
      all_goals
       clear HPV HCL HNM;go_wp2
       go_quiet (fail)
       go_wp2_with fail
       with_reducible refine (CheckRatio_c d.sh[k].nu d.sh[k].de _ hz1 hz2).mono ?_
       rintro e w3 ⟨rfl,hb3⟩;have HST3:=zq ((HST2.o.drewN nq).below hb3);have HSB3:=zq ((HSB2.o.drewN nq).below hb3);clear yd ye z0 z1 z2 hb3 HSB2 HST2
       by_cases hr:zCN d.sh[k].nu d.sh[k].de=0
       case' neg =>
        have HS:Hid (res=zCN d.sh[k].nu d.sh[k].de):=HH.o k _ hlt HP.o (by rw [HF.o];unfold shRest;rw [if_pos hr])
        have hrb:(zCN d.sh[k].nu d.sh[k].de != 0)=true:=by simpa using hr
        clear hr;go_wp2;go_ret
        exact zAe.mk (zAW HS.o.symm) HST3.o.bel
       have HF2:Hid (zBq d.sh k=if posB d.sh[k].nu=false then some 1 else none):=by
        show _=_
        rw [HF.o];unfold shRest;rw [if_neg (by rw [hr];decide)]
       obtain ⟨q1,q2,q3,q4,q5⟩:=zBY hr;have HLN:Hid ((zAc B32 (zAy (zAS d.sh[k].nu))).length≤2000):=len_val (zBa q1).1 q4;have HLD:Hid ((zAc B32 (zAy d.sh[k].de)).length≤2000):=len_val (zBa q2).1 q5;have HDP:Hid (0<zAy d.sh[k].de):=den_pos q2 q3;have HFR:=zq (From_c d.sh[k].nu d.sh[k].de w3 (zBa q1).1 q4 (zBa q2).1 q5);have z0:=HSB3.o.cell (i:=0) rfl;have z1:=HSB3.o.cell (i:=1) rfl;have z2:=HSB3.o.cell (i:=2) rfl;rw [hr];clear q1 q2 q3 q4 q5 hr HF HSB3
       go_wp2_with fail
       with_reducible refine HFR.o.mono ?_
       rintro e w4 ⟨A5,c5,A6,c6,rfl,h5,h6,hb4⟩;have HST4:=zq (HST3.o.below hb4);clear z0 z1 z2 hb4 HST3 HFR;have HXB:Hid (Bx (w4.alloc (.cells (rdC (sgB d.sh[k].nu) A5 c5 (zAy (zAS d.sh[k].nu)) A6 c6 (zAy d.sh[k].de)) 89)) w4.heap.size (rdC (sgB d.sh[k].nu) A5 c5 (zAy (zAS d.sh[k].nu)) A6 c6 (zAy d.sh[k].de)) 89):=Bx.new _ _ _;have HST5:=zq (HST4.o.alloc (.cells (rdC (sgB d.sh[k].nu) A5 c5 (zAy (zAS d.sh[k].nu)) A6 c6 (zAy d.sh[k].de)) 89));have H5:=zq (h5.alloc (.cells (rdC (sgB d.sh[k].nu) A5 c5 (zAy (zAS d.sh[k].nu)) A6 c6 (zAy d.sh[k].de)) 89));have H6:=zq (h6.alloc (.cells (rdC (sgB d.sh[k].nu) A5 c5 (zAy (zAS d.sh[k].nu)) A6 c6 (zAy d.sh[k].de)) 89));clear h5 h6 HST4
       go_wp2_with fail
       with_reducible refine (RSign_c (sgB d.sh[k].nu) A5 A6 c5 c6 (zAy (zAS d.sh[k].nu)) (zAy d.sh[k].de) _).mono ?_
       rintro e w5 ⟨rfl,hb5⟩;have HST6:=zq (HST5.o.below hb5);have HXB6:=zq (HXB.o.below hb5);have H56:=zq (H5.o.below hb5);have H66:=zq (H6.o.below hb5);have hsg:=posB_sgn d.sh[k].nu;clear hb5 HST5 HXB H5 H6
       cases hp:posB d.sh[k].nu with
       | false =>
        have HS:Hid (res=1):=HH.o k 1 hlt HP.o (by rw [HF2.o,if_pos hp])
        rw [hp] at hsg;clear hp;go_wp2;go_ret
        exact zAe.mk (zAW HS.o.symm) HST6.o.bel
       | true =>
        have HF3:Hid (zBq d.sh k=none):=by
         show _=_
         rw [HF2.o,if_neg (by rw [hp];simp)]
        have hsb:=posB_sg hp;rw [hp] at hsg;clear hp HF2;have HSUM:Hid (zDs d.sh (k+1)=addP (zDs d.sh k) (zAy (zAS d.sh[k].nu),zAy d.sh[k].de)):=sumP_succ hlt;have HLS:=zq (shLen_succ HLE.o HLN.o HLD.o HDP.o);have hk20:k<20:=za;have hle1:=HLE.o.1;have hle2:=HLE.o.2.1;have hle3:=HLE.o.2.2;have HADD:=zq (RAdd_c A3 A4 A5 A6 c3 c4 c5 c6 (zDs d.sh k).1 (zDs d.sh k).2 (zAy (zAS d.sh[k].nu)) (zAy d.sh[k].de) w5 HST6.o.n1 HST6.o.n2 H56.o H66.o za za (Nat.le_trans HLN.o za) (Nat.le_trans HLD.o za) hle3 HDP.o);rw [hsb] at hsg HXB6;rw [hsb];have a0:=HST6.o.sum.cell (i:=0) rfl;have a1:=HST6.o.sum.cell (i:=1) rfl;have a2:=HST6.o.sum.cell (i:=2) rfl;have x0:=HXB6.o.cell (i:=0) rfl;have x1:=HXB6.o.cell (i:=1) rfl;have x2:=HXB6.o.cell (i:=2) rfl;clear hle1 hle2 hle3 HLE HXB6 H56 H66
        go_wp2_with fail
        with_reducible refine HADD.o.mono ?_
        rintro e w6 ⟨A7,c7,A8,c8,rfl,h7,h8,hb6⟩;have HST7:=zq (HST6.o.below hb6);have r0:=HST7.o.sum.cell (i:=0) rfl;have r1:=HST7.o.sum.cell (i:=1) rfl;have r2:=HST7.o.sum.cell (i:=2) rfl;have fr:=HST7.o.sum.frozen;have rl:=HST7.o.sum.lt;have HST8:=zq (HST7.o.store (pr':=addP (zDs d.sh k) (zAy (zAS d.sh[k].nu),zAy d.sh[k].de)) h7 h8);clear a0 a1 a2 x0 x1 x2 hb6 h7 h8 HST6 HADD hsg hsb;go_wp2
        go_roundg (gk - 1)
        case measure=>have:=HKM.o;omega
        case rel =>
         refine ⟨A7,c7,A8,c8,k+1,by rw [HSUM.o];exact HST8.o,by rw [HSUM.o];exact HLS.o,by have:=HKM.o;omega,zi,fun j hj=>?_⟩
         rcases Nat.lt_or_ge j k with h9 | h9
         ·exact HP.o j h9
         ·obtain rfl:j=k:=by omega
          exact HF3.o
    ·have hke:k=d.sh.length:=by omega
     rw [hke] at HST HLE HP;have HE:=zq (HN.o HP.o);have hl1:(zAc B32 (zDs d.sh d.sh.length).1).length≤100000000:=Nat.le_trans HLE.o.1 za;have hl2:(zAc B32 (zDs d.sh d.sh.length).2).length≤100000000:=Nat.le_trans HLE.o.2.1 za;have HL1:=zq hl1;have HL2:=zq hl2;clear hl1 hl2 HLE HP HC0;have a0:=HST.o.sum.cell (i:=0) rfl;have a1:=HST.o.sum.cell (i:=1) rfl;have a2:=HST.o.sum.cell (i:=2) rfl;go_wp2
     go_region_held3 (fun w'=>w'.cell? ⟨w1.heap.size,0,none⟩=some (.bool false)∧w'.cell? ⟨w1.heap.size,1,none⟩=some (.slice A3 (zAc B32 (zDs d.sh d.sh.length).1).length c3)∧w'.cell? ⟨w1.heap.size,2,none⟩=some (.slice A4 (zAc B32 (zDs d.sh d.sh.length).2).length c4)) ((refine ⟨?_,?_,?_⟩<;>first | with_reducible assumption | go_simp))
      (first
       | ((go_at_call 34;(with_reducible refine (whole1_c _).mono ?_);rintro e w8 ⟨A7,c7,A8,c8,rfl,h7,h8,hb8⟩;have HST8:=zq ((HST.o.drewN 1).below hb8);have b0:=HST8.o.sum.cell (i:=0) rfl;have b1:=HST8.o.sum.cell (i:=1) rfl;have b2:=HST8.o.sum.cell (i:=2) rfl;clear hb8))
       | ((go_at_call 33;(with_reducible refine (RCmp_c A3 A4 A7 A8 c3 c4 c7 c8 _ _ 1 1 w8 HST8.o.n1 HST8.o.n2 h7 h8 HL1.o HL2.o zc zc).mono ?_);rintro e w9 ⟨rfl,hb9⟩;have HST9:=zq (HST8.o.below hb9);have d0:=HST9.o.sum.cell (i:=0) rfl;have d1:=HST9.o.sum.cell (i:=1) rfl;have d2:=HST9.o.sum.cell (i:=2) rfl;clear hb9)))
     clear a0 a1 a2 b0 b1 b2 d0 d1 d2 HST HST8 h7 h8 HL1 HL2 HSH;have y2:w9.cell? ⟨w.heap.size,2,none⟩=some (.int .i64 d.kd):=HST9.o.box.cell (i:=2) rfl;have y14:w9.cell? ⟨w.heap.size,14,none⟩=some (.slice d.shA d.sh.length d.shc):=HST9.o.box.cell (i:=14) rfl;have yl:=HST9.o.box.lt;have HCO:=zq (containsSh_c d.shA d.shc w.heap.size d.sh d.fr w9 za (HST9.o.shs HD.o) (HST9.o.box.cell (i:=4) rfl));have he:=HE.o;unfold shEnd at he;clear HE HN HH HR
     try simp only [Nat.mul_one,Nat.one_mul]
     rcases Nat.lt_trichotomy (zDs d.sh d.sh.length).2 (zDs d.sh d.sh.length).1 with h | h | h
     ·rw [if_pos (.inl h)] at he
      rw [zBu h];have HS:=zq he;clear he h;go_wp2;go_ret
      exact zAe.mk (zAW HS.o) HST9.o.bel
     ·rw [if_neg za] at he
      rw [zCq h.symm]
      by_cases hk:d.kd=5
      ·have hkb:(d.kd == 5)=true:=by rw [hk];rfl
       cases hany:d.sh.any (ptIs d.fr) with
       | true =>
        rw [if_pos ⟨hk,hany⟩] at he;rw [hany,hA] at HCO;have HS:=zq he;clear he h hk hany
        go_wp2_with fail
        with_reducible refine HCO.o.mono ?_
        rintro e w10 ⟨rfl,hb10⟩;go_wp2;go_ret
        exact zAe.mk (zAW HS.o) (zAb HST9.o.bel hb10)
       | false =>
        rw [if_neg (fun hh=>by rw [hany] at hh;cases hh.2)] at he
        rw [hany,hA] at HCO;have HS:=zq he;clear he h hk hany
        go_wp2_with fail
        with_reducible refine HCO.o.mono ?_
        rintro e w10 ⟨rfl,hb10⟩;go_wp2;go_ret
        exact zAe.mk (zAW HS.o) (zAb HST9.o.bel hb10)
      ·have hkb:(d.kd == 5)=false:=by simpa using hk
       rw [if_neg (fun hh=>hk hh.1)] at he
       have HS:=zq he;clear he h hk;go_wp2;go_ret
       exact zAe.mk (zAW HS.o) HST9.o.bel
     ·rw [zBw h]
      by_cases hk:d.kd=5
      ·have hkb:(d.kd == 5)=true:=by rw [hk];rfl
       rw [if_pos (.inr ⟨hk,za⟩)] at he;have HS:=zq he;clear he h hk;go_wp2;go_ret
       exact zAe.mk (zAW HS.o) HST9.o.bel
      ·have hkb:(d.kd == 5)=false:=by simpa using hk
       rw [if_neg za,if_neg (fun hh=>hk hh.1)] at he
       have HS:=zq he;clear he h hk;go_wp2;go_ret
       exact zAe.mk (zAW HS.o) HST9.o.bel
end Go.Proofs.YtieoifkdobcpiaaGreatDoor
namespace Dw
open Go Go.RowKit
structure KeyT (P:Program) (K:TypeId) {κ:Type} [DecidableEq κ] (mk:κ→Value):Prop where
 same:∃ d,P.underlying K=some d∧∀ a b,Instr.sameNow d (mk a) (mk b)=some (decide (a=b))
 bits:∀ a,Instr.sameBits 10000 (mk a) (mk a)=true
 chk:∀ (b:Bool) (a:κ) (w:World),(Instr.checkKey b 10000 K (mk a)).run P w = .ok () w
def zAR {κ:Type} [DecidableEq κ] (es:List (κ×Value)) (k:κ):Option Value:=(es.find? fun e=>decide (k=e.1)).map (·.2)
def zAx {κ:Type} [DecidableEq κ] (mk:κ→Value) (w:World) (r:Nat) (f:κ→Option Value):Prop :=
 ∃ (es:Array MapEntry) (clk:Nat) (L:List (κ×Value)),w.heap[r]?=some (.map es clk)∧es.toList.map (fun e=>(e.key,e.val))=L.map (fun p=>(mk p.1,p.2))∧∀ k,zAR L k=f k
section
variable {κ:Type} [DecidableEq κ] {mk:κ→Value} {w w':World} {r:Nat} {f:κ→Option Value}
theorem zAx.lt (h:zAx mk w r f):r<w.heap.size:=by
 obtain ⟨es,clk,L,hr,_⟩:=h;exact (Array.getElem?_eq_some_iff.1 hr).1
theorem zAx.keep (h:zAx mk w r f) (hk:w'.heap[r]?=w.heap[r]?):zAx mk w' r f:=by
 obtain ⟨es,clk,L,hr,rest⟩:=h;exact ⟨es,clk,L,hk.trans hr,rest⟩
theorem zAx.below (h:zAx mk w r f) (hb:Below w.heap.size w w'):zAx mk w' r f:=h.keep (hb.block r h.lt)
theorem zAx.alloc (h:zAx mk w r f) (o:Obj):zAx mk (w.alloc o) r f:=h.keep (Below.heap_alloc w o r h.lt)
theorem zAx.drewN (h:zAx mk w r f) (n:Nat):zAx mk (w.drewN n) r f:=h
theorem zAx.new (mk:κ→Value) (w:World):zAx mk (w.alloc (.map #[] 0)) w.heap.size (fun _=>none) :=
 ⟨#[],0,[],heap_alloc_new w _,rfl,fun _=>rfl⟩
theorem zAx.setCell (h:zAx mk w r f) {a:Addr} (ha:r≠a.block) (u:Value):zAx mk (w.setCell a u) r f:=h.keep (heap_setCell_other w a r u ha)
end
theorem zDj {κ:Type} [DecidableEq κ] {mk:κ→Value} {d:TypeDesc} (hs:∀ a b,Instr.sameNow d (mk a) (mk b)=some (decide (a=b))) (k:κ) :
  ∀ (es:List MapEntry) (L:List (κ×Value)) (i:Nat),es.map (fun e=>(e.key,e.val))=L.map (fun p=>(mk p.1,p.2)) →
   ∃ o,Instr.findNow d (mk k) es i=some o∧o.map (·.2)=zAR L k ∧
    (∀ j v,o=some (j,v)→i≤j∧j - i<L.length∧(L[j - i]?).map (·.1)=some k∧∀ t,t<j - i→(L[t]?).map (·.1)≠some k):=by
 intro es
 induction es with
 | nil =>
  intro L i h
  cases L with
  | nil=>exact ⟨none,rfl,rfl,fun j v h=>by cases h⟩
  | cons a t=>simp at h
 | cons e es ih =>
  intro L i h
  cases L with
  | nil=>simp at h
  | cons a t =>
   simp only [List.map_cons,List.cons.injEq,Prod.mk.injEq] at h;obtain ⟨⟨hk,hv⟩,ht⟩:=h;unfold Instr.findNow;rw [hk,hs]
   by_cases he:k=a.1
   ·refine ⟨some (i,e.val),by simp [he],?_,?_⟩
    ·simp [zAR,he,hv]
    ·intro j v hj
     simp only [Option.some.injEq,Prod.mk.injEq] at hj;obtain ⟨rfl,rfl⟩:=hj;simp [he]
   ·obtain ⟨o,h1,h2,h3⟩:=ih t (i+1) ht
    refine ⟨o,by simpa [he] using h1,?_,?_⟩
    ·rw [h2];simp [zAR,he]
    ·intro j v hj
     obtain ⟨h4,h5,h6,h7⟩:=h3 j v hj;have e1:j - i=(j - (i+1))+1:=za;refine ⟨za,ze,by rw [e1];simpa using h6,fun s hs=>?_⟩
     cases s with
     | zero=>simp;exact fun hh=>he hh.symm
     | succ s=>simpa using h7 s za
section
variable {P:Program} {κ:Type} [DecidableEq κ] {mk:κ→Value} {T K E:TypeId}
theorem zAv (hT:P.underlying T=some (.map K E)) (hK:KeyT P K mk) {z:Value} (hz:∀ w,(zeroValue E).run P w = .ok z w) {w:World} {r:Nat} {f:κ→Option Value} (h:zAx mk w r f) (k:κ) (ok:Bool) :
  (Instr.lookup T (.map (some r)) (mk k) ok).run P w = .ok (if ok then .tuple #[(f k).getD z,.bool (f k).isSome] else (f k).getD z) w:=by
 obtain ⟨es,clk,L,hr,hL,hf⟩:=h;obtain ⟨d,hd,hs⟩:=hK.same;obtain ⟨o,h1,h2,_⟩:=zDj hs k es.toList L 0 hL;have hg:(getObj r).run P w = .ok (.map es clk) w:=qk
 have hfk:(Instr.findKey K (mk k) es.toList).run P w = .ok o w:=by
  simp [Instr.findKey,run_underlying hd,h1]
 rw [hf] at h2
 cases o with
 | none =>
  have:f k=none:=by simpa using h2.symm
  simp [Instr.lookup,run_underlying hT,hg,hK.chk,hfk,hz,this]
 | some p =>
  obtain ⟨i,v⟩:=p;have:f k=some v:=by simpa using h2.symm
  simp [Instr.lookup,run_underlying hT,hg,hK.chk,hfk,this]
theorem chk_string (hK:P.underlying K=some .string) (b:Bool) (a:ByteArray) (w:World) (n:Nat):(Instr.checkKey b (n+1) K (.string a)).run P w = .ok () w:=by
 simp [Instr.checkKey,run_underlying hK]
theorem chk_int (hK:P.underlying K=some (.int .i64)) (b:Bool) (a:Int) (w:World) (n:Nat):(Instr.checkKey b (n+1) K (.int .i64 a)).run P w = .ok () w:=by
 simp [Instr.checkKey,run_underlying hK]
theorem zBg (hK:P.underlying K=some .string):KeyT P K Value.string where
 same:=⟨_,hK,fun a b=>by
  simp only [Instr.sameNow,Option.some.injEq];rw [beq_toListBytes,Bool.eq_iff_iff]
  constructor
  ·intro h
   have h':a.toList=b.toList:=zv;rw [ByteArray.toList_eq,ByteArray.toList_eq] at h'
   simpa using ByteArray.ext (Array.toList_inj.1 h')
  ·intro h
   have:a=b:=zv;subst this;simp⟩
 bits a:=by
  simp only [Instr.sameBits];rw [beq_toListBytes];simp
 chk b a w:=chk_string hK b a w 9999
theorem keyT_int (hK:P.underlying K=some (.int .i64)):KeyT P K (fun n:Int=>Value.int .i64 n) where
 same:=⟨_,hK,fun a b=>by simp only [Instr.sameNow,if_true,Option.some.injEq];rfl⟩
 bits a:=by simp [Instr.sameBits]
 chk b a w:=chk_int hK b a w 9999
theorem lookE_set {L:List (κ×Value)} {j:Nat} {k:κ} {v:Value} (hj:j<L.length) (hk:(L[j]?).map (·.1)=some k) (hmin:∀ t,t<j→(L[t]?).map (·.1)≠some k) :
  ∀ k',zAR (L.modify j fun _=>(k,v)) k'=if k'=k then some v else zAR L k':=by
 induction L generalizing j with
 | nil=>simp at hj
 | cons a t ih =>
  intro k'
  cases j with
  | zero =>
   have ha:a.1=k:=by simpa using hk
   by_cases h:k'=k
   ·subst h;simp [zAR]
   ·simp [zAR,h,ha]
  | succ j =>
   have ha:a.1≠k:=by
    have:=hmin 0 za
    simpa using this
   have:=ih (j:=j) qm (by simpa using hk) (fun s hs=>by simpa using hmin (s+1) za) k'
   by_cases h:k'=a.1
   ·subst h;simp [zAR,ha]
   ·simp only [List.modify_succ_cons]
    unfold zAR at this ⊢;rw [List.find?_cons_of_neg zv,List.find?_cons_of_neg zv];exact this
theorem lookE_push {L:List (κ×Value)} {k:κ} {v:Value} (h:zAR L k=none):∀ k',zAR (L++[(k,v)]) k'=if k'=k then some v else zAR L k':=by
 intro k';unfold zAR at *;rw [List.find?_append]
 by_cases hk:k'=k
 ·subst hk
  have:L.find? (fun e=>decide (k'=e.1))=none:=zv
  simp [this]
 ·simp only [List.find?_cons,hk,decide_false,List.find?_nil,if_false]
  cases L.find? (fun e=>decide (k'=e.1))<;>rfl
theorem zAX (hT:P.underlying T=some (.map K E)) (hK:KeyT P K mk) {w:World} {r:Nat} {f:κ→Option Value} (h:zAx mk w r f) (k:κ) (v:Value) :
  ∃ w',(Instr.mapUpdate T (.map (some r)) (mk k) v).run P w = .ok () w'∧zAx mk w' r (fun k'=>if k'=k then some v else f k')∧w.grownBy w' (some r)∧w'.heap.size=w.heap.size:=by
 obtain ⟨es,clk,L,hr,hL,hf⟩:=h;have hrl:r<w.heap.size:=(Array.getElem?_eq_some_iff.1 hr).1;obtain ⟨d,hd,hs⟩:=hK.same;obtain ⟨o,h1,h2,h3⟩:=zDj hs k es.toList L 0 hL;have hg:(getObj r).run P w = .ok (.map es clk) w:=qk;have hset:∀ (es':Array MapEntry) (c':Nat),(setObj r (.map es' c')).run P w = .ok () { w with heap:=w.heap.setIfInBounds r (.map es' c') }:=fun es' c'=>by simp [setObj,Sem.run,hr]
 have hfk:(Instr.findKey K (mk k) es.toList).run P w = .ok o w:=by
  simp [Instr.findKey,run_underlying hd,h1]
 have hgrow:∀ (es':Array MapEntry) (c':Nat),w.grownBy { w with heap:=w.heap.setIfInBounds r (.map es' c') } (some r):=fun es' c' =>
  ⟨rfl,rfl,rfl,zd,fun i hi hne=>by simp only [Array.getElem?_setIfInBounds];rw [if_neg (fun e=>hne (by rw [e]))]⟩
 have hget:∀ (es':Array MapEntry) (c':Nat),({ w with heap:=w.heap.setIfInBounds r (.map es' c') }:World).heap[r]?=some (.map es' c'):=fun es' c'=>by
  simp [hrl]
 rw [hf] at h2;have hlen:es.size=L.length:=yp
 cases o with
 | none =>
  have hn:f k=none:=by simpa using h2.symm
  refine ⟨_,?_,⟨_,_,L++[(k,v)],hget (es.push { key:=mk k,val:=v,born:=clk }) (clk+1),?_,?_⟩,hgrow _ _,zd⟩
  ·simp [Instr.mapUpdate,run_underlying hT,hg,hK.chk,hfk,hset]
  ·simp [hL]
  ·intro k'
   rw [lookE_push (by rw [hf];exact hn),hf]
 | some p =>
  obtain ⟨i,v0⟩:=p;obtain ⟨_,h5,h6,h7⟩:=h3 i v0 rfl;simp only [Nat.sub_zero] at h5 h6 h7;have hi:i<es.size:=za
  have hkey:es[i].key=mk k:=by
   have e1:(es.toList.map fun e=>(e.key,e.val))[i]?=(L.map fun p=>(mk p.1,p.2))[i]?:=by rw [hL]
   rw [List.getElem?_map,List.getElem?_map,List.getElem?_eq_getElem h5,List.getElem?_eq_getElem yh] at e1;rw [List.getElem?_eq_getElem h5] at h6;simp only [Option.map_some,Option.some.injEq,Prod.mk.injEq] at e1 h6;rw [←h6];simpa using e1.1
  have hstay:∀ x,(Instr.keyThatStays (mk k) (mk k)).run P x = .ok (mk k) x:=fun x=>by
   simp [Instr.keyThatStays,hK.bits]
  refine ⟨_,?_,⟨_,_,L.modify i fun _=>(k,v),hget (es.modify i fun e=>{ e with key:=mk k,val:=v }) clk,?_,?_⟩,hgrow _ _,zd⟩
  ·simp [Instr.mapUpdate,run_underlying hT,hg,hK.chk,hfk,hi,hkey,hstay,hset]
  ·apply List.ext_getElem?
   intro n;have e1:(es.toList.map fun e=>(e.key,e.val))[n]?=(L.map fun p=>(mk p.1,p.2))[n]?:=by rw [hL]
   rw [List.getElem?_map,List.getElem?_map] at e1;rw [List.getElem?_map,List.getElem?_map,List.getElem?_modify,Array.toList_modify,List.getElem?_modify]
   by_cases hn:i=n
   ·subst hn
    rw [List.getElem?_eq_getElem h5,List.getElem?_eq_getElem yh];simp
   ·simp only [hn,if_false]
    cases hx:es.toList[n]?<;>cases hy:L[n]?<;>simp_all
  ·intro k'
   rw [lookE_set h5 h6 h7,hf]
end
end Dw
namespace Go.Proofs.YtieoifkdobcpiaaGreatDoor
open Go.RowKit Dw
def mp (l:List Rg):Nat→ByteArray→Option Value
 | 0,_=>none
 | k+1,s=>if s=nmAt l k then some (.int .i64 (k:Int)) else mp l k s
theorem mp_none {l:List Rg} {s:ByteArray}:∀ {k:Nat},k≤l.length→(∀ j (h:j<l.length),j<k→(l[j]).nm≠s)→mp l k s=none
 | 0,_,_=>rfl
 | k+1,hk,h=>by
  rw [mp,if_neg,mp_none za (fun j hj hjk=>h j hj za)]
  rw [zBh za];exact fun e=>h k za za e.symm
theorem mp_some {l:List Rg} (hi:Inc l) {x:Nat} (hx:x<l.length):∀ {k:Nat},x<k→k≤l.length→mp l k (l[x]).nm=some (.int .i64 (x:Int))
 | 0,h,_=>za
 | k+1,h,hk=>by
  rw [mp]
  by_cases e:x=k
  ·subst e;rw [if_pos (zBh hx).symm]
  ·rw [if_neg,mp_some hi hx za za]
   rw [zBh za];exact fun e'=>e (hi.inj hx za e')
theorem mp_idx {l:List Rg} (hi:Inc l) (s:ByteArray):mp l l.length s=(idx l s).map fun x=>.int .i64 (x:Int):=by
 cases h:idx l s with
 | none=>exact mp_none (Nat.le_refl _) fun j hj _=>idx_none h hj
 | some x =>
  obtain ⟨hx,rfl⟩:=idx_some h;exact mp_some hi hx hx (Nat.le_refl _)
theorem kStr:KeyT Tryz.prog 9 Value.string:=zBg Tryz.underlying9
theorem tMap:Tryz.prog.underlying 106=some (.map 9 3):=Tryz.underlying106
theorem zInt (w:World):(zeroValue 3).run Tryz.prog w = .ok (.int .i64 0) w:=zb
def ChkP1 (w:World) (l:List Rg) (m:Nat) (i:Value) (wr:World):Prop :=
 ∃ k:Nat,k+m=l.length∧i = .int .i64 k∧(∀ j,j<k→zBk l j=none)∧zAx Value.string wr w.heap.size (mp l k)∧Below w.heap.size w wr
def ChkP2 (w:World) (l:List Rg) (m:Nat) (i:Value) (wr:World):Prop :=
 ∃ k:Nat,k+m=l.length∧i = .int .i64 k∧(∀ j (h:j<l.length),j<k→zCJ l l[j]=false)∧zAx Value.string wr w.heap.size (mp l l.length)∧Below w.heap.size w wr
def ChkP3 (w:World) (l:List Rg) (m:Nat) (i:Value) (wr:World):Prop :=
 ∃ k:Nat,k+m=l.length∧i = .int .i64 k∧(∀ j,j<k→upN l (l.length+2) j=none)∧zAx Value.string wr w.heap.size (mp l l.length)∧Below w.heap.size w wr
def ChkP4 (w:World) (l:List Rg) (i R:Nat) (m:Nat) (n:Value) (wr:World):Prop :=
 ∃ k:Nat,k+m=l.length+1∧n = .int .i64 k∧∃ j,∃ hj:j<l.length,upN l k i=some j∧wr.heap[R]?=some (.cells #[.string (l[j]).nm,.string (l[j]).par] 72 (0,0)) ∧
  zAx Value.string wr w.heap.size (mp l l.length)∧Below w.heap.size w wr
theorem box2 {wr w2:World} {v0 v1:Value} {t:TypeId} (hb:Below (wr.alloc (.cells #[v0,v1] t)).heap.size (wr.alloc (.cells #[v0,v1] t)) w2) :
  w2.heap[wr.heap.size]?=some (.cells #[v0,v1] t (0,0)):=by
 rw [hb.block _ zd];exact heap_alloc_new _ _
theorem box2_0 {w:World} {g:Nat} {v0 v1:Value} {t:TypeId} (h:w.heap[g]?=some (.cells #[v0,v1] t (0,0))):w.cell? ⟨g,0,none⟩=some v0:=by
 rw [cell_of_row w g 0 _ t (0,0) h];rfl
theorem box2_1 {w:World} {g:Nat} {v0 v1:Value} {t:TypeId} (h:w.heap[g]?=some (.cells #[v0,v1] t (0,0))):w.cell? ⟨g,1,none⟩=some v1:=by
 rw [cell_of_row w g 1 _ t (0,0) h];rfl
theorem box2_f {w:World} {g:Nat} {v0 v1:Value} {t:TypeId} (h:w.heap[g]?=some (.cells #[v0,v1] t (0,0))) (i:Nat):w.frozen? ⟨g,i,none⟩=false :=
 frozen_of_row w g i _ t h
theorem box2_set {w:World} {g:Nat} {v0 v1 u0 u1:Value} {t:TypeId} (h:w.heap[g]?=some (.cells #[v0,v1] t (0,0))) :
  ((w.setCell ⟨g,0,none⟩ u0).setCell ⟨g,1,none⟩ u1).heap[g]?=some (.cells #[u0,u1] t (0,0)):=by
 have h1:=heap_setCell_same w g 0 _ t u0 h;exact heap_setCell_same _ g 1 _ t u1 h1
theorem below_map {B r:Nat} {a w w':World} (h:Below B a w) (hg:w.grownBy w' (some r)) (hr:B≤r) (hB:B≤w.heap.size):Below B a w' :=
 h.grown hg hB fun k hk=>by injection hk with hk;omega
theorem CheckRegions_c (A:Option Addr) (c:Nat) (l:List Rg) (w:World) (h:Rgs w A l) (hz:∀ i (h:i<l.length),(l[i]).nm.size≤9223372036854775807) :
  Calls Tryz.prog 89 #[.slice A l.length c] w (zAe (.int .i64 (chkR l)) w):=by
 generalize hres:chkR l=res;have HR:=zq hres;clear hres
 by_cases h1:l=[]
 ·subst h1
  go_enter Tryz.func89,Tryz.ntmps89
  go_wp2;go_ret
  refine zAe.mk (zAW ?_) (Below.refl _ _)
  rw [←HR.o];rfl
 have h1':0<l.length:=List.length_pos_iff.2 h1;have hl0:((l.length:Int) == 0)=false:=by rw [beq_eq_false_iff_ne];omega
 by_cases hlen:200<l.length
 ·go_enter Tryz.func89,Tryz.ntmps89
  go_wp2;go_ret
  refine zAe.mk (zAW ?_) (Below.refl _ _)
  rw [←HR.o];unfold chkR;rw [if_neg h1,if_pos hlen]
 have hn:l.length≤200:=za;obtain ⟨b,o,rfl,hb,hc⟩:=h.at_ h1';have HC:=zq hc;have HZ:=zq hz;have H1:=zq h1;clear hc hz h1;have hmm:=@run_makeMap Tryz.prog
 go_enter Tryz.func89,Tryz.ntmps89
 go_wp2;clear hmm
 go_loopg [22] l.length (ChkP1 w l)
 case atStart=>exact ⟨0,za,rfl,fun j hj=>absurd hj za,zAx.new _ _,(Below.refl _ _).alloc (Nat.le_refl _) _⟩
 case round =>
  obtain ⟨k,hk,rfl,hpre,hmap,hbel⟩:=hrel;have HK:=zq hk;have HP:=zq hpre;have HM:=zq hmap;have HB:=zq hbel;have hk1:k≤l.length:=za;have hwr:w.heap.size<wr.heap.size:=hmap.lt;have hbr:b<wr.heap.size:=za;clear hk hpre hmap hbel
  by_cases hlt:k<l.length
  ·have hc0:wr.cell? ⟨b,o+k*2,none⟩=some (.string (l[k]).nm):=(HB.o.cell hb).trans (HC.o k hlt).1
   have hc1:wr.cell? ⟨b,o+k*2+1,none⟩=some (.string (l[k]).par):=(HB.o.cell hb).trans (HC.o k hlt).2;have hr0:=zBh hlt;have hzk:=HZ.o k hlt
   have hcp:0<k→wr.cell? ⟨b,o+(k - 1)*2,none⟩=some (.string (nmAt l (k - 1))):=fun hk0=>by
    rw [zBh za];exact (HB.o.cell hb).trans (HC.o (k - 1) za).1
   go_wp2_with fail
   refine (zBP _ _ hzk).mono ?_
   rintro e w2 ⟨rfl,hb2⟩;have hR:=box2 hb2;have hR0:=box2_0 hR;have hmap2:=(HM.o.alloc _).below hb2;have hbel2:Below w.heap.size w w2:=(HB.o.alloc za _).trans (hb2.mono ze)
   have hcp2:0<k→w2.cell? ⟨b,o+(k - 1)*2,none⟩=some (.string (nmAt l (k - 1))):=fun hk0=>by
    rw [←hcp hk0];exact (hb2.cell ze).trans (World.cell?_alloc_lt _ _ _ hbr)
   clear hcp hc0 hc1 HM HB hR hb2
   cases hq:zBp (l[k]).nm with
   | false =>
    have hres:res=5:=by
     rw [←HR.o,chkR_first H1.o hlen hlt HP.o (x:=5) (by unfold zBk;rw [hr0,if_pos hq])]
    have HS:=zq hres;have HB2:=zq hbel2;clear hres hq hr0 hbel2 hmap2 hcp2;go_wp2;go_ret
    exact zAe.mk (zAW HS.o.symm) HB2.o
   | true =>
    by_cases hk0:0<k
    ·have hd:decide ((0:Int)<(k:Int))=true:=by simp;omega
     have hcpk:=hcp2 hk0;clear hcp2
     cases hle:sle (l[k]).nm (nmAt l (k - 1)) with
     | true =>
      have hleb:=hle;unfold sle at hleb
      have hres:res=8:=by
       rw [←HR.o,chkR_first H1.o hlen hlt HP.o (x:=8) (by unfold zBk;rw [hr0,if_neg (by rw [hq];simp),if_pos ⟨hk0,hle⟩])]
      have HS:=zq hres;have HB2:=zq hbel2;clear hres hq hr0 hle hbel2 hmap2;go_wp2
      go_quiet (fail)
      go_wp2;go_ret
      exact zAe.mk (zAW HS.o.symm) (zAd HB2.o _)
     | false =>
      have hleb:=hle;unfold sle at hleb
      have HF:Hid (zBk l k=none):=by
       show zBk l k=none
       unfold zBk;rw [hr0,if_neg (by rw [hq];simp),if_neg (by rw [hle];simp)]
      have HM2:=zq hmap2;have HB2:=zq hbel2;clear hq hle hmap2 hbel2;go_wp2
      go_quiet (fail)
      obtain ⟨w3,hrun,hm3,hg3,hs3⟩:=zAX tMap kStr (HM2.o.drewN nq) (l[k]).nm (.int .i64 (k:Int));have HM3:=zq hm3;have HB3:=zq (below_map (zAd HB2.o nq) hg3 (Nat.le_refl _) (by have:=HB2.o.size;simpa using this))
      have HR0:=zq hr0;clear hm3 hg3 hs3 HM2 HB2 hr0;go_wp2
      go_roundg (gk - 1)
      case measure=>have:=HK.o;omega
      case rel =>
       refine ⟨k+1,zh,zi,fun j hj=>?_,?_,HB3.o⟩
       ·rcases Nat.lt_or_ge j k with h1 | h1
        ·exact HP.o j h1
        ·obtain rfl:j=k:=by omega
         exact HF.o
       ·have:=HM3.o
        rw [←HR0.o] at this;exact this
    ·have hd:decide ((0:Int)<(k:Int))=false:=by simp;omega
     have HF:Hid (zBk l k=none):=by
      show zBk l k=none
      unfold zBk;rw [hr0,if_neg (by rw [hq];simp),if_neg za]
     have HM2:=zq hmap2;have HB2:=zq hbel2;clear hq hmap2 hbel2 hcp2;go_wp2
     go_quiet (fail)
     obtain ⟨w3,hrun,hm3,hg3,hs3⟩:=zAX tMap kStr (HM2.o.drewN nq) (l[k]).nm (.int .i64 (k:Int));have HM3:=zq hm3;have HB3:=zq (below_map (zAd HB2.o nq) hg3 (Nat.le_refl _) (by have:=HB2.o.size;simpa using this))
     have HR0:=zq hr0;clear hm3 hg3 hs3 HM2 HB2 hr0;go_wp2
     go_roundg (gk - 1)
     case measure=>have:=HK.o;omega
     case rel =>
      refine ⟨k+1,zh,zi,fun j hj=>?_,?_,HB3.o⟩
      ·rcases Nat.lt_or_ge j k with h1 | h1
       ·exact HP.o j h1
       ·obtain rfl:j=k:=by omega
        exact HF.o
      ·have:=HM3.o
       rw [←HR0.o] at this;exact this
  ·have hF0:∀ j,j<l.length→zBk l j=none:=fun j hj=>HP.o j za
   have HF0:=zq hF0;have HI:=zq (inc_of_fault hF0).2;obtain rfl:k=l.length:=za;clear hF0 HP HK hk1 hlt;go_wp2
   go_loopg [51] l.length (ChkP2 w l)
   case atStart=>exact ⟨0,za,rfl,fun j _ hj=>absurd hj za,HM.o,HB.o⟩
   clear HM HB hwr hbr
   case round =>
    obtain ⟨k,hk,rfl,hpre,hmap,hbel⟩:=hrel;have HK:=zq hk;have HP:=zq hpre;have HM:=zq hmap;have HB:=zq hbel;have hk1:k≤l.length:=za;have hwr:w.heap.size<wr.heap.size:=hmap.lt;have hbr:b<wr.heap.size:=za;clear hk hpre hmap hbel
    by_cases hlt:k<l.length
    ·have hc0:wr.cell? ⟨b,o+k*2,none⟩=some (.string (l[k]).nm):=(HB.o.cell hb).trans (HC.o k hlt).1
     have hc1:wr.cell? ⟨b,o+k*2+1,none⟩=some (.string (l[k]).par):=(HB.o.cell hb).trans (HC.o k hlt).2;have hlk:=zAv tMap kStr zInt (HM.o.alloc (.cells #[.string (l[k]).nm,.string (l[k]).par] 72)) (l[k]).par true;have HM2:=zq (HM.o.alloc (.cells #[.string (l[k]).nm,.string (l[k]).par] 72));have HB2:=zq (HB.o.alloc (Nat.le_of_lt hwr) (.cells #[.string (l[k]).nm,.string (l[k]).par] 72));clear HM HB
     by_cases hp:(l[k]).par=emp
     ·have he:=zAt hp
      have HF:Hid (zCJ l l[k]=false):=by
       show zCJ l l[k]=false
       simp [zCJ,hp]
      generalize (mp l l.length (l[k]).par).getD (.int .i64 0)=v at hlk;generalize (mp l l.length (l[k]).par).isSome=bl at hlk;simp only [if_true] at hlk;clear hp;go_wp2
      go_roundg (gk - 1)
      case measure=>have:=HK.o;omega
      case rel =>
       refine ⟨k+1,zh,zi,fun j hj hjk=>?_,HM2.o,HB2.o⟩
       rcases Nat.lt_or_ge j k with h1 | h1
       ·exact HP.o j hj h1
       ·obtain rfl:j=k:=by omega
        exact HF.o
     ·have he:=zAu hp
      cases hix:idx l (l[k]).par with
      | none =>
       rw [mp_idx HI.o,hix] at hlk;simp only [if_true,Option.map_none,Option.getD_none,Option.isSome_none] at hlk
       have hres:res=5:=by
        rw [←HR.o];exact chkR_par H1.o hlen HF0.o hlt (by simp [zCJ,hp,hix])
       have HS:=zq hres;clear hres hix hp;go_wp2;go_ret
       exact zAe.mk (zAW HS.o.symm) HB2.o
      | some x =>
       rw [mp_idx HI.o,hix] at hlk;simp only [if_true,Option.map_some,Option.getD_some,Option.isSome_some] at hlk
       have HF:Hid (zCJ l l[k]=false):=by
        show zCJ l l[k]=false
        simp [zCJ,hix]
       clear hix hp;go_wp2
       go_roundg (gk - 1)
       case measure=>have:=HK.o;omega
       case rel =>
        refine ⟨k+1,zh,zi,fun j hj hjk=>?_,HM2.o,HB2.o⟩
        rcases Nat.lt_or_ge j k with h1 | h1
        ·exact HP.o j hj h1
        ·obtain rfl:j=k:=by omega
         exact HF.o
    ·have hP0:∀ j (h:j<l.length),zCJ l l[j]=false:=fun j hj=>HP.o j hj za
     have HP0:=zq hP0;clear hP0;go_wp2;clear HK HP hk1 hlt
     go_loopg [72] l.length (ChkP3 w l)
     case atStart=>exact ⟨0,za,rfl,fun j hj=>absurd hj za,HM.o,HB.o⟩
     clear HM HB hwr hbr
     case round =>
      obtain ⟨i,hk,rfl,hpre,hmap,hbel⟩:=hrel;have HK:=zq hk;have HP:=zq hpre;have HM:=zq hmap;have HB:=zq hbel;have hk1:i≤l.length:=za;have hwr:w.heap.size<wr.heap.size:=hmap.lt;have hbr:b<wr.heap.size:=za;clear hk hpre hmap hbel;obtain ⟨g1,hg1⟩:∃ g1,g1=gk:=⟨_,rfl⟩;subst hg1;obtain ⟨w0,hw0⟩:∃ w0:World,w0=wr:=⟨_,rfl⟩;subst hw0
      by_cases hlt:i<l.length
      ·have hc0:w0.cell? ⟨b,o+i*2,none⟩=some (.string (l[i]).nm):=(HB.o.cell hb).trans (HC.o i hlt).1
       have hc1:w0.cell? ⟨b,o+i*2+1,none⟩=some (.string (l[i]).par):=(HB.o.cell hb).trans (HC.o i hlt).2;have HM2:=zq (HM.o.alloc (.cells #[.string (l[i]).nm,.string (l[i]).par] 72));have HB2:=zq (HB.o.alloc (Nat.le_of_lt hwr) (.cells #[.string (l[i]).nm,.string (l[i]).par] 72));go_wp2;clear hc0 hc1
       go_loopg [12] (l.length+1) (ChkP4 w l i w0.heap.size)
       case atStart=>exact ⟨0,za,rfl,i,hlt,rfl,heap_alloc_new _ _,HM2.o,HB2.o⟩
       clear HM2 HB2
       case round =>
        obtain ⟨k,hk,rfl,j,hj,hup,hRj,hmap,hbel⟩:=hrel;have HK4:=zq hk;have HU:=zq hup;have hk2:k≤l.length+1:=za;have hR0:=box2_0 hRj;have hR1:=box2_1 hRj;have hf0:=box2_f hRj 0;have hf1:=box2_f hRj 1;have HRJ:=zq hRj;have HM4:=zq hmap;have HB4:=zq hbel;have hwi:w.heap.size<wr.heap.size:=hmap.lt;clear hk hup hRj hmap hbel
        by_cases hp:(l[j]).par=emp
        ·have he:=zAt hp
         have hend:upN l (l.length+2) i=none:=by
          have:upN l (k+1) i=none:=by rw [upN_add,HU.o];simp [upN,up_none hj hp]
          exact upN_none_mono this za
         have HE:=zq hend;clear hend hp;go_wp2
         go_roundg (g1 - 1)
         case measure=>have:=HK.o;omega
         case rel =>
          refine ⟨i+1,zh,zi,fun t ht=>?_,HM4.o,HB4.o⟩
          rcases Nat.lt_or_ge t i with h3 | h3
          ·exact HP.o t h3
          ·obtain rfl:t=i:=by omega
           exact HE.o
        ·have he:=zAu hp
         obtain ⟨j',hx⟩:=parBad_false HP0.o hj hp;obtain ⟨hj',hnm⟩:=idx_some hx
         have hup':upN l (k+1) i=some j':=by
          rw [upN_add,HU.o];simp [upN,up_of hj,hp,hx]
         have HU':=zq hup'
         by_cases hbig:l.length<k
         ·have hres:res=14:=by
           rw [←HR.o,chkR_last H1.o hlen HF0.o HP0.o,if_neg];intro hE;have h2:=hE i hlt;rw [show l.length+2=k+1 from by omega,HU'.o] at h2
           cases h2
          have HS:=zq hres;clear hres hup' hx hnm hp;go_wp2;go_ret
          exact zAe.mk (zAW HS.o.symm) HB4.o
         ·have hlk:=zAv tMap kStr zInt HM4.o (l[j]).par false
          rw [mp_idx HI.o,hx] at hlk;simp only [Bool.false_eq_true,if_false,Option.map_some,Option.getD_some] at hlk;have hc0:wr.cell? ⟨b,o+j'*2,none⟩=some (.string (l[j']).nm):=(HB4.o.cell hb).trans (HC.o j' hj').1;have hc1:wr.cell? ⟨b,o+j'*2+1,none⟩=some (.string (l[j']).par):=(HB4.o.cell hb).trans (HC.o j' hj').2;clear hup' hx hnm hp;go_wp2
          go_roundg (gk - 1)
          case measure=>have:=HK4.o;omega
          case rel =>
           refine ⟨k+1,by have:=HK4.o;omega,zi,j',hj',HU'.o,box2_set HRJ.o,?_,?_⟩
           ·exact (HM4.o.setCell (a:=⟨w0.heap.size,0,none⟩) (by show w.heap.size≠w0.heap.size;omega) _).setCell (a:=⟨w0.heap.size,1,none⟩) (by show w.heap.size≠w0.heap.size;omega) _
           ·exact (HB4.o.setCell (p:=⟨w0.heap.size,0,none⟩) (by show w.heap.size≤w0.heap.size;omega) _).setCell (p:=⟨w0.heap.size,1,none⟩) (by show w.heap.size≤w0.heap.size;omega) _
      ·have hres:res=0:=by
        rw [←HR.o,chkR_last H1.o hlen HF0.o HP0.o,if_pos];exact fun t ht=>HP.o t za
       have HS:=zq hres;clear hres;go_wp2;go_ret
       exact zAe.mk (zAW HS.o.symm) HB.o
end Go.Proofs.YtieoifkdobcpiaaGreatDoor
