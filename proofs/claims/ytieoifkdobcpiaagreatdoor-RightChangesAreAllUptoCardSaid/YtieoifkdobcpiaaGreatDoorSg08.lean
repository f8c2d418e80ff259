/- Parts of the proof, joined: Walks over package right (places): CheckRegions. A region that draws i. -/
import Derived.Test.YtieoifkdobcpiaaGreatDoorSg07
import Derived.Orders
import Derived.RegionTactic
set_option maxRecDepth 100000
set_option maxHeartbeats 8000000
namespace Go.Proofs.YtieoifkdobcpiaaGreatDoor
open Go.RowKit Dw
def mp (l:List Rg):Nat→BA→Option Value
 | 0,_=>none
 | k+1,s=>if s=nmAt l k then some (.int .i64 (k:Int)) else mp l k s
theorem mp_none {l:List Rg} {s:BA}:∀ {k:Nat},k≤l.length→(∀ j (h:j<l.length),j<k→(l[j]).nm≠s)→mp l k s=none
 | 0,_,_=>rfl
 | k+1,hk,h=>by
  rw [mp,aD,mp_none za (fun j hj hjk=>h j hj za)]
  rw [zBd za];exact fun e=>h k za za e.symm
theorem mp_some {l:List Rg} (hi:Inc l) {x:Nat} (hx:x<l.length):∀ {k:Nat},x<k→k≤l.length→mp l k (l[x]).nm=some (.int .i64 (x:Int))
 | 0,h,_=>za
 | k+1,h,hk=>by
  rw [mp]
  by_cases e:x=k
  ·subst e;rw [aF (zBd hx).symm]
  ·rw [aD,mp_some hi hx za za]
   rw [zBd za];exact fun e'=>e (hi.inj hx za e')
theorem mp_idx {l:List Rg} (hi:Inc l) (s:BA):mp l l.length s=(idx l s).map fun x=>.int .i64 (x:Int):=by
 cases h:idx l s with
 | none=>exact mp_none (aC _) fun j hj _=>idx_none h hj
 | some x =>
  obtain ⟨hx,rfl⟩:=idx_some h;exact mp_some hi hx hx (aC _)
theorem kStr:KeyT Tryz.prog 9 Value.string:=zBc Tryz.underlying9
theorem tMap:Tryz.prog.underlying 106=some (.map 9 3):=Tryz.underlying106
theorem zInt (w:World):(zeroValue 3).run Tryz.prog w = .ok (.int .i64 0) w:=zb
def ChkP1 (w:World) (l:List Rg) (m:Nat) (i:Value) (wr:World):Prop :=
 ∃ k:Nat,k+m=l.length∧i = .int .i64 k∧(∀ j,j<k→zBh l j=none)∧zAq Value.string wr w.heap.size (mp l k)∧Below w.heap.size w wr
def ChkP2 (w:World) (l:List Rg) (m:Nat) (i:Value) (wr:World):Prop :=
 ∃ k:Nat,k+m=l.length∧i = .int .i64 k∧(∀ j (h:j<l.length),j<k→zCB l l[j]=false)∧zAq Value.string wr w.heap.size (mp l l.length)∧Below w.heap.size w wr
def ChkP3 (w:World) (l:List Rg) (m:Nat) (i:Value) (wr:World):Prop :=
 ∃ k:Nat,k+m=l.length∧i = .int .i64 k∧(∀ j,j<k→upN l (l.length+2) j=none)∧zAq Value.string wr w.heap.size (mp l l.length)∧Below w.heap.size w wr
def ChkP4 (w:World) (l:List Rg) (i R:Nat) (m:Nat) (n:Value) (wr:World):Prop :=
 ∃ k:Nat,k+m=l.length+1∧n = .int .i64 k∧∃ j,∃ hj:j<l.length,upN l k i=some j∧wr.heap[R]?=some (.cells #[.string (l[j]).nm,.string (l[j]).par] 72 (0,0)) ∧
  zAq Value.string wr w.heap.size (mp l l.length)∧Below w.heap.size w wr
theorem box2 {wr w2:World} {v0 v1:Value} {t:TypeId} (hb:Below (wr.alloc (.cells #[v0,v1] t)).heap.size (wr.alloc (.cells #[v0,v1] t)) w2) :
  w2.heap[wr.heap.size]?=some (.cells #[v0,v1] t (0,0)):=by
 rw [hb.block _ zd];exact bZ _ _
theorem box2_0 {w:World} {g:Nat} {v0 v1:Value} {t:TypeId} (h:w.heap[g]?=some (.cells #[v0,v1] t (0,0))):w.cell? ⟨g,0,none⟩=some v0:=by
 rw [aL w g 0 _ t (0,0) h];rfl
theorem box2_1 {w:World} {g:Nat} {v0 v1:Value} {t:TypeId} (h:w.heap[g]?=some (.cells #[v0,v1] t (0,0))):w.cell? ⟨g,1,none⟩=some v1:=by
 rw [aL w g 1 _ t (0,0) h];rfl
theorem box2_f {w:World} {g:Nat} {v0 v1:Value} {t:TypeId} (h:w.heap[g]?=some (.cells #[v0,v1] t (0,0))) (i:Nat):w.frozen? ⟨g,i,none⟩=false :=
 bV w g i _ t h
theorem box2_set {w:World} {g:Nat} {v0 v1 u0 u1:Value} {t:TypeId} (h:w.heap[g]?=some (.cells #[v0,v1] t (0,0))) :
  ((w.setCell ⟨g,0,none⟩ u0).setCell ⟨g,1,none⟩ u1).heap[g]?=some (.cells #[u0,u1] t (0,0)):=by
 have h1:=dY w g 0 _ t u0 h;exact dY _ g 1 _ t u1 h1
theorem below_map {B r:Nat} {a w w':World} (h:Below B a w) (hg:w.grownBy w' (some r)) (hr:B≤r) (hB:B≤w.heap.size):Below B a w' :=
 h.grown hg hB fun k hk=>by injection hk with hk;omega
theorem CheckRegions_c (A:Option Addr) (c:Nat) (l:List Rg) (w:World) (h:Rgs w A l) (hz:∀ i (h:i<l.length),(l[i]).nm.size≤9223372036854775807) :
  Calls Tryz.prog 89 #[.slice A l.length c] w (zAe (.int .i64 (chkR l)) w):=by
 generalize hres:chkR l=res;have HR:=zq hres;clear hres
 by_cases h1:l=[]
 ·subst h1
  go_enter Tryz.func89,Tryz.ntmps89
  go_wp2;go_ret
  refine zAe.mk (zAX ?_) (aN _ _)
  rw [←HR.o];rfl
 have h1':0<l.length:=List.length_pos_iff.2 h1;have hl0:((l.length:Int) == 0)=false:=by rw [beq_eq_false_iff_ne];omega
 by_cases hlen:200<l.length
 ·go_enter Tryz.func89,Tryz.ntmps89
  go_wp2;go_ret
  refine zAe.mk (zAX ?_) (aN _ _)
  rw [←HR.o];unfold chkR;rw [aD h1,aF hlen]
 have hn:l.length≤200:=za;obtain ⟨b,o,rfl,hb,hc⟩:=h.at_ h1';have HC:=zq hc;have HZ:=zq hz;have H1:=zq h1;clear hc hz h1;have hmm:=@run_makeMap Tryz.prog
 go_enter Tryz.func89,Tryz.ntmps89
 go_wp2;clear hmm
 go_loopg [22] l.length (ChkP1 w l)
 case atStart=>exact ⟨0,za,rfl,fun j hj=>absurd hj za,zAq.new _ _,(aN _ _).alloc (aC _) _⟩
 case round =>
  obtain ⟨k,hk,rfl,hpre,hmap,hbel⟩:=hrel;have HK:=zq hk;have HP:=zq hpre;have HM:=zq hmap;have HB:=zq hbel;have hk1:k≤l.length:=za;have hwr:w.heap.size<wr.heap.size:=hmap.lt;have hbr:b<wr.heap.size:=za;clear hk hpre hmap hbel
  by_cases hlt:k<l.length
  ·have hc0:wr.cell? ⟨b,o+k*2,none⟩=some (.string (l[k]).nm):=(HB.o.cell hb).trans (HC.o k hlt).1
   have hc1:wr.cell? ⟨b,o+k*2+1,none⟩=some (.string (l[k]).par):=(HB.o.cell hb).trans (HC.o k hlt).2;have hr0:=zBd hlt;have hzk:=HZ.o k hlt
   have hcp:0<k→wr.cell? ⟨b,o+(k - 1)*2,none⟩=some (.string (nmAt l (k - 1))):=fun hk0=>by
    rw [zBd za];exact (HB.o.cell hb).trans (HC.o (k - 1) za).1
   go_wp2_with fail
   refine (zBI _ _ hzk).mono ?_
   rintro e w2 ⟨rfl,hb2⟩;have hR:=box2 hb2;have hR0:=box2_0 hR;have hmap2:=(HM.o.alloc _).below hb2;have hbel2:Below w.heap.size w w2:=(HB.o.alloc za _).trans (hb2.mono ze)
   have hcp2:0<k→w2.cell? ⟨b,o+(k - 1)*2,none⟩=some (.string (nmAt l (k - 1))):=fun hk0=>by
    rw [←hcp hk0];exact (hb2.cell ze).trans (World.cell?_alloc_lt _ _ _ hbr)
   clear hcp hc0 hc1 HM HB hR hb2
   cases hq:zAT (l[k]).nm with
   | false =>
    have hres:res=5:=by
     rw [←HR.o,chkR_first H1.o hlen hlt HP.o (x:=5) (by unfold zBh;rw [hr0,aF hq])]
    have HS:=zq hres;have HB2:=zq hbel2;clear hres hq hr0 hbel2 hmap2 hcp2;go_wp2;go_ret
    exact zAe.mk (zAX HS.o.symm) HB2.o
   | true =>
    by_cases hk0:0<k
    ·have hd:decide ((0:Int)<(k:Int))=true:=by simp;omega
     have hcpk:=hcp2 hk0;clear hcp2
     cases hle:sle (l[k]).nm (nmAt l (k - 1)) with
     | true =>
      have hleb:=hle;unfold sle at hleb
      have hres:res=8:=by
       rw [←HR.o,chkR_first H1.o hlen hlt HP.o (x:=8) (by unfold zBh;rw [hr0,aD (by rw [hq];simp),aF ⟨hk0,hle⟩])]
      have HS:=zq hres;have HB2:=zq hbel2;clear hres hq hr0 hle hbel2 hmap2;go_wp2
      go_quiet (fail)
      go_wp2;go_ret
      exact zAe.mk (zAX HS.o.symm) (zAc HB2.o _)
     | false =>
      have hleb:=hle;unfold sle at hleb
      have HF:Hid (zBh l k=none):=by
       show zBh l k=none
       unfold zBh;rw [hr0,aD (by rw [hq];simp),aD (by rw [hle];simp)]
      have HM2:=zq hmap2;have HB2:=zq hbel2;clear hq hle hmap2 hbel2;go_wp2
      go_quiet (fail)
      obtain ⟨w3,hrun,hm3,hg3,hs3⟩:=zAC tMap kStr (HM2.o.drewN nq) (l[k]).nm (.int .i64 (k:Int));have HM3:=zq hm3;have HB3:=zq (below_map (zAc HB2.o nq) hg3 (aC _) (by have:=HB2.o.size;simpa using this))
      have HR0:=zq hr0;clear hm3 hg3 hs3 HM2 HB2 hr0;go_wp2
      go_roundg (gk - 1)
      case measure=>have:=HK.o;omega
      case rel =>
       refine ⟨k+1,zh,zi,fun j hj=>?_,?_,HB3.o⟩
       ·rcases bQ j k with h1 | h1
        ·exact HP.o j h1
        ·obtain rfl:j=k:=by omega
         exact HF.o
       ·have:=HM3.o
        rw [←HR0.o] at this;exact this
    ·have hd:decide ((0:Int)<(k:Int))=false:=by simp;omega
     have HF:Hid (zBh l k=none):=by
      show zBh l k=none
      unfold zBh;rw [hr0,aD (by rw [hq];simp),aD za]
     have HM2:=zq hmap2;have HB2:=zq hbel2;clear hq hmap2 hbel2 hcp2;go_wp2
     go_quiet (fail)
     obtain ⟨w3,hrun,hm3,hg3,hs3⟩:=zAC tMap kStr (HM2.o.drewN nq) (l[k]).nm (.int .i64 (k:Int));have HM3:=zq hm3;have HB3:=zq (below_map (zAc HB2.o nq) hg3 (aC _) (by have:=HB2.o.size;simpa using this))
     have HR0:=zq hr0;clear hm3 hg3 hs3 HM2 HB2 hr0;go_wp2
     go_roundg (gk - 1)
     case measure=>have:=HK.o;omega
     case rel =>
      refine ⟨k+1,zh,zi,fun j hj=>?_,?_,HB3.o⟩
      ·rcases bQ j k with h1 | h1
       ·exact HP.o j h1
       ·obtain rfl:j=k:=by omega
        exact HF.o
      ·have:=HM3.o
       rw [←HR0.o] at this;exact this
  ·have hF0:∀ j,j<l.length→zBh l j=none:=fun j hj=>HP.o j za
   have HF0:=zq hF0;have HI:=zq (inc_of_fault hF0).2;obtain rfl:k=l.length:=za;clear hF0 HP HK hk1 hlt;go_wp2
   go_loopg [51] l.length (ChkP2 w l)
   case atStart=>exact ⟨0,za,rfl,fun j _ hj=>absurd hj za,HM.o,HB.o⟩
   clear HM HB hwr hbr
   case round =>
    obtain ⟨k,hk,rfl,hpre,hmap,hbel⟩:=hrel;have HK:=zq hk;have HP:=zq hpre;have HM:=zq hmap;have HB:=zq hbel;have hk1:k≤l.length:=za;have hwr:w.heap.size<wr.heap.size:=hmap.lt;have hbr:b<wr.heap.size:=za;clear hk hpre hmap hbel
    by_cases hlt:k<l.length
    ·have hc0:wr.cell? ⟨b,o+k*2,none⟩=some (.string (l[k]).nm):=(HB.o.cell hb).trans (HC.o k hlt).1
     have hc1:wr.cell? ⟨b,o+k*2+1,none⟩=some (.string (l[k]).par):=(HB.o.cell hb).trans (HC.o k hlt).2;have hlk:=zAn tMap kStr zInt (HM.o.alloc (.cells #[.string (l[k]).nm,.string (l[k]).par] 72)) (l[k]).par true;have HM2:=zq (HM.o.alloc (.cells #[.string (l[k]).nm,.string (l[k]).par] 72));have HB2:=zq (HB.o.alloc (Nat.le_of_lt hwr) (.cells #[.string (l[k]).nm,.string (l[k]).par] 72));clear HM HB
     by_cases hp:(l[k]).par=emp
     ·have he:=zAx hp
      have HF:Hid (zCB l l[k]=false):=by
       show zCB l l[k]=false
       simp [zCB,hp]
      generalize (mp l l.length (l[k]).par).getD (.int .i64 0)=v at hlk;generalize (mp l l.length (l[k]).par).isSome=bl at hlk;simp only [dR] at hlk;clear hp;go_wp2
      go_roundg (gk - 1)
      case measure=>have:=HK.o;omega
      case rel =>
       refine ⟨k+1,zh,zi,fun j hj hjk=>?_,HM2.o,HB2.o⟩
       rcases bQ j k with h1 | h1
       ·exact HP.o j hj h1
       ·obtain rfl:j=k:=by omega
        exact HF.o
     ·have he:=zAy hp
      cases hix:idx l (l[k]).par with
      | none =>
       rw [mp_idx HI.o,hix] at hlk;simp only [dR,Option.map_none,dZ,eA] at hlk
       have hres:res=5:=by
        rw [←HR.o];exact chkR_par H1.o hlen HF0.o hlt (by simp [zCB,hp,hix])
       have HS:=zq hres;clear hres hix hp;go_wp2;go_ret
       exact zAe.mk (zAX HS.o.symm) HB2.o
      | some x =>
       rw [mp_idx HI.o,hix] at hlk;simp only [dR,dX,eB,eC] at hlk
       have HF:Hid (zCB l l[k]=false):=by
        show zCB l l[k]=false
        simp [zCB,hix]
       clear hix hp;go_wp2
       go_roundg (gk - 1)
       case measure=>have:=HK.o;omega
       case rel =>
        refine ⟨k+1,zh,zi,fun j hj hjk=>?_,HM2.o,HB2.o⟩
        rcases bQ j k with h1 | h1
        ·exact HP.o j hj h1
        ·obtain rfl:j=k:=by omega
         exact HF.o
    ·have hP0:∀ j (h:j<l.length),zCB l l[j]=false:=fun j hj=>HP.o j hj za
     have HP0:=zq hP0;clear hP0;go_wp2;clear HK HP hk1 hlt
     go_loopg [72] l.length (ChkP3 w l)
     case atStart=>exact ⟨0,za,rfl,fun j hj=>absurd hj za,HM.o,HB.o⟩
     clear HM HB hwr hbr
     case round =>
      obtain ⟨i,hk,rfl,hpre,hmap,hbel⟩:=hrel;have HK:=zq hk;have HP:=zq hpre;have HM:=zq hmap;have HB:=zq hbel;have hk1:i≤l.length:=za;have hwr:w.heap.size<wr.heap.size:=hmap.lt;have hbr:b<wr.heap.size:=za;clear hk hpre hmap hbel;obtain ⟨g1,hg1⟩:∃ g1,g1=gk:=⟨_,rfl⟩;subst hg1;obtain ⟨w0,hw0⟩:∃ w0:World,w0=wr:=⟨_,rfl⟩;subst hw0
      by_cases hlt:i<l.length
      ·have hc0:w0.cell? ⟨b,o+i*2,none⟩=some (.string (l[i]).nm):=(HB.o.cell hb).trans (HC.o i hlt).1
       have hc1:w0.cell? ⟨b,o+i*2+1,none⟩=some (.string (l[i]).par):=(HB.o.cell hb).trans (HC.o i hlt).2;have HM2:=zq (HM.o.alloc (.cells #[.string (l[i]).nm,.string (l[i]).par] 72));have HB2:=zq (HB.o.alloc (Nat.le_of_lt hwr) (.cells #[.string (l[i]).nm,.string (l[i]).par] 72));go_wp2;clear hc0 hc1
       go_loopg [12] (l.length+1) (ChkP4 w l i w0.heap.size)
       case atStart=>exact ⟨0,za,rfl,i,hlt,rfl,bZ _ _,HM2.o,HB2.o⟩
       clear HM2 HB2
       case round =>
        obtain ⟨k,hk,rfl,j,hj,hup,hRj,hmap,hbel⟩:=hrel;have HK4:=zq hk;have HU:=zq hup;have hk2:k≤l.length+1:=za;have hR0:=box2_0 hRj;have hR1:=box2_1 hRj;have hf0:=box2_f hRj 0;have hf1:=box2_f hRj 1;have HRJ:=zq hRj;have HM4:=zq hmap;have HB4:=zq hbel;have hwi:w.heap.size<wr.heap.size:=hmap.lt;clear hk hup hRj hmap hbel
        by_cases hp:(l[j]).par=emp
        ·have he:=zAx hp
         have hend:upN l (l.length+2) i=none:=by
          have:upN l (k+1) i=none:=by rw [upN_add,HU.o];simp [upN,up_none hj hp]
          exact upN_none_mono this za
         have HE:=zq hend;clear hend hp;go_wp2
         go_roundg (g1 - 1)
         case measure=>have:=HK.o;omega
         case rel =>
          refine ⟨i+1,zh,zi,fun t ht=>?_,HM4.o,HB4.o⟩
          rcases bQ t i with h3 | h3
          ·exact HP.o t h3
          ·obtain rfl:t=i:=by omega
           exact HE.o
        ·have he:=zAy hp
         obtain ⟨j',hx⟩:=parBad_false HP0.o hj hp;obtain ⟨hj',hnm⟩:=idx_some hx
         have hup':upN l (k+1) i=some j':=by
          rw [upN_add,HU.o];simp [upN,up_of hj,hp,hx]
         have HU':=zq hup'
         by_cases hbig:l.length<k
         ·have hres:res=14:=by
           rw [←HR.o,chkR_last H1.o hlen HF0.o HP0.o,aD];intro hE;have h2:=hE i hlt;rw [show l.length+2=k+1 from by omega,HU'.o] at h2
           cases h2
          have HS:=zq hres;clear hres hup' hx hnm hp;go_wp2;go_ret
          exact zAe.mk (zAX HS.o.symm) HB4.o
         ·have hlk:=zAn tMap kStr zInt HM4.o (l[j]).par false
          rw [mp_idx HI.o,hx] at hlk;simp only [eD,dO,dX,eB] at hlk;have hc0:wr.cell? ⟨b,o+j'*2,none⟩=some (.string (l[j']).nm):=(HB4.o.cell hb).trans (HC.o j' hj').1;have hc1:wr.cell? ⟨b,o+j'*2+1,none⟩=some (.string (l[j']).par):=(HB4.o.cell hb).trans (HC.o j' hj').2;clear hup' hx hnm hp;go_wp2
          go_roundg (gk - 1)
          case measure=>have:=HK4.o;omega
          case rel =>
           refine ⟨k+1,by have:=HK4.o;omega,zi,j',hj',HU'.o,box2_set HRJ.o,?_,?_⟩
           ·exact (HM4.o.setCell (a:=⟨w0.heap.size,0,none⟩) (by show w.heap.size≠w0.heap.size;omega) _).setCell (a:=⟨w0.heap.size,1,none⟩) (by show w.heap.size≠w0.heap.size;omega) _
           ·exact (HB4.o.setCell (p:=⟨w0.heap.size,0,none⟩) (by show w.heap.size≤w0.heap.size;omega) _).setCell (p:=⟨w0.heap.size,1,none⟩) (by show w.heap.size≤w0.heap.size;omega) _
      ·have hres:res=0:=by
        rw [←HR.o,chkR_last H1.o hlen HF0.o HP0.o,aF];exact fun t ht=>HP.o t za
       have HS:=zq hres;clear hres;go_wp2;go_ret
       exact zAe.mk (zAX HS.o.symm) HB.o
end Go.Proofs.YtieoifkdobcpiaaGreatDoor
namespace Dw
open Go
def zAi (ops:Array Oper) (vals:Nat→Value):List Nat→Act→Act
 | [],a=>a
 | i::L,a=>zAi ops vals L (a.put ((ops[i]?).bind (·.dst)) (vals i))
def zAD (n:Nat) (done:Nat→Bool):List Nat:=(List.range n).filter done
def zBv {α:Type} (f:Nat→α) (i:Nat) (v:α):Nat→α:=fun j=>if j=i then v else f j
def Apart (ops:Array Oper):Prop:=∀ i j:Nat,i<ops.size→j<ops.size→i≠j→∀ d,(ops[i]?).bind (·.dst)=some d→(ops[j]?).bind (·.dst)≠some d
def apartB (ops:Array Oper):Bool:=(List.range ops.size).all fun i=>(List.range ops.size).all fun j=>i == j || ((ops[i]?).bind (·.dst)).isNone || (ops[i]?).bind (·.dst) != (ops[j]?).bind (·.dst)
theorem apart_of {ops:Array Oper} (h:apartB ops=true):Apart ops:=fun i j hi hj hne d hd he=>by
 unfold apartB at h;have h1:=List.all_eq_true.1 h i (List.mem_range.2 hi);have h2:=List.all_eq_true.1 h1 j (List.mem_range.2 hj);rw [hd,he] at h2;simp [hne] at h2
def backB (ops:Array Oper):Bool:=(List.range ops.size).all fun i=>((ops[i]?).map fun o=>o.after.all fun e=>!Region.binds .any e || decide (e.on<i)).getD true
theorem zDs (ops:Array Oper) (vals:Nat→Value):∀ (L M:List Nat) (a:Act),zAi ops vals (L++M) a=zAi ops vals M (zAi ops vals L a)
 | [],_,_=>rfl
 | i::L,M,a=>by rw [List.cons_append,zAi,zAi,zDs ops vals L M]
theorem putAll_congr {ops:Array Oper} {vals vals':Nat→Value}:∀ {L:List Nat} {a:Act},(∀ i∈L,vals i=vals' i)→zAi ops vals L a=zAi ops vals' L a
 | [],_,_=>rfl
 | i::L,a,h=>by
  rw [zAi,zAi,h i zd];exact putAll_congr fun j hj=>h j (by simp [hj])
theorem doneL_succ (n:Nat) (done:Nat→Bool):zAD (n+1) done=zAD n done++(if done n then [n] else []):=by
 unfold zAD;rw [dI,dJ]
 cases h:done n<;>simp [h]
theorem doneL_congr {n:Nat} {d d':Nat→Bool} (h:∀ j,j<n→d j=d' j):zAD n d=zAD n d':=List.filter_congr fun x hx=>h x (List.mem_range.1 hx)
theorem mem_doneL {n i:Nat} {done:Nat→Bool}:i∈zAD n done↔i<n∧done i=true:=by
 unfold zAD;rw [List.mem_filter,List.mem_range]
theorem putAll_ins {ops:Array Oper} (hap:Apart ops) {vals:Nat→Value} {done:Nat→Bool} {i:Nat} {v:Value} {a:Act} (hi:done i=false) :
  ∀ n,i<n→n≤ops.size→zAi ops (zBv vals i v) (zAD n (zBv done i true)) a=(zAi ops vals (zAD n done) a).put ((ops[i]?).bind (·.dst)) v
 | 0,h,_=>za
 | n+1,h,hn=>by
  rw [doneL_succ,doneL_succ,zDs,zDs]
  by_cases e:i=n
  ·subst e
   have e1:zAD i (zBv done i true)=zAD i done:=doneL_congr fun j hj=>by simp [zBv];omega
   rw [e1,hi]
   have e2:zAi ops (zBv vals i v) (zAD i done) a=zAi ops vals (zAD i done) a:=putAll_congr fun j hj=>by
    have:=(mem_doneL.1 hj).1;simp [zBv];omega
   simp [zBv,zAi,e2]
  ·have ih:=putAll_ins hap (vals:=vals) (v:=v) (a:=a) hi n za za
   have e1:zBv done i true n=done n:=by simp [zBv];omega
   rw [e1,ih]
   cases hd:done n with
   | false=>simp [zAi]
   | true =>
    have e2:zBv vals i v n=vals n:=by simp [zBv];omega
    simp only [dR,zAi,e2];exact Act.put_comm _ _ _ fun d hd'=>hap i n za za e d hd'
theorem eval_put_same {a:Act} {d:Tmp} {v:Value} (h:d<a.tmps.size):(a.put (some d) v).eval (.tmp d)=v:=by
 simp [Act.put,Act.eval,h]
theorem size_put (a:Act) (d:Option Tmp) (v:Value):(a.put d v).tmps.size=a.tmps.size:=by
 cases d<;>simp [Act.put]
theorem zCl {ops:Array Oper} {vals:Nat→Value} {x:Operand}:∀ {L:List Nat} {a:Act},(∀ i∈L,∀ d,(ops[i]?).bind (·.dst)=some d→x≠.tmp d)→(zAi ops vals L a).eval x=a.eval x
 | [],_,_=>rfl
 | i::L,a,h=>by
  rw [zAi,zCl fun j hj=>h j (by simp [hj])]
  exact Act.eval_put fun d hd=>h i zd d hd
theorem eval_putAll_done {ops:Array Oper} (hap:Apart ops) {vals:Nat→Value} {d:Tmp} {j:Nat} (hj:j<ops.size) (hd:(ops[j]?).bind (·.dst)=some d) :
  ∀ {L:List Nat} {a:Act},j∈L→L.Nodup→(∀ i∈L,i<ops.size)→d<a.tmps.size→(zAi ops vals L a).eval (.tmp d)=vals j
 | [],_,h,_,_,_=>by simp at h
 | i::L,a,h,hnd,hlt,hs=>by
  rw [zAi];rw [List.nodup_cons] at hnd
  rcases List.mem_cons.1 h with e | h'
  ·subst e
   rw [zCl,hd,eval_put_same hs];intro k hk d' hd' e
   injection e with e
   subst e;have hne:j≠k:=fun e=>hnd.1 (e▸hk)
   exact hap j k hj (hlt k (by simp [hk])) hne d hd hd'
  ·exact eval_putAll_done hap hj hd h' hnd.2 (fun k hk=>hlt k (by simp [hk])) (by rw [size_put];exact hs)
section
variable {P:Program} {ops:Array Oper} {Q:Exit→Act→World→Prop}
theorem ready_none {listed:Array Bool} {done:Nat→Bool} (hb:backB ops=true) (hls:listed.size=ops.size) (hl:∀ j,j<ops.size→listed.getD j false=done j) (hr:Region.ready .any ops listed=[]):∀ j,j<ops.size→done j=true:=by
 intro j
 induction j using Nat.strongRecOn with
 | _ j ih =>
  intro hj
  cases hd:done j with
  | true=>rfl
  | false =>
   exfalso
   have hmem:j∈Region.ready .any ops listed:=by
    unfold Region.ready;rw [List.mem_filter,List.mem_range];refine ⟨hj,?_⟩
    have h1:=hl j hj;have hjs:j<listed.size:=za
    have h2:listed.getD j true=false:=by
     rw [hd] at h1;simp [Array.getD,hjs] at h1 ⊢
     exact h1
    rw [h2];have h3:=List.all_eq_true.1 hb j (List.mem_range.2 hj);rw [Array.getElem?_eq_getElem hj] at h3 ⊢;simp only [dX,eB,Bool.not_false,Bool.true_and] at h3 ⊢;rw [Array.all_eq_true'] at h3 ⊢;intro e he;have h4:=h3 e he
    cases hb2:Region.binds .any e with
    | false=>simp
    | true =>
     rw [hb2] at h4;have h5:e.on<j:=by simpa using h4
     rw [hl e.on za,ih e.on h5 za];simp
   rw [hr] at hmem;simp at hmem
theorem count_set {n i:Nat} {done:Nat→Bool} (hi:i<n) (hd:done i=false):(zAD n fun j=>!zBv done i true j).length+1=(zAD n fun j=>!done j).length:=by
 induction n with
 | zero=>omega
 | succ n ih =>
  rw [doneL_succ,doneL_succ,dC,dC]
  by_cases e:i=n
  ·subst e
   have e1:zAD i (fun j=>!zBv done i true j)=zAD i fun j=>!done j:=doneL_congr fun j hj=>by simp [zBv];omega
   rw [e1];simp [zBv,hd]
  ·have e1:zBv done i true n=done n:=by simp [zBv];omega
   rw [e1,←ih za];omega
theorem wpAny_inv (hap:Apart ops) (hb:backB ops=true) (a0:Act) (J:(Nat→Bool)→(Nat→Value)→World→Prop)
  (hstep:∀ (i:Nat) (done:Nat→Bool) (vals:Nat→Value) (w:World),i<ops.size→J done vals w→done i=false→(∀ o,ops[i]?=some o→∀ e∈o.after,Region.binds .any e=true→done e.on=true) →
   wpOp P ops Q i (fun a' w'=>∃ v,a'=(zAi ops vals (zAD ops.size done) a0).put ((ops[i]?).bind (·.dst)) v∧J (zBv done i true) (zBv vals i v) w') (zAi ops vals (zAD ops.size done) a0) w)
  (hend:∀ (done:Nat→Bool) (vals:Nat→Value) (w:World),(∀ j,j<ops.size→done j=true)→J done vals w→Q .normal (zAi ops vals (List.range ops.size) a0) w) :
  ∀ (fuel:Nat) (listed:Array Bool) (done:Nat→Bool) (vals:Nat→Value) (w:World),listed.size=ops.size→(∀ j,j<ops.size→listed.getD j false=done j)→(zAD ops.size fun j=>!done j).length≤fuel→J done vals w →
   wpAny P .any ops Q fuel listed (zAi ops vals (zAD ops.size done) a0) w:=by
 intro fuel
 have hfin:∀ (done:Nat→Bool) (vals:Nat→Value) (w:World),(∀ j,j<ops.size→done j=true)→J done vals w→Q .normal (zAi ops vals (zAD ops.size done) a0) w:=fun done vals w hd hJ=>by
  have:=hend done vals w hd hJ
  have e:zAD ops.size done=List.range ops.size:=by
   unfold zAD;rw [List.filter_eq_self];exact fun x hx=>hd x (List.mem_range.1 hx)
  rw [e];exact this
 induction fuel with
 | zero =>
  intro listed done vals w hls hl hc hJ
  have hall:∀ j,j<ops.size→done j=true:=fun j hj=>by
   cases hd:done j with
   | true=>rfl
   | false =>
    have:j∈zAD ops.size fun j=>!done j:=mem_doneL.2 ⟨hj,by simp [hd]⟩
    rw [dD (l:=zAD ops.size fun j=>!done j) za] at this
    simp at this
  refine ⟨?_,hfin done vals w hall hJ⟩
  unfold Region.ready;rw [List.filter_eq_nil_iff];intro j hj;have hj':=List.mem_range.1 hj;have h1:=hl j hj';rw [hall j hj'] at h1;have hjs:j<listed.size:=za;have h2:listed.getD j true=true:=by simp [Array.getD,hjs] at h1 ⊢;exact h1
  simp [h2]
 | succ fuel ih =>
  intro listed done vals w hls hl hc hJ;refine ⟨fun hr=>hfin done vals w (ready_none hb hls hl hr) hJ,fun i hi=>?_⟩
  unfold Region.ready at hi;rw [List.mem_filter,List.mem_range] at hi;obtain ⟨hin,hrd⟩:=hi;rw [dG] at hrd;have hjs:i<listed.size:=za
  have hdi:done i=false:=by
   rw [←hl i hin];have:=hrd.1;simp [Array.getD,hjs] at this ⊢
   exact this
  have hdeps:∀ o,ops[i]?=some o→∀ e∈o.after,Region.binds .any e=true→done e.on=true:=fun o ho e he hbd=>by
   have h3:=hrd.2;rw [ho] at h3;simp only [dX,eB] at h3;rw [Array.all_eq_true'] at h3;have h4:=h3 e he;rw [hbd] at h4;have h5:listed.getD e.on false=true:=by simpa using h4
   have hlt:e.on<ops.size:=by
    refine Nat.lt_of_not_ge fun hge=>?_
    have:¬ e.on<listed.size:=za;simp [Array.getD,this] at h5
   rw [←hl _ hlt];exact h5
  refine wpOp_mono ?_ (hstep i done vals w hin hJ hdi hdeps)
  rintro a' w' ⟨v,rfl,hJ'⟩;rw [←putAll_ins hap hdi ops.size hin (aC _)];refine ih (listed.setIfInBounds i true) (zBv done i true) (zBv vals i v) w' (by simp [hls]) (fun j hj=>?_) ?_ hJ'
  ·have hjs':j<listed.size:=by omega
   by_cases e:j=i
   ·subst e;simp [zBv,Array.getD,hjs']
   ·have:=hl j hj
    simp [zBv,e,Array.getD,hjs'] at this ⊢
    rw [Array.getElem_setIfInBounds_ne za za];exact this
  ·have:=count_set hin hdi
   omega
theorem zDu {id:Nat} {a0:Act} {w:World} (hm:P.follows .mixedOrders=true) (hap:Apart ops) (hb:backB ops=true) (vals0:Nat→Value) (J:(Nat→Bool)→(Nat→Value)→World→Prop)
  (h0:J (fun _=>false) vals0 w.drew)
  (hstep:∀ (i:Nat) (done:Nat→Bool) (vals:Nat→Value) (w:World),i<ops.size→J done vals w→done i=false→(∀ o,ops[i]?=some o→∀ e∈o.after,Region.binds .any e=true→done e.on=true) →
   wpOp P ops Q i (fun a' w'=>∃ v,a'=(zAi ops vals (zAD ops.size done) a0).put ((ops[i]?).bind (·.dst)) v∧J (zBv done i true) (zBv vals i v) w') (zAi ops vals (zAD ops.size done) a0) w)
  (hend:∀ (done:Nat→Bool) (vals:Nat→Value) (w:World),(∀ j,j<ops.size→done j=true)→J done vals w→Q .normal (zAi ops vals (List.range ops.size) a0) w) :
  (Code.region id ops true).wp P Q a0 w:=by
 refine wp_region_any hm ?_
 have e:zAD ops.size (fun _=>false)=[]:=by
  unfold zAD;rw [List.filter_eq_nil_iff];simp
 have:=wpAny_inv (P:=P) (Q:=Q) hap hb a0 J hstep hend ops.size (Array.replicate ops.size false) (fun _=>false) vals0 w.drew zd (fun j hj=>by simp [Array.getD,hj]) (by
  refine cU (dK _ _) ?_
  simp) h0
 rw [e] at this;exact this
end
end Dw
namespace Go.Proofs.YtieoifkdobcpiaaGreatDoor
open Go.RowKit Dw
theorem zAl {P:Program} {ops:Array Oper} {Q:Exit→Act→World→Prop} {i:Nat} {o:Oper} {K:Act→World→Prop} {a:Act} {w w':World} {v:Value} (ho:ops[i]?=some o) (hg:o.guard=none)
  (hr:(execOp a.eval o).run P w = .ok (.value v) w') (h:K (a.put o.dst v) w'):wpOp P ops Q i K a w:=by
 unfold wpOp;simp only [ho];rw [aF (by simp [Region.wanted,hg])]
 left
 unfold Oper.wp;rw [hr];exact h
theorem wpOp_skip {P:Program} {ops:Array Oper} {Q:Exit→Act→World→Prop} {i:Nat} {o:Oper} {K:Act→World→Prop} {a:Act} {w w':World} (ho:ops[i]?=some o) (hg:o.guard=none)
  (hr:(execOp a.eval o).run P w = .ok .skip w') (h:K (a.put o.dst undef) w'):wpOp P ops Q i K a w:=by
 unfold wpOp;simp only [ho];rw [aF (by simp [Region.wanted,hg])]
 left
 unfold Oper.wp;rw [hr];exact h
def notDst (ops:Array Oper) (t:Tmp):Bool:=(List.range ops.size).all fun i=>(ops[i]?).bind (·.dst) != some t
theorem eval_kept {ops:Array Oper} {vals:Nat→Value} {t:Tmp} {done:Nat→Bool} {a:Act} (h:notDst ops t=true):(zAi ops vals (zAD ops.size done) a).eval (.tmp t)=a.eval (.tmp t):=by
 refine zCl fun i hi d hd e=>?_
 injection e with e
 subst e;have:=List.all_eq_true.1 h i (List.mem_range.2 (mem_doneL.1 hi).1);rw [hd] at this;simp at this
theorem zAr {ops:Array Oper} (hap:Apart ops) {vals:Nat→Value} {done:Nat→Bool} {a:Act} {j:Nat} {d:Tmp} (hj:j<ops.size) (hd:(ops[j]?).bind (·.dst)=some d) (hdone:done j=true) (hs:d<a.tmps.size) :
  (zAi ops vals (zAD ops.size done) a).eval (.tmp d)=vals j :=
 eval_putAll_done hap hj hd (mem_doneL.2 ⟨hj,hdone⟩) (List.nodup_range.filter _) (fun _ hi=>(mem_doneL.1 hi).1) hs
theorem run_make_n {P:Program} (t e:TypeId) {z:Value} {bytes:Nat} (hT:ElemT P t e z 1 bytes) (n:Nat) (hb:bytes*n≤281474976710656) (h63:n≤9223372036854775807) (hz:z.cells=#[z]) (w:World) :
  (Instr.makeSlice t (.int .i64 (n:Int)) (.int .i64 (n:Int))).run P w = .ok (.slice (some ⟨w.heap.size,0,none⟩) n n) (w.alloc (.cells (Array.replicate n z) e)):=by
 obtain ⟨i,hi,hz0,hz1,hz2⟩:=info_parts hT.info
 have hb':(i.bytes:Int)*(n:Int)≤281474976710656:=by
  rw [hz2];have h:((bytes*n:Nat):Int)≤281474976710656:=za
  rwa [cA] at h
 have hr:=run_make (P:=P) w t e i z hT.ty hi hz0 .i64 .i64 n n za za hb' za;simp only [Int.toNat_natCast] at hr;rw [hz1,hz,bS] at hr
 have e1:madeCells #[z] n=Array.replicate n z:=by
  apply Array.toList_inj.1
  rw [toList_madeCells_one,Array.toList_replicate]
 rw [e1] at hr;exact hr
theorem elInt:ElemT Tryz.prog 27 3 (.int .i64 0) 1 8:=⟨Tryz.underlying27,zb,rfl,zc⟩
theorem elInts:ElemT Tryz.prog 66 27 (.slice none 0 0) 1 24:=⟨Tryz.underlying66,zb,rfl,zc⟩
theorem elBool:ElemT Tryz.prog 112 4 (.bool false) 1 1:=⟨Tryz.underlying112,zb,rfl,zc⟩
theorem elSet:ElemT Tryz.prog 113 4 (.bool false) 1 1:=⟨Tryz.underlying113,zb,rfl,zc⟩
structure NW (w0 w:World) (B:Nat) (SL lv:Value) (r1 r2 g1 g2 s n:Nat) (f1 f2:BA→Option Value) (up bl:Array Value):Prop where
 box:w.heap[s]?=some (.cells #[SL,.map (some r1),lv,.map (some r2),.slice (some ⟨g1,0,none⟩) n n,.slice (some ⟨g2,0,none⟩) n n] 108 (0,0))
 m1:zAq Value.string w r1 f1
 m2:zAq Value.string w r2 f2
 up:w.heap[g1]?=some (.cells up 3 (0,0))
 bl:w.heap[g2]?=some (.cells bl 27 (0,0))
 ne:r1≠r2
 b1:B≤r1
 b2:B≤r2
 b3:B≤g1
 b4:B≤g2
 b5:B≤s
 below:Below B w0 w
def depB (ops:Array Oper) (i j:Nat):Bool:=((ops[i]?).map fun o=>o.after.any fun e=>Region.binds .any e&&e.on == j).getD false
theorem zAV {ops:Array Oper} {i j:Nat} {done:Nat→Bool} (h:depB ops i j=true) (hd:∀ o,ops[i]?=some o→∀ e∈o.after,Region.binds .any e=true→done e.on=true):done j=true:=by
 unfold depB at h
 cases ho:ops[i]? with
 | none=>rw [ho] at h;simp at h
 | some o =>
  rw [ho] at h;simp only [dX,eB] at h;obtain ⟨e,he,hb⟩:=Array.any_eq_true'.1 h;rw [dG] at hb;have:=hd o ho e he hb.1;rw [show e.on=j from by simpa using hb.2] at this
  exact this
abbrev zAk:Value:=.slice none 0 0
abbrev slAt (g n:Nat):Value:=.slice (some ⟨g,0,none⟩) n n
def boxOf (SL:Value) (lv:Value) (r1 r2 g1 g2 n:Nat):Array Value:=#[SL,.map (some r1),lv,.map (some r2),slAt g1 n,slAt g2 n]
structure J1 (w0:World) (B:Nat) (SL:Value) (n:Nat) (r1 r2 g1 g2 s:Nat) (done:Nat→Bool) (vals:Nat→Value) (w:World):Prop where
 d0:done 0=true→vals 0=SL
 d1:done 1=true→vals 1 = .map (some r1)∧zAq Value.string w r1 (fun _=>none)∧B≤r1
 d2:done 2=true→vals 2 = .map (some r2)∧zAq Value.string w r2 (fun _=>none)∧B≤r2
 d12:done 1=true→done 2=true→r1≠r2
 d3:done 3=true→vals 3=SL
 d4:done 4=true→vals 4 = .int .i64 (n:Int)
 d5:done 5=true→vals 5=slAt g1 n∧w.heap[g1]?=some (.cells (Array.replicate n (.int .i64 0)) 3 (0,0))∧B≤g1
 d6:done 6=true→vals 6=SL
 d7:done 7=true→vals 7 = .int .i64 (n:Int)
 d8:done 8=true→vals 8=slAt g2 n∧w.heap[g2]?=some (.cells (Array.replicate n zAk) 27 (0,0))∧B≤g2
 d9:done 9=true→vals 9 = .agg (boxOf SL zAk r1 r2 g1 g2 n)
 d9':done 9=true→done 1=true∧done 2=true∧done 5=true∧done 8=true
 d10:done 10=true→vals 10 = .pointer (some ⟨s,0,none⟩)∧(∃ cs:Array Value,cs.size=6∧w.heap[s]?=some (.cells cs 108 (0,0)))∧B≤s
 d11:done 11=true→w.heap[s]?=some (.cells (boxOf SL zAk r1 r2 g1 g2 n) 108 (0,0))
 d11':done 11=true→done 9=true∧done 10=true
 below:Below B w0 w
 size:B≤w.heap.size
section
variable {w0 w:World} {B n r1 r2 g1 g2 s:Nat} {SL:Value} {done:Nat→Bool} {vals:Nat→Value}
theorem zAW {w:World} {o:Obj} {g:Nat} {x:Obj} (h:w.heap[g]?=some x):(w.alloc o).heap[g]?=some x:=by
 rw [dN w o g (Array.getElem?_eq_some_iff.1 h).1];exact h
theorem J1.alloc (h:J1 w0 B SL n r1 r2 g1 g2 s done vals w) (o:Obj):J1 w0 B SL n r1 r2 g1 g2 s done vals (w.alloc o) where
 d0:=h.d0
 d1 hd:=⟨(h.d1 hd).1,(h.d1 hd).2.1.alloc o,(h.d1 hd).2.2⟩
 d2 hd:=⟨(h.d2 hd).1,(h.d2 hd).2.1.alloc o,(h.d2 hd).2.2⟩
 d12:=h.d12
 d3:=h.d3
 d4:=h.d4
 d5 hd:=⟨(h.d5 hd).1,zAW (h.d5 hd).2.1,(h.d5 hd).2.2⟩
 d6:=h.d6
 d7:=h.d7
 d8 hd:=⟨(h.d8 hd).1,zAW (h.d8 hd).2.1,(h.d8 hd).2.2⟩
 d9:=h.d9
 d9':=h.d9'
 d10 hd:=⟨(h.d10 hd).1,by obtain ⟨cs,h1,h2⟩:=(h.d10 hd).2.1;exact ⟨cs,h1,zAW h2⟩,(h.d10 hd).2.2⟩
 d11 hd:=zAW (h.d11 hd)
 d11':=h.d11'
 below:=h.below.alloc h.size o
 size:=by have:=h.size;simp;omega
end
theorem zAu {α:Type} (f:Nat→α) (i:Nat) (v:α):zBv f i v i=v:=by simp [zBv]
theorem zAb {α:Type} (f:Nat→α) {i j:Nat} (v:α) (h:j≠i):zBv f i v j=f j:=by simp [zBv,h]
section
variable {w0 w:World} {B n r1 r2 g1 g2 s:Nat} {SL:Value} {done:Nat→Bool} {vals:Nat→Value}
theorem J1.s0 (h:J1 w0 B SL n r1 r2 g1 g2 s done vals w):J1 w0 B SL n r1 r2 g1 g2 s (zBv done 0 true) (zBv vals 0 (SL)) w where
 d0 _:=zAu _ _ _
 d1 hd:=by
  rw [zAb _ _ zc] at hd;rw [zAb _ _ zc];exact h.d1 hd
 d2 hd:=by
  rw [zAb _ _ zc] at hd;rw [zAb _ _ zc];exact h.d2 hd
 d3 hd:=by
  rw [zAb _ _ zc] at hd;rw [zAb _ _ zc];exact h.d3 hd
 d4 hd:=by
  rw [zAb _ _ zc] at hd;rw [zAb _ _ zc];exact h.d4 hd
 d5 hd:=by
  rw [zAb _ _ zc] at hd;rw [zAb _ _ zc];exact h.d5 hd
 d6 hd:=by
  rw [zAb _ _ zc] at hd;rw [zAb _ _ zc];exact h.d6 hd
 d7 hd:=by
  rw [zAb _ _ zc] at hd;rw [zAb _ _ zc];exact h.d7 hd
 d8 hd:=by
  rw [zAb _ _ zc] at hd;rw [zAb _ _ zc];exact h.d8 hd
 d9 hd:=by
  rw [zAb _ _ zc] at hd;rw [zAb _ _ zc];exact h.d9 hd
 d10 hd:=by
  rw [zAb _ _ zc] at hd;rw [zAb _ _ zc];exact h.d10 hd
 d12 hd hd':=by
  rw [zAb _ _ zc] at hd hd';exact h.d12 hd hd'
 d9' hd:=by
  rw [zAb _ _ zc] at hd;rw [zAb _ _ zc,zAb _ _ zc,zAb _ _ zc,zAb _ _ zc];exact h.d9' hd
 d11 hd:=by
  rw [zAb _ _ zc] at hd;exact h.d11 hd
 d11' hd:=by
  rw [zAb _ _ zc] at hd;rw [zAb _ _ zc,zAb _ _ zc];exact h.d11' hd
 below:=h.below
 size:=h.size
theorem J1.s1 (h:J1 w0 B SL n r1 r2 g1 g2 s done vals w) (hi:done 1=false):J1 w0 B SL n w.heap.size r2 g1 g2 s (zBv done 1 true) (zBv vals 1 (.map (some w.heap.size))) (w.alloc (.map #[] 0)) where
 d0 hd:=by
  rw [zAb _ _ zc] at hd;rw [zAb _ _ zc];exact (h.alloc (.map #[] 0)).d0 hd
 d1 _:=⟨zAu _ _ _,zAq.new _ _,h.size⟩
 d2 hd:=by
  rw [zAb _ _ zc] at hd;rw [zAb _ _ zc];exact (h.alloc (.map #[] 0)).d2 hd
 d3 hd:=by
  rw [zAb _ _ zc] at hd;rw [zAb _ _ zc];exact (h.alloc (.map #[] 0)).d3 hd
 d4 hd:=by
  rw [zAb _ _ zc] at hd;rw [zAb _ _ zc];exact (h.alloc (.map #[] 0)).d4 hd
 d5 hd:=by
  rw [zAb _ _ zc] at hd;rw [zAb _ _ zc];exact (h.alloc (.map #[] 0)).d5 hd
 d6 hd:=by
  rw [zAb _ _ zc] at hd;rw [zAb _ _ zc];exact (h.alloc (.map #[] 0)).d6 hd
 d7 hd:=by
  rw [zAb _ _ zc] at hd;rw [zAb _ _ zc];exact (h.alloc (.map #[] 0)).d7 hd
 d8 hd:=by
  rw [zAb _ _ zc] at hd;rw [zAb _ _ zc];exact (h.alloc (.map #[] 0)).d8 hd
 d9 hd:=by
  rw [zAb _ _ zc] at hd;have:=(h.d9' hd).1;rw [hi] at this;cases this
 d10 hd:=by
  rw [zAb _ _ zc] at hd;rw [zAb _ _ zc];exact (h.alloc (.map #[] 0)).d10 hd
 d12 _ hd:=by
  rw [zAb _ _ zc] at hd;have:=(h.d2 hd).2.1.lt;omega
 d9' hd:=by
  rw [zAb _ _ zc] at hd;have:=(h.d9' hd).1;rw [hi] at this;cases this
 d11 hd:=by
  rw [zAb _ _ zc] at hd;have:=(h.d9' (h.d11' hd).1).1;rw [hi] at this;cases this
 d11' hd:=by
  rw [zAb _ _ zc] at hd;rw [zAb _ _ zc,zAb _ _ zc];exact h.d11' hd
 below:=(h.alloc (.map #[] 0)).below
 size:=(h.alloc (.map #[] 0)).size
theorem J1.s2 (h:J1 w0 B SL n r1 r2 g1 g2 s done vals w) (hi:done 2=false):J1 w0 B SL n r1 w.heap.size g1 g2 s (zBv done 2 true) (zBv vals 2 (.map (some w.heap.size))) (w.alloc (.map #[] 0)) where
 d0 hd:=by
  rw [zAb _ _ zc] at hd;rw [zAb _ _ zc];exact (h.alloc (.map #[] 0)).d0 hd
 d1 hd:=by
  rw [zAb _ _ zc] at hd;rw [zAb _ _ zc];exact (h.alloc (.map #[] 0)).d1 hd
 d2 _:=⟨zAu _ _ _,zAq.new _ _,h.size⟩
 d3 hd:=by
  rw [zAb _ _ zc] at hd;rw [zAb _ _ zc];exact (h.alloc (.map #[] 0)).d3 hd
 d4 hd:=by
  rw [zAb _ _ zc] at hd;rw [zAb _ _ zc];exact (h.alloc (.map #[] 0)).d4 hd
 d5 hd:=by
  rw [zAb _ _ zc] at hd;rw [zAb _ _ zc];exact (h.alloc (.map #[] 0)).d5 hd
 d6 hd:=by
  rw [zAb _ _ zc] at hd;rw [zAb _ _ zc];exact (h.alloc (.map #[] 0)).d6 hd
 d7 hd:=by
  rw [zAb _ _ zc] at hd;rw [zAb _ _ zc];exact (h.alloc (.map #[] 0)).d7 hd
 d8 hd:=by
  rw [zAb _ _ zc] at hd;rw [zAb _ _ zc];exact (h.alloc (.map #[] 0)).d8 hd
 d9 hd:=by
  rw [zAb _ _ zc] at hd;have:=(h.d9' hd).2.1;rw [hi] at this;cases this
 d10 hd:=by
  rw [zAb _ _ zc] at hd;rw [zAb _ _ zc];exact (h.alloc (.map #[] 0)).d10 hd
 d12 hd _:=by
  rw [zAb _ _ zc] at hd;have:=(h.d1 hd).2.1.lt;omega
 d9' hd:=by
  rw [zAb _ _ zc] at hd;have:=(h.d9' hd).2.1;rw [hi] at this;cases this
 d11 hd:=by
  rw [zAb _ _ zc] at hd;have:=(h.d9' (h.d11' hd).1).2.1;rw [hi] at this;cases this
 d11' hd:=by
  rw [zAb _ _ zc] at hd;rw [zAb _ _ zc,zAb _ _ zc];exact h.d11' hd
 below:=(h.alloc (.map #[] 0)).below
 size:=(h.alloc (.map #[] 0)).size
theorem J1.s3 (h:J1 w0 B SL n r1 r2 g1 g2 s done vals w):J1 w0 B SL n r1 r2 g1 g2 s (zBv done 3 true) (zBv vals 3 (SL)) w where
 d0 hd:=by
  rw [zAb _ _ zc] at hd;rw [zAb _ _ zc];exact h.d0 hd
 d1 hd:=by
  rw [zAb _ _ zc] at hd;rw [zAb _ _ zc];exact h.d1 hd
 d2 hd:=by
  rw [zAb _ _ zc] at hd;rw [zAb _ _ zc];exact h.d2 hd
 d3 _:=zAu _ _ _
 d4 hd:=by
  rw [zAb _ _ zc] at hd;rw [zAb _ _ zc];exact h.d4 hd
 d5 hd:=by
  rw [zAb _ _ zc] at hd;rw [zAb _ _ zc];exact h.d5 hd
 d6 hd:=by
  rw [zAb _ _ zc] at hd;rw [zAb _ _ zc];exact h.d6 hd
 d7 hd:=by
  rw [zAb _ _ zc] at hd;rw [zAb _ _ zc];exact h.d7 hd
 d8 hd:=by
  rw [zAb _ _ zc] at hd;rw [zAb _ _ zc];exact h.d8 hd
 d9 hd:=by
  rw [zAb _ _ zc] at hd;rw [zAb _ _ zc];exact h.d9 hd
 d10 hd:=by
  rw [zAb _ _ zc] at hd;rw [zAb _ _ zc];exact h.d10 hd
 d12 hd hd':=by
  rw [zAb _ _ zc] at hd hd';exact h.d12 hd hd'
 d9' hd:=by
  rw [zAb _ _ zc] at hd;rw [zAb _ _ zc,zAb _ _ zc,zAb _ _ zc,zAb _ _ zc];exact h.d9' hd
 d11 hd:=by
  rw [zAb _ _ zc] at hd;exact h.d11 hd
 d11' hd:=by
  rw [zAb _ _ zc] at hd;rw [zAb _ _ zc,zAb _ _ zc];exact h.d11' hd
 below:=h.below
 size:=h.size
theorem J1.s4 (h:J1 w0 B SL n r1 r2 g1 g2 s done vals w):J1 w0 B SL n r1 r2 g1 g2 s (zBv done 4 true) (zBv vals 4 (.int .i64 (n:Int))) w where
 d0 hd:=by
  rw [zAb _ _ zc] at hd;rw [zAb _ _ zc];exact h.d0 hd
 d1 hd:=by
  rw [zAb _ _ zc] at hd;rw [zAb _ _ zc];exact h.d1 hd
 d2 hd:=by
  rw [zAb _ _ zc] at hd;rw [zAb _ _ zc];exact h.d2 hd
 d3 hd:=by
  rw [zAb _ _ zc] at hd;rw [zAb _ _ zc];exact h.d3 hd
 d4 _:=zAu _ _ _
 d5 hd:=by
  rw [zAb _ _ zc] at hd;rw [zAb _ _ zc];exact h.d5 hd
 d6 hd:=by
  rw [zAb _ _ zc] at hd;rw [zAb _ _ zc];exact h.d6 hd
 d7 hd:=by
  rw [zAb _ _ zc] at hd;rw [zAb _ _ zc];exact h.d7 hd
 d8 hd:=by
  rw [zAb _ _ zc] at hd;rw [zAb _ _ zc];exact h.d8 hd
 d9 hd:=by
  rw [zAb _ _ zc] at hd;rw [zAb _ _ zc];exact h.d9 hd
 d10 hd:=by
  rw [zAb _ _ zc] at hd;rw [zAb _ _ zc];exact h.d10 hd
 d12 hd hd':=by
  rw [zAb _ _ zc] at hd hd';exact h.d12 hd hd'
 d9' hd:=by
  rw [zAb _ _ zc] at hd;rw [zAb _ _ zc,zAb _ _ zc,zAb _ _ zc,zAb _ _ zc];exact h.d9' hd
 d11 hd:=by
  rw [zAb _ _ zc] at hd;exact h.d11 hd
 d11' hd:=by
  rw [zAb _ _ zc] at hd;rw [zAb _ _ zc,zAb _ _ zc];exact h.d11' hd
 below:=h.below
 size:=h.size
theorem J1.s5 (h:J1 w0 B SL n r1 r2 g1 g2 s done vals w) (hi:done 5=false):J1 w0 B SL n r1 r2 w.heap.size g2 s (zBv done 5 true) (zBv vals 5 (slAt w.heap.size n)) (w.alloc (.cells (Array.replicate n (.int .i64 0)) 3)) where
 d0 hd:=by
  rw [zAb _ _ zc] at hd;rw [zAb _ _ zc];exact (h.alloc (.cells (Array.replicate n (.int .i64 0)) 3)).d0 hd
 d1 hd:=by
  rw [zAb _ _ zc] at hd;rw [zAb _ _ zc];exact (h.alloc (.cells (Array.replicate n (.int .i64 0)) 3)).d1 hd
 d2 hd:=by
  rw [zAb _ _ zc] at hd;rw [zAb _ _ zc];exact (h.alloc (.cells (Array.replicate n (.int .i64 0)) 3)).d2 hd
 d3 hd:=by
  rw [zAb _ _ zc] at hd;rw [zAb _ _ zc];exact (h.alloc (.cells (Array.replicate n (.int .i64 0)) 3)).d3 hd
 d4 hd:=by
  rw [zAb _ _ zc] at hd;rw [zAb _ _ zc];exact (h.alloc (.cells (Array.replicate n (.int .i64 0)) 3)).d4 hd
 d5 _:=⟨zAu _ _ _,bZ _ _,h.size⟩
 d6 hd:=by
  rw [zAb _ _ zc] at hd;rw [zAb _ _ zc];exact (h.alloc (.cells (Array.replicate n (.int .i64 0)) 3)).d6 hd
 d7 hd:=by
  rw [zAb _ _ zc] at hd;rw [zAb _ _ zc];exact (h.alloc (.cells (Array.replicate n (.int .i64 0)) 3)).d7 hd
 d8 hd:=by
  rw [zAb _ _ zc] at hd;rw [zAb _ _ zc];exact (h.alloc (.cells (Array.replicate n (.int .i64 0)) 3)).d8 hd
 d9 hd:=by
  rw [zAb _ _ zc] at hd;have:=(h.d9' hd).2.2.1;rw [hi] at this;cases this
 d10 hd:=by
  rw [zAb _ _ zc] at hd;rw [zAb _ _ zc];exact (h.alloc (.cells (Array.replicate n (.int .i64 0)) 3)).d10 hd
 d12 hd hd':=by
  rw [zAb _ _ zc] at hd hd';exact h.d12 hd hd'
 d9' hd:=by
  rw [zAb _ _ zc] at hd;have:=(h.d9' hd).2.2.1;rw [hi] at this;cases this
 d11 hd:=by
  rw [zAb _ _ zc] at hd;have:=(h.d9' (h.d11' hd).1).2.2.1;rw [hi] at this;cases this
 d11' hd:=by
  rw [zAb _ _ zc] at hd;rw [zAb _ _ zc,zAb _ _ zc];exact h.d11' hd
 below:=(h.alloc (.cells (Array.replicate n (.int .i64 0)) 3)).below
 size:=(h.alloc (.cells (Array.replicate n (.int .i64 0)) 3)).size
theorem J1.s6 (h:J1 w0 B SL n r1 r2 g1 g2 s done vals w):J1 w0 B SL n r1 r2 g1 g2 s (zBv done 6 true) (zBv vals 6 (SL)) w where
 d0 hd:=by
  rw [zAb _ _ zc] at hd;rw [zAb _ _ zc];exact h.d0 hd
 d1 hd:=by
  rw [zAb _ _ zc] at hd;rw [zAb _ _ zc];exact h.d1 hd
 d2 hd:=by
  rw [zAb _ _ zc] at hd;rw [zAb _ _ zc];exact h.d2 hd
 d3 hd:=by
  rw [zAb _ _ zc] at hd;rw [zAb _ _ zc];exact h.d3 hd
 d4 hd:=by
  rw [zAb _ _ zc] at hd;rw [zAb _ _ zc];exact h.d4 hd
 d5 hd:=by
  rw [zAb _ _ zc] at hd;rw [zAb _ _ zc];exact h.d5 hd
 d6 _:=zAu _ _ _
 d7 hd:=by
  rw [zAb _ _ zc] at hd;rw [zAb _ _ zc];exact h.d7 hd
 d8 hd:=by
  rw [zAb _ _ zc] at hd;rw [zAb _ _ zc];exact h.d8 hd
 d9 hd:=by
  rw [zAb _ _ zc] at hd;rw [zAb _ _ zc];exact h.d9 hd
 d10 hd:=by
  rw [zAb _ _ zc] at hd;rw [zAb _ _ zc];exact h.d10 hd
 d12 hd hd':=by
  rw [zAb _ _ zc] at hd hd';exact h.d12 hd hd'
 d9' hd:=by
  rw [zAb _ _ zc] at hd;rw [zAb _ _ zc,zAb _ _ zc,zAb _ _ zc,zAb _ _ zc];exact h.d9' hd
 d11 hd:=by
  rw [zAb _ _ zc] at hd;exact h.d11 hd
 d11' hd:=by
  rw [zAb _ _ zc] at hd;rw [zAb _ _ zc,zAb _ _ zc];exact h.d11' hd
 below:=h.below
 size:=h.size
theorem J1.s7 (h:J1 w0 B SL n r1 r2 g1 g2 s done vals w):J1 w0 B SL n r1 r2 g1 g2 s (zBv done 7 true) (zBv vals 7 (.int .i64 (n:Int))) w where
 d0 hd:=by
  rw [zAb _ _ zc] at hd;rw [zAb _ _ zc];exact h.d0 hd
 d1 hd:=by
  rw [zAb _ _ zc] at hd;rw [zAb _ _ zc];exact h.d1 hd
 d2 hd:=by
  rw [zAb _ _ zc] at hd;rw [zAb _ _ zc];exact h.d2 hd
 d3 hd:=by
  rw [zAb _ _ zc] at hd;rw [zAb _ _ zc];exact h.d3 hd
 d4 hd:=by
  rw [zAb _ _ zc] at hd;rw [zAb _ _ zc];exact h.d4 hd
 d5 hd:=by
  rw [zAb _ _ zc] at hd;rw [zAb _ _ zc];exact h.d5 hd
 d6 hd:=by
  rw [zAb _ _ zc] at hd;rw [zAb _ _ zc];exact h.d6 hd
 d7 _:=zAu _ _ _
 d8 hd:=by
  rw [zAb _ _ zc] at hd;rw [zAb _ _ zc];exact h.d8 hd
 d9 hd:=by
  rw [zAb _ _ zc] at hd;rw [zAb _ _ zc];exact h.d9 hd
 d10 hd:=by
  rw [zAb _ _ zc] at hd;rw [zAb _ _ zc];exact h.d10 hd
 d12 hd hd':=by
  rw [zAb _ _ zc] at hd hd';exact h.d12 hd hd'
 d9' hd:=by
  rw [zAb _ _ zc] at hd;rw [zAb _ _ zc,zAb _ _ zc,zAb _ _ zc,zAb _ _ zc];exact h.d9' hd
 d11 hd:=by
  rw [zAb _ _ zc] at hd;exact h.d11 hd
 d11' hd:=by
  rw [zAb _ _ zc] at hd;rw [zAb _ _ zc,zAb _ _ zc];exact h.d11' hd
 below:=h.below
 size:=h.size
theorem J1.s8 (h:J1 w0 B SL n r1 r2 g1 g2 s done vals w) (hi:done 8=false):J1 w0 B SL n r1 r2 g1 w.heap.size s (zBv done 8 true) (zBv vals 8 (slAt w.heap.size n)) (w.alloc (.cells (Array.replicate n zAk) 27)) where
 d0 hd:=by
  rw [zAb _ _ zc] at hd;rw [zAb _ _ zc];exact (h.alloc (.cells (Array.replicate n zAk) 27)).d0 hd
 d1 hd:=by
  rw [zAb _ _ zc] at hd;rw [zAb _ _ zc];exact (h.alloc (.cells (Array.replicate n zAk) 27)).d1 hd
 d2 hd:=by
  rw [zAb _ _ zc] at hd;rw [zAb _ _ zc];exact (h.alloc (.cells (Array.replicate n zAk) 27)).d2 hd
 d3 hd:=by
  rw [zAb _ _ zc] at hd;rw [zAb _ _ zc];exact (h.alloc (.cells (Array.replicate n zAk) 27)).d3 hd
 d4 hd:=by
  rw [zAb _ _ zc] at hd;rw [zAb _ _ zc];exact (h.alloc (.cells (Array.replicate n zAk) 27)).d4 hd
 d5 hd:=by
  rw [zAb _ _ zc] at hd;rw [zAb _ _ zc];exact (h.alloc (.cells (Array.replicate n zAk) 27)).d5 hd
 d6 hd:=by
  rw [zAb _ _ zc] at hd;rw [zAb _ _ zc];exact (h.alloc (.cells (Array.replicate n zAk) 27)).d6 hd
 d7 hd:=by
  rw [zAb _ _ zc] at hd;rw [zAb _ _ zc];exact (h.alloc (.cells (Array.replicate n zAk) 27)).d7 hd
 d8 _:=⟨zAu _ _ _,bZ _ _,h.size⟩
 d9 hd:=by
  rw [zAb _ _ zc] at hd;have:=(h.d9' hd).2.2.2;rw [hi] at this;cases this
 d10 hd:=by
  rw [zAb _ _ zc] at hd;rw [zAb _ _ zc];exact (h.alloc (.cells (Array.replicate n zAk) 27)).d10 hd
 d12 hd hd':=by
  rw [zAb _ _ zc] at hd hd';exact h.d12 hd hd'
 d9' hd:=by
  rw [zAb _ _ zc] at hd;have:=(h.d9' hd).2.2.2;rw [hi] at this;cases this
 d11 hd:=by
  rw [zAb _ _ zc] at hd;have:=(h.d9' (h.d11' hd).1).2.2.2;rw [hi] at this;cases this
 d11' hd:=by
  rw [zAb _ _ zc] at hd;rw [zAb _ _ zc,zAb _ _ zc];exact h.d11' hd
 below:=(h.alloc (.cells (Array.replicate n zAk) 27)).below
 size:=(h.alloc (.cells (Array.replicate n zAk) 27)).size
theorem J1.s9 (h:J1 w0 B SL n r1 r2 g1 g2 s done vals w) (h1:done 1=true) (h2:done 2=true) (h5:done 5=true) (h8:done 8=true):J1 w0 B SL n r1 r2 g1 g2 s (zBv done 9 true) (zBv vals 9 (.agg (boxOf SL zAk r1 r2 g1 g2 n))) w where
 d0 hd:=by
  rw [zAb _ _ zc] at hd;rw [zAb _ _ zc];exact h.d0 hd
 d1 hd:=by
  rw [zAb _ _ zc] at hd;rw [zAb _ _ zc];exact h.d1 hd
 d2 hd:=by
  rw [zAb _ _ zc] at hd;rw [zAb _ _ zc];exact h.d2 hd
 d3 hd:=by
  rw [zAb _ _ zc] at hd;rw [zAb _ _ zc];exact h.d3 hd
 d4 hd:=by
  rw [zAb _ _ zc] at hd;rw [zAb _ _ zc];exact h.d4 hd
 d5 hd:=by
  rw [zAb _ _ zc] at hd;rw [zAb _ _ zc];exact h.d5 hd
 d6 hd:=by
  rw [zAb _ _ zc] at hd;rw [zAb _ _ zc];exact h.d6 hd
 d7 hd:=by
  rw [zAb _ _ zc] at hd;rw [zAb _ _ zc];exact h.d7 hd
 d8 hd:=by
  rw [zAb _ _ zc] at hd;rw [zAb _ _ zc];exact h.d8 hd
 d9 _:=zAu _ _ _
 d10 hd:=by
  rw [zAb _ _ zc] at hd;rw [zAb _ _ zc];exact h.d10 hd
 d12 hd hd':=by
  rw [zAb _ _ zc] at hd hd';exact h.d12 hd hd'
 d9' _:=by
  rw [zAb _ _ zc,zAb _ _ zc,zAb _ _ zc,zAb _ _ zc];exact ⟨h1,h2,h5,h8⟩
 d11 hd:=by
  rw [zAb _ _ zc] at hd;exact h.d11 hd
 d11' hd:=by
  rw [zAb _ _ zc] at hd;rw [zAb _ _ (show (10:Nat)≠9 by decide)]
  exact ⟨zAu _ _ _,(h.d11' hd).2⟩
 below:=h.below
 size:=h.size
theorem J1.s10 (h:J1 w0 B SL n r1 r2 g1 g2 s done vals w) (hi:done 10=false) (cs:Array Value) (hcs:cs.size=6):J1 w0 B SL n r1 r2 g1 g2 w.heap.size (zBv done 10 true) (zBv vals 10 (.pointer (some ⟨w.heap.size,0,none⟩))) (w.alloc (.cells cs 108)) where
 d0 hd:=by
  rw [zAb _ _ zc] at hd;rw [zAb _ _ zc];exact (h.alloc (.cells cs 108)).d0 hd
 d1 hd:=by
  rw [zAb _ _ zc] at hd;rw [zAb _ _ zc];exact (h.alloc (.cells cs 108)).d1 hd
 d2 hd:=by
  rw [zAb _ _ zc] at hd;rw [zAb _ _ zc];exact (h.alloc (.cells cs 108)).d2 hd
 d3 hd:=by
  rw [zAb _ _ zc] at hd;rw [zAb _ _ zc];exact (h.alloc (.cells cs 108)).d3 hd
 d4 hd:=by
  rw [zAb _ _ zc] at hd;rw [zAb _ _ zc];exact (h.alloc (.cells cs 108)).d4 hd
 d5 hd:=by
  rw [zAb _ _ zc] at hd;rw [zAb _ _ zc];exact (h.alloc (.cells cs 108)).d5 hd
 d6 hd:=by
  rw [zAb _ _ zc] at hd;rw [zAb _ _ zc];exact (h.alloc (.cells cs 108)).d6 hd
 d7 hd:=by
  rw [zAb _ _ zc] at hd;rw [zAb _ _ zc];exact (h.alloc (.cells cs 108)).d7 hd
 d8 hd:=by
  rw [zAb _ _ zc] at hd;rw [zAb _ _ zc];exact (h.alloc (.cells cs 108)).d8 hd
 d9 hd:=by
  rw [zAb _ _ zc] at hd;rw [zAb _ _ zc];exact (h.alloc (.cells cs 108)).d9 hd
 d10 _:=⟨zAu _ _ _,⟨cs,hcs,bZ _ _⟩,h.size⟩
 d12 hd hd':=by
  rw [zAb _ _ zc] at hd hd';exact h.d12 hd hd'
 d9' hd:=by
  rw [zAb _ _ zc] at hd;rw [zAb _ _ zc,zAb _ _ zc,zAb _ _ zc,zAb _ _ zc];exact h.d9' hd
 d11 hd:=by
  rw [zAb _ _ zc] at hd;have:=(h.d11' hd).2;rw [hi] at this;cases this
 d11' hd:=by
  rw [zAb _ _ zc] at hd;rw [zAb _ _ (show (9:Nat)≠10 by decide)]
  exact ⟨(h.d11' hd).1,zAu _ _ _⟩
 below:=(h.alloc (.cells cs 108)).below
 size:=(h.alloc (.cells cs 108)).size
end
theorem boxOf_size (SL lv:Value) (r1 r2 g1 g2 n:Nat):(boxOf SL lv r1 r2 g1 g2 n).size=6:=rfl
theorem run_store6 {w:World} {s:Nat} {cs:Array Value} (hcs:cs.size=6) (hs:w.heap[s]?=some (.cells cs 108 (0,0))) (new:Array Value) (hn:new.size=6) (h1:∀ v∈new.toList,v.oneCell'=true) :
  (Instr.storeAt 108 (.pointer (some ⟨s,0,none⟩)) (.agg new)).run Tryz.prog w = .ok () (w.setRow s new):=by
 have hst:=run_storeCells_at Tryz.prog s 0 108 new.toList 0 cs w hs (by simp [hn,hcs]) h1
 have e:(cs.toList.take (0+0)++new.toList++cs.toList.drop (0+0+new.toList.length)).toArray=new:=by
  have:cs.toList.drop (0+0+new.toList.length)=[]:=aB (by simp [hn,hcs])
  rw [this];simp
 rw [e] at hst;have hsz:(sizeOf 108).run Tryz.prog w = .ok 6 w:=zb;simp [Instr.storeAt,Instr.sureAddr,storeVar,hsz,Value.cells,hn,hst]
theorem J1.s11 {w0 w:World} {B n r1 r2 g1 g2 s:Nat} {SL:Value} {done:Nat→Bool} {vals:Nat→Value} (h:J1 w0 B SL n r1 r2 g1 g2 s done vals w) (h9:done 9=true) (h10:done 10=true) (v:Value) :
  J1 w0 B SL n r1 r2 g1 g2 s (zBv done 11 true) (zBv vals 11 v) (w.setRow s (boxOf SL zAk r1 r2 g1 g2 n)):=by
 obtain ⟨hv,⟨cs,hcs,hs⟩,hB⟩:=h.d10 h10;have hne:∀ {k:Nat},k≠s→(w.setRow s (boxOf SL zAk r1 r2 g1 g2 n)).heap[k]?=w.heap[k]?:=fun hk=>setRow_other w s _ _ hk
 have hmap:∀ {r:Nat} {f:BA→Option Value},zAq Value.string w r f→r≠s:=fun hm e=>by
  obtain ⟨es,clk,L,hr,_⟩:=hm;rw [e,hs] at hr;cases hr
 have hcell:∀ {g:Nat} {c:Array Value} {t:TypeId},t≠108→w.heap[g]?=some (.cells c t (0,0))→g≠s:=fun ht hg e=>by
  rw [e,hs] at hg
  injection hg with hg
  injection hg with _ hg
  exact ht hg.symm
 exact {
  d0:=fun hd=>by rw [zAb _ _ zc] at hd ⊢;exact h.d0 hd
  d1:=fun hd=>by
   rw [zAb _ _ zc] at hd ⊢;obtain ⟨h1,h2,h3⟩:=h.d1 hd;exact ⟨h1,h2.keep (hne (hmap h2)),h3⟩
  d2:=fun hd=>by
   rw [zAb _ _ zc] at hd ⊢;obtain ⟨h1,h2,h3⟩:=h.d2 hd;exact ⟨h1,h2.keep (hne (hmap h2)),h3⟩
  d12:=fun hd hd'=>by rw [zAb _ _ zc] at hd hd';exact h.d12 hd hd'
  d3:=fun hd=>by rw [zAb _ _ zc] at hd ⊢;exact h.d3 hd
  d4:=fun hd=>by rw [zAb _ _ zc] at hd ⊢;exact h.d4 hd
  d5:=fun hd=>by
   rw [zAb _ _ zc] at hd ⊢;obtain ⟨h1,h2,h3⟩:=h.d5 hd;exact ⟨h1,(hne (hcell zc h2)).trans h2,h3⟩
  d6:=fun hd=>by rw [zAb _ _ zc] at hd ⊢;exact h.d6 hd
  d7:=fun hd=>by rw [zAb _ _ zc] at hd ⊢;exact h.d7 hd
  d8:=fun hd=>by
   rw [zAb _ _ zc] at hd ⊢;obtain ⟨h1,h2,h3⟩:=h.d8 hd;exact ⟨h1,(hne (hcell zc h2)).trans h2,h3⟩
  d9:=fun hd=>by rw [zAb _ _ zc] at hd ⊢;exact h.d9 hd
  d9':=fun hd=>by
   rw [zAb _ _ zc] at hd;rw [zAb _ _ zc,zAb _ _ zc,zAb _ _ zc,zAb _ _ zc];exact h.d9' hd
  d10:=fun hd=>by
   rw [zAb _ _ zc] at hd ⊢;exact ⟨(h.d10 hd).1,⟨_,boxOf_size _ _ _ _ _ _ _,setRow_heap w s cs _ _ _ hs⟩,hB⟩
  d11:=fun _=>setRow_heap w s cs _ _ _ hs
  d11':=fun _=>by
   rw [zAb _ _ zc,zAb _ _ zc];exact ⟨h9,h10⟩
  below:=⟨h.below.os,h.below.tape,h.below.output,by simpa using h.below.size,fun k hk=>(hne za).trans (h.below.block k hk)⟩
  size:=by simpa using h.size }
theorem region1 {ops:Array Oper} {Q:Exit→Act→World→Prop} {a0:Act} {w:World} {id:Nat} {A:Option Addr} {n c:Nat} (hn:n≤200) (hsz:ops.size=12) (hap:apartB ops=true) (hb:backB ops=true) (hk0:notDst ops 0=true)
  (ha0:a0.eval (.tmp 0) = .slice A n c) (has:22<a0.tmps.size)
  (o0:∃ ty ps af,ops[0]?=some ⟨some 13,.move (.tmp 0),ty,ps,af,none⟩)
  (o1:∃ ty ps af,ops[1]?=some ⟨some 14,.makeMap 106 none,ty,ps,af,none⟩)
  (o2:∃ ty ps af,ops[2]?=some ⟨some 15,.makeMap 106 none,ty,ps,af,none⟩)
  (o3:∃ ty ps af,ops[3]?=some ⟨some 16,.move (.tmp 0),ty,ps,af,none⟩)
  (o4:∃ ty ps af,ops[4]?=some ⟨some 17,.call { callee:=.builtin .len,args:=#[.tmp 16],argTypes:=#[22] },ty,ps,af,none⟩)
  (o5:∃ ty ps af,ops[5]?=some ⟨some 18,.makeSlice 27 (.tmp 17) (.tmp 17),ty,ps,af,none⟩)
  (o6:∃ ty ps af,ops[6]?=some ⟨some 19,.move (.tmp 0),ty,ps,af,none⟩)
  (o7:∃ ty ps af,ops[7]?=some ⟨some 20,.call { callee:=.builtin .len,args:=#[.tmp 19],argTypes:=#[22] },ty,ps,af,none⟩)
  (o8:∃ ty ps af,ops[8]?=some ⟨some 21,.makeSlice 66 (.tmp 20) (.tmp 20),ty,ps,af,none⟩)
  (o9:∃ ty ps af,ops[9]?=some ⟨some 22,.build 108 #[(0,.tmp 13),(1,.tmp 14),(3,.tmp 15),(4,.tmp 18),(5,.tmp 21)],ty,ps,af,none⟩)
  (o10:∃ ty ps af,ops[10]?=some ⟨some 3,.alloc 108,ty,ps,af,none⟩)
  (o11:∃ ty ps af,ops[11]?=some ⟨none,.store 108 (.tmp 3) (.tmp 22),ty,ps,af,none⟩)
  (e43:depB ops 4 3=true) (e54:depB ops 5 4=true) (e76:depB ops 7 6=true) (e87:depB ops 8 7=true)
  (e90:depB ops 9 0=true) (e91:depB ops 9 1=true) (e92:depB ops 9 2=true) (e95:depB ops 9 5=true) (e98:depB ops 9 8=true) (e119:depB ops 11 9=true) (e1110:depB ops 11 10=true)
  (hK:∀ (r1 r2 g1 g2 s:Nat) (vals:Nat→Value) (w':World),NW w w' w.heap.size (.slice A n c) zAk r1 r2 g1 g2 s n (fun _=>none) (fun _=>none) (Array.replicate n (.int .i64 0)) (Array.replicate n zAk) →
   vals 0 = .slice A n c→vals 1 = .map (some r1)→vals 2 = .map (some r2)→vals 3 = .slice A n c→vals 4 = .int .i64 (n:Int)→vals 5=slAt g1 n→vals 6 = .slice A n c→vals 7 = .int .i64 (n:Int)→vals 8=slAt g2 n →
   vals 9 = .agg (boxOf (.slice A n c) zAk r1 r2 g1 g2 n)→vals 10 = .pointer (some ⟨s,0,none⟩)→Q .normal (zAi ops vals (List.range 12) a0) w') :
  (Code.region id ops true).wp Tryz.prog Q a0 w:=by
 have hAp:=apart_of hap;refine zDu zb hAp hb (fun _=>undef) (fun done vals w'=>∃ r1 r2 g1 g2 s,J1 w w.heap.size (.slice A n c) n r1 r2 g1 g2 s done vals w') ?_ ?_ ?_
 ·exact ⟨0,0,0,0,0,zd,zd,zd,zd,zd,zd,zd,zd,zd,zd,zd,zd,zd,zd,zd,(aN _ _).drew,aC _⟩
 ·intro i done vals w1 hi ⟨r1,r2,g1,g2,s,hJ⟩ hd hdep
  rw [hsz] at hi;have hlen:∀ ty:TypeId,(Builtin.len_ #[22] ty #[.slice A n c]).run Tryz.prog w1 = .ok (.int .i64 (n:Int)) w1:=fun _=>zb
  have hev0:(zAi ops vals (zAD ops.size done) a0).eval (.tmp 0) = .slice A n c:=(eval_kept hk0).trans ha0
  match i,hi with
  | 0,_ =>
   obtain ⟨ty,ps,af,ho⟩:=o0;refine zAl ho rfl (v:=.slice A n c) (w':=w1) (by simp [execOp,hev0]) ⟨_,zn,_,_,_,_,_,hJ.s0⟩
  | 1,_ =>
   obtain ⟨ty,ps,af,ho⟩:=o1;refine zAl ho rfl (v:=.map (some w1.heap.size)) (w':=w1.alloc (.map #[] 0)) qf ⟨_,zn,_,_,_,_,_,hJ.s1 hd⟩
  | 2,_ =>
   obtain ⟨ty,ps,af,ho⟩:=o2;refine zAl ho rfl (v:=.map (some w1.heap.size)) (w':=w1.alloc (.map #[] 0)) qf ⟨_,zn,_,_,_,_,_,hJ.s2 hd⟩
  | 3,_ =>
   obtain ⟨ty,ps,af,ho⟩:=o3;refine zAl ho rfl (v:=.slice A n c) (w':=w1) (by simp [execOp,hev0]) ⟨_,zn,_,_,_,_,_,hJ.s3⟩
  | 4,_ =>
   obtain ⟨ty,ps,af,ho⟩:=o4;have h3:=zAV e43 hdep
   have hev:(zAi ops vals (zAD ops.size done) a0).eval (.tmp 16) = .slice A n c:=by
    obtain ⟨ty',ps',af',ho'⟩:=o3;rw [zAr hAp (a:=a0) (j:=3) (d:=16) za zo h3 (aY (m:=22) zc has),hJ.d3 h3]
   refine zAl ho rfl (v:=.int .i64 (n:Int)) (w':=w1) (by simp [execOp,resolve,invoke,builtin,hev,hlen]) ⟨_,zn,_,_,_,_,_,hJ.s4⟩
  | 5,_ =>
   obtain ⟨ty,ps,af,ho⟩:=o5;have h4:=zAV e54 hdep
   have hev:(zAi ops vals (zAD ops.size done) a0).eval (.tmp 17) = .int .i64 (n:Int):=by
    obtain ⟨ty',ps',af',ho'⟩:=o4;rw [zAr hAp (a:=a0) (j:=4) (d:=17) za zo h4 (aY (m:=22) zc has),hJ.d4 h4]
   refine zAl ho rfl (v:=slAt w1.heap.size n) (w':=w1.alloc (.cells (Array.replicate n (.int .i64 0)) 3)) (by simp [execOp,hev,run_make_n _ _ elInt n za za rfl]) ⟨_,zn,_,_,_,_,_,hJ.s5 hd⟩
  | 6,_ =>
   obtain ⟨ty,ps,af,ho⟩:=o6;refine zAl ho rfl (v:=.slice A n c) (w':=w1) (by simp [execOp,hev0]) ⟨_,zn,_,_,_,_,_,hJ.s6⟩
  | 7,_ =>
   obtain ⟨ty,ps,af,ho⟩:=o7;have h3:=zAV e76 hdep
   have hev:(zAi ops vals (zAD ops.size done) a0).eval (.tmp 19) = .slice A n c:=by
    obtain ⟨ty',ps',af',ho'⟩:=o6;rw [zAr hAp (a:=a0) (j:=6) (d:=19) za zo h3 (aY (m:=22) zc has),hJ.d6 h3]
   refine zAl ho rfl (v:=.int .i64 (n:Int)) (w':=w1) (by simp [execOp,resolve,invoke,builtin,hev,hlen]) ⟨_,zn,_,_,_,_,_,hJ.s7⟩
  | 8,_ =>
   obtain ⟨ty,ps,af,ho⟩:=o8;have h4:=zAV e87 hdep
   have hev:(zAi ops vals (zAD ops.size done) a0).eval (.tmp 20) = .int .i64 (n:Int):=by
    obtain ⟨ty',ps',af',ho'⟩:=o7;rw [zAr hAp (a:=a0) (j:=7) (d:=20) za zo h4 (aY (m:=22) zc has),hJ.d7 h4]
   refine zAl ho rfl (v:=slAt w1.heap.size n) (w':=w1.alloc (.cells (Array.replicate n zAk) 27)) (by simp [execOp,hev,run_make_n _ _ elInts n za za rfl]) ⟨_,zn,_,_,_,_,_,hJ.s8 hd⟩
  | 9,_ =>
   obtain ⟨ty,ps,af,ho⟩:=o9;have q0:=zAV e90 hdep;have q1:=zAV e91 hdep;have q2:=zAV e92 hdep;have q5:=zAV e95 hdep;have q8:=zAV e98 hdep
   have ev0:(zAi ops vals (zAD ops.size done) a0).eval (.tmp 13) = .slice A n c:=by
    obtain ⟨ty',ps',af',ho'⟩:=o0;rw [zAr hAp (a:=a0) (j:=0) (d:=13) za zo q0 (aY (m:=22) zc has),hJ.d0 q0]
   have ev1:(zAi ops vals (zAD ops.size done) a0).eval (.tmp 14) = .map (some r1):=by
    obtain ⟨ty',ps',af',ho'⟩:=o1;rw [zAr hAp (a:=a0) (j:=1) (d:=14) za zo q1 (aY (m:=22) zc has),(hJ.d1 q1).1]
   have ev2:(zAi ops vals (zAD ops.size done) a0).eval (.tmp 15) = .map (some r2):=by
    obtain ⟨ty',ps',af',ho'⟩:=o2;rw [zAr hAp (a:=a0) (j:=2) (d:=15) za zo q2 (aY (m:=22) zc has),(hJ.d2 q2).1]
   have ev5:(zAi ops vals (zAD ops.size done) a0).eval (.tmp 18)=slAt g1 n:=by
    obtain ⟨ty',ps',af',ho'⟩:=o5;rw [zAr hAp (a:=a0) (j:=5) (d:=18) za zo q5 (aY (m:=22) zc has),(hJ.d5 q5).1]
   have ev8:(zAi ops vals (zAD ops.size done) a0).eval (.tmp 21)=slAt g2 n:=by
    obtain ⟨ty',ps',af',ho'⟩:=o8;rw [zAr hAp (a:=a0) (j:=8) (d:=21) za zo q8 (aY (m:=22) zc has),(hJ.d8 q8).1]
   have hbuild:(Instr.build 108 #[(0,.slice A n c),(1,.map (some r1)),(3,.map (some r2)),(4,slAt g1 n),(5,slAt g2 n)]).run Tryz.prog w1 = .ok (.agg (boxOf (.slice A n c) zAk r1 r2 g1 g2 n)) w1:=zb;refine zAl ho rfl (v:=.agg (boxOf (.slice A n c) zAk r1 r2 g1 g2 n)) (w':=w1) (by simp [execOp,ev0,ev1,ev2,ev5,ev8,hbuild]) ⟨_,zn,_,_,_,_,_,hJ.s9 q1 q2 q5 q8⟩
  | 10,_ =>
   obtain ⟨ty,ps,af,ho⟩:=o10;have halloc:(Instr.alloc 108 true (.tuple #[])).run Tryz.prog w1 = .ok (.pointer (some ⟨w1.heap.size,0,none⟩)) (w1.alloc (.cells #[zAk,.map none,zAk,.map none,zAk,zAk] 108)):=zb;refine zAl ho rfl (v:=.pointer (some ⟨w1.heap.size,0,none⟩)) (w':=w1.alloc (.cells #[zAk,.map none,zAk,.map none,zAk,zAk] 108)) (by simp [execOp,halloc]) ⟨_,zn,_,_,_,_,_,hJ.s10 hd _ rfl⟩
  | 11,_ =>
   obtain ⟨ty,ps,af,ho⟩:=o11;have q9:=zAV e119 hdep;have q10:=zAV e1110 hdep
   have ev9:(zAi ops vals (zAD ops.size done) a0).eval (.tmp 22) = .agg (boxOf (.slice A n c) zAk r1 r2 g1 g2 n):=by
    obtain ⟨ty',ps',af',ho'⟩:=o9;rw [zAr hAp (a:=a0) (j:=9) (d:=22) za zo q9 (aY (m:=22) zc has),hJ.d9 q9]
   have ev10:(zAi ops vals (zAD ops.size done) a0).eval (.tmp 3) = .pointer (some ⟨s,0,none⟩):=by
    obtain ⟨ty',ps',af',ho'⟩:=o10;rw [zAr hAp (a:=a0) (j:=10) (d:=3) za zo q10 (aY (m:=22) zc has),(hJ.d10 q10).1]
   obtain ⟨_,⟨cs,hcs,hs⟩,_⟩:=hJ.d10 q10;have hst:=run_store6 hcs hs (boxOf (.slice A n c) zAk r1 r2 g1 g2 n) rfl (by simp [boxOf,Value.oneCell'])
   refine wpOp_skip ho rfl (w':=w1.setRow s (boxOf (.slice A n c) zAk r1 r2 g1 g2 n)) (by simp [execOp,ev9,ev10,hst]) ⟨undef,zn,_,_,_,_,_,hJ.s11 q9 q10 undef⟩
 ·intro done vals w' hall ⟨r1,r2,g1,g2,s,hJ⟩
  rw [hsz] at hall ⊢;have d1:=hJ.d1 (hall 1 za);have d2:=hJ.d2 (hall 2 za);have d5:=hJ.d5 (hall 5 za);have d8:=hJ.d8 (hall 8 za);have d10:=hJ.d10 (hall 10 za)
  exact hK r1 r2 g1 g2 s vals w' ⟨hJ.d11 (hall 11 za),d1.2.1,d2.2.1,d5.2.1,d8.2.1,hJ.d12 (hall 1 za) (hall 2 za),d1.2.2,d2.2.2,d5.2.2,d8.2.2,d10.2.2,hJ.below⟩
   (hJ.d0 (hall 0 za)) d1.1 d2.1 (hJ.d3 (hall 3 za)) (hJ.d4 (hall 4 za)) d5.1 (hJ.d6 (hall 6 za)) (hJ.d7 (hall 7 za)) d8.1 (hJ.d9 (hall 9 za)) d10.1
end Go.Proofs.YtieoifkdobcpiaaGreatDoor
