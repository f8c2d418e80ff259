/- Parts of the proof, joined: Package right: equal says whether two deeds are equal (printed by gen_. -/
import Derived.Test.YtieoifkdobcpiaaGreatDoorSg06
import Derived.Shelf.GgSortFunc.Compose
set_option maxRecDepth 100000
set_option maxHeartbeats 8000000
namespace Go.Proofs.YtieoifkdobcpiaaGreatDoor
open Go.RowKit Dw
end Go.Proofs.YtieoifkdobcpiaaGreatDoor
namespace Dw
theorem slt_list (a b:BA):slt a b=decide (a.toList<b.toList):=by unfold slt;rw [zCo]
end Dw
namespace Go.Proofs.YtieoifkdobcpiaaGreatDoor
open Go.Shelf Go.RowKit Go.Lib Go.Sort Dw
end Go.Proofs.YtieoifkdobcpiaaGreatDoor
namespace Go.Proofs.YtieoifkdobcpiaaGreatDoor
open Go.RowKit Dw
def GivesPos (M:List Bool) (w:World) (e:Ending) (w':World):Prop:=∃ z:Int,e = .returned (.int .i64 z)∧decide ((0:Int)≤z)=M.any id∧w=w'
def IdxRelB (w:World) (M:List Bool) (m:Nat) (i:Value) (wr:World):Prop :=
 wr=w∧∃ k:Nat,k+m=M.length∧i = .int .i64 k∧(M.take k).any id=false
theorem indexB_c (A:Option Addr) (c:Nat) (M:List Bool) (w:World) (hn:M.length≤1000000) (h:Rd1 Value.bool w A M) :
  Calls Tryz.prog 278 #[.slice A M.length c,.bool true] w (GivesPos M w):=by
 go_enter Tryz.func278,Tryz.ntmps278
 go_wp2
 go_loopg [8] M.length (IdxRelB w M)
 case atStart=>exact ⟨rfl,0,za,rfl,rfl⟩
 case round =>
  obtain ⟨hw,k,hk,rfl,hpre⟩:=hrel;subst hw;have HK:=zq hk;have HP:=zq hpre;have hk1:k≤M.length:=za;clear hk hpre
  by_cases hlt:k<M.length
  ·obtain ⟨b,o,rfl,hb,hc⟩:=h.at_ za
   have hc0:=hc k hlt;clear hc;have HE:Hid (M.take (k+1)=M.take k++[M[k]]):=bF hlt;have HM:Hid (M[k]=true→M.any id=true):=fun e=>List.any_eq_true.2 ⟨M[k],aJ hlt,e⟩
   obtain ⟨x,hx⟩:∃ x,M[k]=x:=⟨_,rfl⟩;rw [hx] at hc0 HE HM;clear hx
   cases x with
   | true =>
    go_wp2;go_ret
    exact ⟨(k:Int),rfl,by rw [HM.o trivial];exact cM za,rfl⟩
   | false =>
    go_wp2
    go_roundg (gk - 1)
    case measure=>have:=HK.o;omega
    case rel=>exact ⟨rfl,k+1,zh,zi,by rw [HE.o,dQ,HP.o];rfl⟩
  ·have HA:Hid (M.any id=false):=by
    show _=_
    have:=HP.o
    rwa [cP za] at this
   go_wp2;go_ret
   exact ⟨-1,rfl,by rw [HA.o];rfl,rfl⟩
theorem some_c (A:Option Addr) (c:Nat) (M:List Bool) (w:World) (hn:M.length≤1000000) (h:Rd1 Value.bool w A M) :
  Calls Tryz.prog 254 #[.slice A M.length c] w (zAZ (.bool (M.any id)) w):=by
 have hC:∀ W,Rd1 Value.bool W A M→Calls Tryz.prog 272 #[.slice A M.length c,.bool true] W (zAZ (.bool (M.any id)) W):=fun W hW=>by
  go_enter Tryz.func272,Tryz.ntmps272
  go_wp2_with fail
  with_reducible refine (indexB_c A c M W hn hW).mono ?_
  rintro e w' ⟨z,rfl,hz,rfl⟩;have HZ:=zq hz;clear hz;go_wp2;go_ret
  exact zAZ.mk (zAQ HZ.o) rfl
 have HC:=zq (hC w h);clear hC
 go_enter Tryz.func254,Tryz.ntmps254
 go_wp2_with fail
 with_reducible refine HC.o.mono ?_
 rintro e w' ⟨rfl,rfl⟩;go_wp2;go_ret
 exact zAZ.mk rfl rfl
def UsesRel (w:World) (us l:List BA) (m:Nat) (i:Value) (wr:World):Prop :=
 (∃ n,wr=w.drewN n)∧∃ k:Nat,k+m=l.length∧i = .int .i64 k∧∀ j,j<k→zBK us l j=none
theorem useF_hit {us l:List BA} {k:Nat} {f:Int} (hk:k<l.length) (hp:∀ j,j<k→zBK us l j=none) (h:zBK us l k=some f):useF us l=f:=by
 unfold useF;rw [zBk hk hp h]
theorem useF_none {us l:List BA} (hp:∀ j,j<l.length→zBK us l j=none):useF us l=0:=by
 unfold useF;rw [zBq hp]
theorem usAt_of {l:List BA} {i:Nat} (h:i<l.length):usAt l i=l[i]:=by simp [usAt,List.getD,h]
theorem checkUses_c (A A2:Option Addr) (c c2:Nat) (us l:List BA) (w:World) (hu:us.length≤1000000) (hn:l.length≤140737488355328) (h:Strs w A us) (h2:Strs w A2 l) :
  Calls Tryz.prog 255 #[.slice A us.length c,.slice A2 l.length c2] w (zBA (.int .i64 (useF us l)) w):=by
 have HC:=zq (fun W s (x:Strs W A us)=>containsS_c A c us s W hu x)
 go_enter Tryz.func255,Tryz.ntmps255
 go_wp2
 go_loopg [9] l.length (UsesRel w us l)
 case atStart=>exact ⟨⟨0,rfl⟩,0,za,rfl,fun j hj=>absurd hj za⟩
 case round =>
  obtain ⟨⟨nd,hw⟩,k,hkm,rfl,hpre⟩:=hrel;subst hw;have HM:=zq hkm;have HP:=zq hpre;clear hkm hpre
  by_cases hlt:k<l.length
  ·obtain ⟨b,o,hA,hb,hc⟩:=h2.at_ za
   subst hA;have hc0:=hc k hlt;have HCL:=zq hc;clear hc;have e0:usAt l k=l[k]:=usAt_of hlt
   go_wp2_with fail
   with_reducible refine (HC.o _ _ (h.drewN nd)).mono ?_
   rintro e w' ⟨rfl,rfl⟩
   cases hm:memS us l[k] with
   | false =>
    have HF:Hid (useF us l=5):=useF_hit hlt HP.o (by unfold zBK;rw [e0,aF hm])
    clear hm e0;go_wp2;go_ret
    exact zBA.mk (zAX HF.o.symm) ⟨nd,rfl⟩
   | true =>
    rcases bI k with h0 | h0
    ·subst h0
     have HF:Hid (zBK us l 0=none):=by
      show _=_
      unfold zBK;rw [e0,aD (by rw [hm];simp),aD za]
     clear hm e0;go_wp2
     go_roundg (gk - 1)
     case measure=>have:=HM.o;omega
     case rel=>exact ⟨⟨nd,rfl⟩,1,by have:=HM.o;omega,zi,fun j hj=>by
      have e:j=0:=za;subst e;exact HF.o⟩
    ·have hcp:=HCL.o (k - 1) za
     have hd:decide ((0:Int)<(k:Int))=true:=ze;have e1:usAt l (k - 1)=l[k - 1]'(by omega):=usAt_of za
     cases hle:sle l[k] (l[k - 1]'(by omega)) with
     | true =>
      have HF:Hid (useF us l=8):=useF_hit hlt HP.o (by unfold zBK;rw [e0,e1,aD (by rw [hm];simp),aF ⟨h0,hle⟩])
      have hleb:=hle;unfold sle at hleb;clear hm e0 e1 hle;go_wp2;go_ret
      exact zBA.mk (zAX HF.o.symm) ⟨nd,rfl⟩
     | false =>
      have HF:Hid (zBK us l k=none):=by
       show _=_
       unfold zBK;rw [e0,e1,aD (by rw [hm];simp),aD (by rintro ⟨_,h9⟩;rw [hle] at h9;cases h9)]
      have hleb:=hle;unfold sle at hleb;clear hm e0 e1 hle;go_wp2
      go_roundg (gk - 1)
      case measure=>have:=HM.o;omega
      case rel =>
       refine ⟨⟨nd,rfl⟩,k+1,by have:=HM.o;omega,zi,fun j hj=>?_⟩
       rcases bQ j k with h1 | h1
       ·exact HP.o j h1
       ·have e:j=k:=by omega
        subst e;exact HF.o
  ·have HF:Hid (useF us l=0):=useF_none fun j hj=>HP.o j za
   go_wp2;go_ret
   exact zBA.mk (zAX HF.o.symm) ⟨nd,rfl⟩
def ptIs (fr:BA) (s:Sh):Bool:=decide (s.pt=fr)
def ShIx (w:World) (l:List Sh) (fr:BA) (m:Nat) (i:Value) (wr:World):Prop :=
 Below w.heap.size w wr∧∃ k:Nat,k+m=l.length∧i = .int .i64 k∧(l.take k).any (ptIs fr)=false
def GivesPosB (t:Bool) (w:World) (e:Ending) (w':World):Prop:=∃ z:Int,e = .returned (.int .i64 z)∧decide ((0:Int)≤z)=t∧Below w.heap.size w w'
theorem ptIs_c (s:Sh) (p:Nat) (fr:BA) (w:World) (hp:w.cell? ⟨p,4,none⟩=some (.string fr)) :
  Calls Tryz.prog 257 #[.agg #[.string s.pt,.string s.nu,.string s.de],.pointer (some ⟨p,0,none⟩)] w (zAe (.bool (ptIs fr s)) w):=by
 have hpl:p<w.heap.size:=World.block_lt_of_cell? w _ hp
 by_cases h:s.pt=fr
 ·have hb:=zBb h
  have hv:ptIs fr s=true:=by unfold ptIs;exact cM h
  rw [hv];have HV:=zq hv;clear hv h
  go_enter Tryz.func257,Tryz.ntmps257
  go_wp2;go_ret
  exact zAe.mk rfl ((aN w.heap.size w).alloc (aC _) _)
 ·have hb:=zAM h
  have hv:ptIs fr s=false:=by unfold ptIs;exact cN h
  rw [hv];have HV:=zq hv;clear hv h
  go_enter Tryz.func257,Tryz.ntmps257
  go_wp2;go_ret
  exact zAe.mk rfl ((aN w.heap.size w).alloc (aC _) _)
theorem indexSh_c (A:Option Addr) (c p:Nat) (l:List Sh) (fr:BA) (w:World) (hn:l.length≤1000000) (h:Shs w A l) (hp:w.cell? ⟨p,4,none⟩=some (.string fr)) :
  Calls Tryz.prog 273 #[.slice A l.length c,.func (.func 257) #[] #[.pointer (some ⟨p,0,none⟩)]] w (GivesPosB (l.any (ptIs fr)) w):=by
 have hpl:p<w.heap.size:=World.block_lt_of_cell? w _ hp
 go_enter Tryz.func273,Tryz.ntmps273
 go_wp2
 go_loopg [8] l.length (ShIx w l fr)
 case atStart=>exact ⟨aN _ _,0,za,rfl,rfl⟩
 case round =>
  obtain ⟨hbw,k,hk,rfl,hpre⟩:=hrel;have HK:=zq hk;have HP:=zq hpre;have HBW:=zq hbw;clear hk hpre hbw
  by_cases hlt:k<l.length
  ·obtain ⟨b,o,hA,hb,hc⟩:=(h.below HBW.o).at_ za
   subst hA;obtain ⟨c0,c1,c2⟩:=hc k hlt;clear hc;have HE:Hid (l.take (k+1)=l.take k++[l[k]]):=bF hlt;have HM:Hid (ptIs fr l[k]=true→l.any (ptIs fr)=true):=fun e=>List.any_eq_true.2 ⟨l[k],aJ hlt,e⟩
   have hcall:=ptIs_c l[k] p fr wr ((HBW.o.cell (p:=⟨p,4,none⟩) hpl).trans hp);have HCALL:=zq hcall;clear hcall
   go_wp2_with fail
   with_reducible refine HCALL.o.mono ?_
   rintro e w2 ⟨rfl,hb2⟩;have HB2:=zq (zAa HBW.o hb2);clear hb2 HCALL c0 c1 c2
   cases hx:ptIs fr l[k] with
   | true =>
    have HM2:=zq (HM.o hx);clear hx;go_wp2;go_ret
    exact ⟨(k:Int),rfl,by rw [HM2.o];exact cM za,HB2.o⟩
   | false =>
    have HX:=zq hx;clear hx;go_wp2
    go_roundg (gk - 1)
    case measure=>have:=HK.o;omega
    case rel=>exact ⟨HB2.o,k+1,zh,zi,by rw [HE.o,dQ,HP.o];simp [HX.o]⟩
  ·have HA:Hid (l.any (ptIs fr)=false):=by
    show _=_
    have:=HP.o
    rwa [cP za] at this
   go_wp2;go_ret
   exact ⟨-1,rfl,by rw [HA.o];rfl,HBW.o⟩
theorem containsSh_c (A:Option Addr) (c p:Nat) (l:List Sh) (fr:BA) (w:World) (hn:l.length≤1000000) (h:Shs w A l) (hp:w.cell? ⟨p,4,none⟩=some (.string fr)) :
  Calls Tryz.prog 256 #[.slice A l.length c,.func (.func 257) #[] #[.pointer (some ⟨p,0,none⟩)]] w (zAe (.bool (l.any (ptIs fr))) w):=by
 go_enter Tryz.func256,Tryz.ntmps256
 go_wp2_with fail
 refine (indexSh_c A c p l fr w hn h hp).mono ?_
 rintro e w1 ⟨z,rfl,hz,hb⟩;have HZ:=zq hz;clear hz;go_wp2;go_ret
 exact zAe.mk (zAQ HZ.o) hb
def cutset:BA:=⟨#[97,98,99,100,101,102,103,104,105,106,107,108,109,110,111,112,113,114,115,116,117,118,119,120,121,122,48,49,50,51,52,53,54,55,56,57,45]⟩
theorem cut_okB (c:UInt8):cutset.data.toList.contains c=okB c:=by
 have h:∀ n:Nat,n<256→cutset.data.toList.contains (UInt8.ofNat n)=okB (UInt8.ofNat n):=by decide +kernel
 have:=h c.toNat c.toNat_lt
 simpa using this
theorem zDp {p:UInt8→Bool}:∀ {l:List UInt8} {b:UInt8},b∈l→p b=false→b∈l.dropWhile p
 | [],_,h,_=>by simp at h
 | a::t,b,h,hb=>by
  rw [List.dropWhile_cons]
  cases ha:p a with
  | false=>simpa using h
  | true =>
   simp only [dR]
   rcases List.mem_cons.1 h with rfl | h
   ·rw [ha] at hb;cases hb
   ·exact zDp h hb
theorem dropWhile_all {p:UInt8→Bool}:∀ {l:List UInt8},l.all p=true→l.dropWhile p=[]
 | [],_=>rfl
 | a::t,h=>by
  rw [List.all_cons,dG] at h;rw [List.dropWhile_cons,h.1]
  simpa using dropWhile_all h.2
theorem trim_empty (l:List UInt8):(Lib.trimS l cutset.data.toList).isEmpty=l.all okB:=by
 have hp:(fun b=>cutset.data.toList.contains b)=okB:=funext cut_okB
 cases ha:l.all okB with
 | true =>
  have:Lib.trimS l cutset.data.toList=[]:=by
   unfold Lib.trimS Lib.trimLeftS Lib.trimRightS;rw [hp,dropWhile_all (l:=l.reverse) (by rw [List.all_reverse];exact ha)]
   rfl
  rw [this];rfl
 | false =>
  obtain ⟨b,hb,hn⟩:=List.all_eq_false.1 ha;have hn':okB b=false:=by simpa using hn
  have:b∈Lib.trimS l cutset.data.toList:=by
   unfold Lib.trimS Lib.trimLeftS Lib.trimRightS;rw [hp];exact zDp (List.mem_reverse.2 (zDp (List.mem_reverse.2 hb) hn')) hn'
  cases hs:Lib.trimS l cutset.data.toList with
  | nil=>rw [hs] at this;simp at this
  | cons a t=>rfl
theorem trimS_c (s:BA) (w:World) (hs:s.size≤9223372036854775807) :
  Calls Tryz.prog 150 #[.string s,.string cutset] w (zAe (.string ⟨(Lib.trimS s.data.toList cutset.data.toList).toArray⟩) w) :=
 Any.strings_Trim_laid Tryz.lays160 zb s cutset w hs zc (ascii_of_all (by decide +kernel))
theorem soundIsName_c (s:BA) (w:World) (hs:s.size≤9223372036854775807) :
  Calls Tryz.prog 107 #[.string s] w (zAe (.bool (zAT s)) w):=by
 generalize hres:zAT s=res;have HR:=zq hres;clear hres
 by_cases h1:1≤s.size
 ·by_cases h2:s.size≤40
  ·by_cases h3:97≤(s[0]'h1).toNat
   ·by_cases h4:(s[0]'h1).toNat≤122
    ·have hall:(⟨(Lib.trimS s.data.toList cutset.data.toList).toArray⟩:BA).toList.isEmpty=res:=by
      rw [←HR.o,isNm_all h1 h2 h3 h4,ByteArray.toList_mk,trim_empty]
     have hcon:=trimS_c s w hs;generalize (⟨(Lib.trimS s.data.toList cutset.data.toList).toArray⟩:BA)=r at hall hcon;have HC:=zq hcon;have HA:=zq hall;clear hcon hall
     go_enter Tryz.func107,Tryz.ntmps107
     go_wp2_with fail
     refine HC.o.mono ?_
     rintro e w' ⟨rfl,hB⟩;go_wp2;go_ret
     exact zAe.mk (zAQ HA.o) hB
    ·have hres:res=false:=by
      rw [←HR.o];unfold zAT;rw [headD_get s h1];simp [h4]
     have HS:=zq hres;clear hres
     go_enter Tryz.func107,Tryz.ntmps107
     go_wp2_with fail
     go_ret
     exact zAe.mk (zAQ HS.o.symm) (aN _ _)
   ·have hres:res=false:=by
     rw [←HR.o];unfold zAT;rw [headD_get s h1];simp [h3]
    have HS:=zq hres;clear hres
    go_enter Tryz.func107,Tryz.ntmps107
    go_wp2_with fail
    go_ret
    exact zAe.mk (zAQ HS.o.symm) (aN _ _)
  ·have hres:res=false:=by
    rw [←HR.o];unfold zAT;simp [h2]
   have HS:=zq hres;clear hres
   go_enter Tryz.func107,Tryz.ntmps107
   go_wp2_with fail
   go_ret
   exact zAe.mk (zAQ HS.o.symm) (aN _ _)
 ·have hres:res=false:=by
   rw [←HR.o];unfold zAT;simp [h1]
  have HS:=zq hres;clear hres
  go_enter Tryz.func107,Tryz.ntmps107
  go_wp2_with fail
  go_ret
  exact zAe.mk (zAQ HS.o.symm) (aN _ _)
theorem zBI (s:BA) (w:World) (hs:s.size≤9223372036854775807) :
  Calls Tryz.prog 60 #[.string s] w (zAe (.bool (zAT s)) w):=by
 go_enter Tryz.func60,Tryz.ntmps60
 go_wp2_with fail
 refine (soundIsName_c s w hs).mono ?_
 rintro e w' ⟨rfl,hB⟩;go_wp2;go_ret
 exact zAe.mk rfl hB
theorem Bx.set {w:World} {g:Nat} {cs:Array Value} {T:TypeId} (h:Bx w g cs T) (i:Nat) (v:Value):Bx (w.setCell ⟨g,i,none⟩ v) g (cs.setIfInBounds i v) T:=by
 have h':w.heap[g]?=some (.cells cs T (0,0)):=h
 show (w.setCell ⟨g,i,none⟩ v).heap[g]?=_
 simp [World.setCell,Array.getElem?_modify,h']
theorem Bx.far {w:World} {g:Nat} {cs:Array Value} {T:TypeId} (h:Bx w g cs T) {p:Addr} (hp:g≠p.block) (v:Value):Bx (w.setCell p v) g cs T:=(bY w p v g hp).trans h
abbrev rdC (ng:Bool) (A:Option Addr) (c n:Nat) (A2:Option Addr) (c2 d:Nat):Array Value:=#[.bool ng,.slice A (zAd B32 n).length c,.slice A2 (zAd B32 d).length c2]
structure ShSt (w:World) (d:De) (g:Nat) (A:Option Addr) (c:Nat) (A2:Option Addr) (c2:Nat) (pr:Nat×Nat) (W:World):Prop where
 bel:Below w.heap.size w W
 box:Bx W w.heap.size (deC d) 52
 sum:Bx W g (rdC false A c pr.1 A2 c2 pr.2) 89
 n1:Nt W A c pr.1
 n2:Nt W A2 c2 pr.2
 gt:w.heap.size<g
section
variable {w W W':World} {d:De} {g:Nat} {A A2:Option Addr} {c c2:Nat} {pr:Nat×Nat}
theorem ShSt.below (h:ShSt w d g A c A2 c2 pr W) (hb:Below W.heap.size W W'):ShSt w d g A c A2 c2 pr W' :=
 ⟨zAa h.bel hb,h.box.below hb,h.sum.below hb,h.n1.below hb,h.n2.below hb,h.gt⟩
theorem ShSt.drewN (h:ShSt w d g A c A2 c2 pr W) (n:Nat):ShSt w d g A c A2 c2 pr (W.drewN n) :=
 ⟨zAc h.bel n,h.box,h.sum,h.n1.drewN n,h.n2.drewN n,h.gt⟩
theorem ShSt.alloc (h:ShSt w d g A c A2 c2 pr W) (o:Obj):ShSt w d g A c A2 c2 pr (W.alloc o) :=
 h.below ((aN _ _).alloc (aC _) o)
theorem ShSt.store (h:ShSt w d g A c A2 c2 pr W) {A' A2':Option Addr} {c' c2':Nat} {pr':Nat×Nat} (h1:Nt W A' c' pr'.1) (h2:Nt W A2' c2' pr'.2) :
  ShSt w d g A' c' A2' c2' pr' (((W.setCell ⟨g,0,none⟩ (.bool false)).setCell ⟨g,1,none⟩ (.slice A' (zAd B32 pr'.1).length c')).setCell ⟨g,2,none⟩ (.slice A2' (zAd B32 pr'.2).length c2')):=by
 have hg:=h.gt;obtain ⟨k0,k1,k2⟩:=h.sum.t;refine ⟨((h.bel.setCell ze _).setCell ze _).setCell ze _,((h.box.far ze _).far ze _).far ze _,?_,h1.set3 k0 k1 k2 (nb_ _) (ns_ _ _ _) (ns_ _ _ _) _ _ _,h2.set3 k0 k1 k2 (nb_ _) (ns_ _ _ _) (ns_ _ _ _) _ _ _,hg⟩
 exact ((h.sum.set 0 _).set 1 _).set 2 _
theorem ShSt.shs (h:ShSt w d g A c A2 c2 pr W) (hd:DeOk w d):Shs W d.shA d.sh:=hd.shs.below h.bel
end
theorem sumP_zero (l:List Sh):zDn l 0=(0,1):=rfl
theorem sumP_succ {l:List Sh} {k:Nat} (h:k<l.length):zDn l (k+1)=addP (zDn l k) (zAF (zBj l[k].nu),zAF l[k].de):=by
 unfold zDn;rw [bF h,bL]
 rfl
def ShLen (p:Nat×Nat) (k:Nat):Prop:=(zAd B32 p.1).length≤4001*k+1∧(zAd B32 p.2).length≤4001*k+1∧0<p.2
theorem shLen_succ {p:Nat×Nat} {k n d:Nat} (h:ShLen p k) (hn:(zAd B32 n).length≤2000) (hd:(zAd B32 d).length≤2000) (hd0:0<d):ShLen (addP p (n,d)) (k+1):=by
 obtain ⟨h1,h2,h3⟩:=h;have e1:=zCz p.1 d;have e2:=zCz n p.2;have e3:=len_add (p.1*d) (n*p.2);have e4:=zCz p.2 d;have hp:0<p.2*d:=cZ h3 hd0;have f1:=zAI zAo (Nat.div_le_self (p.1*d+n*p.2) (Nat.gcd (p.1*d+n*p.2) (p.2*d)));have f2:=zAI zAo (Nat.div_le_self (p.2*d) (Nat.gcd (p.1*d+n*p.2) (p.2*d)));refine ⟨?_,?_,Nat.div_pos (Nat.le_of_dvd hp (Nat.gcd_dvd_right _ _)) (dM _ hp)⟩
 ·show (zAd B32 ((p.1*d+n*p.2) / Nat.gcd (p.1*d+n*p.2) (p.2*d))).length≤_
  omega
 ·show (zAd B32 (p.2*d / Nat.gcd (p.1*d+n*p.2) (p.2*d))).length≤_
  omega
theorem ptAt_of {l:List Sh} {i:Nat} (h:i<l.length):ptAt l i=l[i].pt:=by simp [ptAt,List.getD,h]
theorem shD_of {l:List Sh} {i:Nat} (h:i<l.length):l.getD i default=l[i]:=by simp [List.getD,h]
theorem zCt {nu de:BA} (h:ratF nu de=0):numB (zBj nu)=true∧numB de=true∧de≠zeroS∧(zBj nu).size≤2000∧de.size≤2000:=by
 unfold ratF at h
 split at h
 ·cases h
 ·next h1 =>
  split at h
  ·cases h
  ·next h2 =>
   refine ⟨?_,?_,?_,za,za⟩
   ·cases hq:numB (zBj nu) with
    | true=>rfl
    | false=>exact absurd (.inl hq) h1
   ·cases hq:numB de with
    | true=>rfl
    | false=>exact absurd (.inr (.inr (.inl hq))) h1
   ·exact fun e=>h1 (.inr (.inr (.inr e)))
theorem absN_size (s:BA):(zBj s).size≤s.size:=by
 show (absL s).toArray.size≤_
 unfold absL;have e:s.data.toList.length=s.size:=Array.length_toList
 split
 ·rw [List.size_toArray,List.length_tail];omega
 ·rw [List.size_toArray];omega
theorem posB_sgn (nu:BA):decide (sgnI (sgB nu) (zAF (zBj nu))≤0) = !posB nu:=by
 unfold sgnI sgB posB
 cases negB nu<;>by_cases h:zAF (zBj nu)=0<;>simp [h]
theorem posB_sg {nu:BA} (h:posB nu=true):sgB nu=false:=by
 unfold posB at h;unfold sgB
 cases hn:negB nu<;>simp_all
def ShRel (w:World) (d:De) (g:Nat) (m:Nat) (i:Value) (wr:World):Prop :=
 ∃ A c A2 c2 k,ShSt w d g A c A2 c2 (zDn d.sh k) wr∧ShLen (zDn d.sh k) k∧k+m=d.sh.length∧i = .int .i64 (k:Nat)∧∀ j,j<k→zBl d.sh j=none
def zCf (d:De):Int:=if shF d.kd d.sh≠0 then shF d.kd d.sh else if d.kd=5∧(d.sh.any fun s=>decide (s.pt=d.fr))=true then 12 else 0
theorem whole0_c (w:World):Calls Tryz.prog 34 #[.int .i64 0] w (zCb false 0 1 w):=Whole_c 0 w za
theorem whole1_c (w:World):Calls Tryz.prog 34 #[.int .i64 1] w (zCb false 1 1 w):=Whole_c 1 w za
def shEnd (d:De):Int:=if (zDn d.sh d.sh.length).2<(zDn d.sh d.sh.length).1∨(d.kd=5∧(zDn d.sh d.sh.length).1≠(zDn d.sh d.sh.length).2) then 1 else if d.kd=5∧(d.sh.any (ptIs d.fr))=true then 12 else 0
def shRest (s:Sh):Option Int:=if ratF s.nu s.de≠0 then some (ratF s.nu s.de) else if posB s.nu=false then some 1 else none
theorem shFault_nz {l:List Sh} {k:Nat} {f:Int} (h:zBl l k=some f):f≠0:=by
 unfold zBl at h
 split at h
 ·cases h;decide
 ·split at h
  ·cases h;decide
  ·split at h
   ·next hr=>cases h;exact hr
   ·split at h
    ·cases h;decide
    ·cases h
theorem shFull_hit {d:De} {k:Nat} {f:Int} (hne:d.sh≠[]) (h20:¬20<d.sh.length) (hk:k<d.sh.length) (hp:∀ j,j<k→zBl d.sh j=none) (hf:zBl d.sh k=some f):zCf d=f:=by
 have e:shF d.kd d.sh=f:=by
  unfold shF;rw [aD hne,aD h20,zBk hk hp hf]
 unfold zCf;rw [e,aF (shFault_nz hf)]
theorem shFull_none {d:De} (hne:d.sh≠[]) (h20:¬20<d.sh.length) (hp:∀ j,j<d.sh.length→zBl d.sh j=none):zCf d=shEnd d:=by
 have e:shF d.kd d.sh=if (zDn d.sh d.sh.length).2<(zDn d.sh d.sh.length).1∨(d.kd=5∧(zDn d.sh d.sh.length).1≠(zDn d.sh d.sh.length).2) then 1 else 0:=by
  unfold shF;rw [aD hne,aD h20,zBq hp]
 unfold zCf shEnd;rw [e]
 by_cases h:(zDn d.sh d.sh.length).2<(zDn d.sh d.sh.length).1∨(d.kd=5∧(zDn d.sh d.sh.length).1≠(zDn d.sh d.sh.length).2)
 ·rw [aF h,aF h];rfl
 ·rw [aD h,aD h];rfl
theorem checkShares_c (d:De) (w:World) (hd:DeOk w d):Calls Tryz.prog 210 #[deV d] w (zAe (.int .i64 (zCf d)) w):=by
 generalize hres:zCf d=res;have HR:=zq hres;clear hres;have HD:=zq hd;clear hd;have HX:Hid (Bx (w.alloc (.cells (deC d) 52)) w.heap.size (deC d) 52):=Bx.new _ _ _;have HB:Hid (Below w.heap.size w (w.alloc (.cells (deC d) 52))):=(aN w.heap.size w).alloc (aC _) _;obtain ⟨W,hW⟩:∃ W,W=w.alloc (.cells (deC d) 52):=⟨_,rfl⟩;rw [←hW] at HX HB;have hsz:w.heap.size<W.heap.size:=HX.o.lt
 go_enter Tryz.func210,Tryz.ntmps210
 by_cases h0:d.sh.length=0
 ·have HS:Hid (res=9):=by
   show _=_
   rw [←HR.o];unfold zCf shF;have:d.sh=[]:=List.length_eq_zero_iff.1 h0;simp [this]
  go_wp2;go_ret
  exact zAe.mk (zAX HS.o.symm) (hW▸HB.o)
 ·by_cases h20:20<d.sh.length
  ·have HS:Hid (res=2):=by
    show _=_
    rw [←HR.o];unfold zCf shF;have:d.sh≠[]:=fun e=>h0 (by rw [e];rfl)
    simp [this,h20]
   go_wp2;go_ret
   exact zAe.mk (zAX HS.o.symm) (hW▸HB.o)
  ·have hne:d.sh≠[]:=fun e=>h0 (by rw [e];rfl)
   have HH:Hid (∀ k f,k<d.sh.length→(∀ j,j<k→zBl d.sh j=none)→zBl d.sh k=some f→res=f):=by
    intro k f hk hp hf;rw [←HR.o];exact shFull_hit hne h20 hk hp hf
   have HN:Hid ((∀ j,j<d.sh.length→zBl d.sh j=none)→shEnd d=res):=by
    intro hp;rw [←HR.o];exact (shFull_none hne h20 hp).symm
   have x14:=HX.o.c 14 rfl
   go_wp2_with fail
   rw [←hW];with_reducible refine (whole0_c W).mono ?_
   rintro e w1 ⟨A1,c1,A2,c2,rfl,hn1,hn2,hb1⟩;have HX1:=zq (HX.o.below hb1);have HB1:=zq (zAa HB.o hb1);have hs1:=hb1.size
   have HST:Hid (ShSt w d w1.heap.size A1 c1 A2 c2 (zDn d.sh 0) (w1.alloc (.cells (rdC false A1 c1 0 A2 c2 1) 89))) :=
    ⟨HB1.o.alloc za _,HX1.o.alloc _,Bx.new _ _ _,hn1.alloc _,hn2.alloc _,za⟩
   have y14:=HX1.o.c 14 rfl;have hlt1:=HX1.o.lt;clear hb1 x14;go_wp2;obtain ⟨b,o,hA,hb0,hc0⟩:=HD.o.shs.at_ za;have HC0:=zq hc0;clear hc0;rw [hA]
   go_loopg [21] d.sh.length (ShRel w d w1.heap.size)
   case atStart=>exact ⟨A1,c1,A2,c2,0,HST.o,⟨by rw [sumP_zero];decide,by rw [sumP_zero];decide,by rw [sumP_zero];decide⟩,za,rfl,fun j hj=>absurd hj za⟩
   case round =>
    clear HST HB1 HX1 hn1 hn2 y14 hs1 hW HX HB hsz;obtain ⟨A3,c3,A4,c4,k,hst,hle,hkm,rfl,hpre⟩:=hrel;have HST:=zq hst;have HLE:=zq hle;have HKM:=zq hkm;have HP:=zq hpre;have hkl:k≤d.sh.length:=za;clear hst hle hkm hpre;have HSH:=zq (HST.o.shs HD.o)
    by_cases hlt:k<d.sh.length
    ·have hb:b<wr.heap.size:=cY hb0 HST.o.bel.size
     have hc:∀ i (h:i<d.sh.length),wr.cell? ⟨b,o+i*3,none⟩=some (.string (d.sh[i]).pt)∧wr.cell? ⟨b,o+i*3+1,none⟩=some (.string (d.sh[i]).nu)∧wr.cell? ⟨b,o+i*3+2,none⟩=some (.string (d.sh[i]).de) :=
      fun i h=>⟨(HST.o.bel.cell hb0).trans (HC0.o i h).1,(HST.o.bel.cell hb0).trans (HC0.o i h).2.1,(HST.o.bel.cell hb0).trans (HC0.o i h).2.2⟩
     have HCL:=zq hc;obtain ⟨s0,s1,s2⟩:=hc k hlt;clear hc;have HSB:Hid (Bx (wr.alloc (.cells #[.string d.sh[k].pt,.string d.sh[k].nu,.string d.sh[k].de] 42)) wr.heap.size #[.string d.sh[k].pt,.string d.sh[k].nu,.string d.sh[k].de] 42):=Bx.new _ _ _;have HST1:=zq (HST.o.alloc (.cells #[.string d.sh[k].pt,.string d.sh[k].nu,.string d.sh[k].de] 42));have hsz1:=(HD.o.shz _ (aJ hlt)).1;have hz1:=cU (absN_size d.sh[k].nu) (HD.o.shz _ (aJ hlt)).2.1;have hz2:=(HD.o.shz _ (aJ hlt)).2.2
     go_wp2_with fail
     with_reducible refine (zBI d.sh[k].pt _ hsz1).mono ?_
     rintro e w2 ⟨rfl,hb2⟩;have HST2:=zq (HST1.o.below hb2);have hbw:Below wr.heap.size wr w2:=((aN _ _).alloc (aC _) _).trans (hb2.mono zd);have HSB2:=zq (HSB.o.below hb2);clear HST1 HSB hb2
     cases hnm:zAT d.sh[k].pt with
     | false =>
      have HS:Hid (res=5):=HH.o k 5 hlt HP.o (by unfold zBl;rw [ptAt_of hlt,aF hnm])
      clear hnm;go_wp2;go_ret
      exact zAe.mk (zAX HS.o.symm) HST2.o.bel
     | true =>
      have HNM:=zq hnm;clear hnm;have yd:w2.cell? ⟨w.heap.size,14,none⟩=some (.slice (some ⟨b,o,none⟩) d.sh.length d.shc):=by rw [←hA];exact HST2.o.box.c 14 rfl
      have ye:=HST2.o.box.lt;obtain ⟨z0,z1,z2⟩:=HSB2.o.t;have HPV:Hid (∀ (h:0<k),w2.cell? ⟨b,o+(k - 1)*3,none⟩=some (.string (d.sh[k - 1]'(by omega)).pt)):=fun h=>(hbw.cell hb).trans (HCL.o (k - 1) za).1
      clear hbw s0 s1 s2
      by_cases hk0:0<k
      case' pos =>
       have zp:=HPV.o hk0;have hd:decide ((0:Int)<(k:Int))=true:=ze;have hd0:decide ((0:Int)≤(k:Int) - 1)=true:=ze
       cases hle:sle d.sh[k].pt (d.sh[k - 1]'(by omega)).pt
       case' true =>
        have HS:Hid (res=8):=HH.o k 8 hlt HP.o (by unfold zBl;rw [ptAt_of hlt,ptAt_of (show k - 1<d.sh.length by omega),aD (by rw [HNM.o];simp),aF ⟨hk0,hle⟩])
        unfold sle at hle;clear HPV HCL;go_wp2
        go_quiet (fail)
        go_wp2;go_ret
        exact zAe.mk (zAX HS.o.symm) (zAc HST2.o.bel _)
       case' false =>
        have HF:Hid (zBl d.sh k=shRest d.sh[k]):=by
         show _=_
         unfold zBl shRest;rw [shD_of hlt,ptAt_of hlt,ptAt_of (show k - 1<d.sh.length by omega),aD (by rw [HNM.o];simp),aD (fun hh=>by rw [hle] at hh;cases hh.2)]
        unfold sle at hle
      case' neg =>
       have hd:decide ((0:Int)<(k:Int))=false:=ze
       have HF:Hid (zBl d.sh k=shRest d.sh[k]):=by
        show _=_
        unfold zBl shRest;rw [shD_of hlt,ptAt_of hlt,aD (by rw [HNM.o];simp),aD (fun hh=>hk0 hh.1)]
      all_goals
       clear HPV HCL HNM;go_wp2
       go_quiet (fail)
       go_wp2_with fail
       with_reducible refine (CheckRatio_c d.sh[k].nu d.sh[k].de _ hz1 hz2).mono ?_
       rintro e w3 ⟨rfl,hb3⟩;have HST3:=zq ((HST2.o.drewN nq).below hb3);have HSB3:=zq ((HSB2.o.drewN nq).below hb3);clear yd ye z0 z1 z2 hb3 HSB2 HST2
       by_cases hr:ratF d.sh[k].nu d.sh[k].de=0
       case' neg =>
        have HS:Hid (res=ratF d.sh[k].nu d.sh[k].de):=HH.o k _ hlt HP.o (by rw [HF.o];unfold shRest;rw [aF hr])
        have hrb:(ratF d.sh[k].nu d.sh[k].de != 0)=true:=by simpa using hr
        clear hr;go_wp2;go_ret
        exact zAe.mk (zAX HS.o.symm) HST3.o.bel
       have HF2:Hid (zBl d.sh k=if posB d.sh[k].nu=false then some 1 else none):=by
        show _=_
        rw [HF.o];unfold shRest;rw [aD (by rw [hr];decide)]
       obtain ⟨q1,q2,q3,q4,q5⟩:=zCt hr;have HLN:Hid ((zAd B32 (zAF (zBj d.sh[k].nu))).length≤2000):=len_val (zBf q1).1 q4;have HLD:Hid ((zAd B32 (zAF d.sh[k].de)).length≤2000):=len_val (zBf q2).1 q5;have HDP:Hid (0<zAF d.sh[k].de):=den_pos q2 q3;have HFR:=zq (From_c d.sh[k].nu d.sh[k].de w3 (zBf q1).1 q4 (zBf q2).1 q5);obtain ⟨z0,z1,z2⟩:=HSB3.o.t;rw [hr];clear q1 q2 q3 q4 q5 hr HF HSB3
       go_wp2_with fail
       with_reducible refine HFR.o.mono ?_
       rintro e w4 ⟨A5,c5,A6,c6,rfl,h5,h6,hb4⟩;have HST4:=zq (HST3.o.below hb4);clear z0 z1 z2 hb4 HST3 HFR;have HXB:Hid (Bx (w4.alloc (.cells (rdC (sgB d.sh[k].nu) A5 c5 (zAF (zBj d.sh[k].nu)) A6 c6 (zAF d.sh[k].de)) 89)) w4.heap.size (rdC (sgB d.sh[k].nu) A5 c5 (zAF (zBj d.sh[k].nu)) A6 c6 (zAF d.sh[k].de)) 89):=Bx.new _ _ _;have HST5:=zq (HST4.o.alloc (.cells (rdC (sgB d.sh[k].nu) A5 c5 (zAF (zBj d.sh[k].nu)) A6 c6 (zAF d.sh[k].de)) 89));have H5:=zq (h5.alloc (.cells (rdC (sgB d.sh[k].nu) A5 c5 (zAF (zBj d.sh[k].nu)) A6 c6 (zAF d.sh[k].de)) 89));have H6:=zq (h6.alloc (.cells (rdC (sgB d.sh[k].nu) A5 c5 (zAF (zBj d.sh[k].nu)) A6 c6 (zAF d.sh[k].de)) 89));clear h5 h6 HST4
       go_wp2_with fail
       with_reducible refine (RSign_c (sgB d.sh[k].nu) A5 A6 c5 c6 (zAF (zBj d.sh[k].nu)) (zAF d.sh[k].de) _).mono ?_
       rintro e w5 ⟨rfl,hb5⟩;have HST6:=zq (HST5.o.below hb5);have HXB6:=zq (HXB.o.below hb5);have H56:=zq (H5.o.below hb5);have H66:=zq (H6.o.below hb5);have hsg:=posB_sgn d.sh[k].nu;clear hb5 HST5 HXB H5 H6
       cases hp:posB d.sh[k].nu with
       | false =>
        have HS:Hid (res=1):=HH.o k 1 hlt HP.o (by rw [HF2.o,aF hp])
        rw [hp] at hsg;clear hp;go_wp2;go_ret
        exact zAe.mk (zAX HS.o.symm) HST6.o.bel
       | true =>
        have HF3:Hid (zBl d.sh k=none):=by
         show _=_
         rw [HF2.o,aD (by rw [hp];simp)]
        have hsb:=posB_sg hp;rw [hp] at hsg;clear hp HF2;have HSUM:Hid (zDn d.sh (k+1)=addP (zDn d.sh k) (zAF (zBj d.sh[k].nu),zAF d.sh[k].de)):=sumP_succ hlt;have HLS:=zq (shLen_succ HLE.o HLN.o HLD.o HDP.o);have hk20:k<20:=za;have hle1:=HLE.o.1;have hle2:=HLE.o.2.1;have hle3:=HLE.o.2.2;have HADD:=zq (RAdd_c A3 A4 A5 A6 c3 c4 c5 c6 (zDn d.sh k).1 (zDn d.sh k).2 (zAF (zBj d.sh[k].nu)) (zAF d.sh[k].de) w5 HST6.o.n1 HST6.o.n2 H56.o H66.o za za (cU HLN.o za) (cU HLD.o za) hle3 HDP.o);rw [hsb] at hsg HXB6;rw [hsb];obtain ⟨a0,a1,a2⟩:=HST6.o.sum.t;obtain ⟨x0,x1,x2⟩:=HXB6.o.t;clear hle1 hle2 hle3 HLE HXB6 H56 H66
        go_wp2_with fail
        with_reducible refine HADD.o.mono ?_
        rintro e w6 ⟨A7,c7,A8,c8,rfl,h7,h8,hb6⟩;have HST7:=zq (HST6.o.below hb6);obtain ⟨r0,r1,r2⟩:=HST7.o.sum.t;have fr:=HST7.o.sum.frozen;have rl:=HST7.o.sum.lt;have HST8:=zq (HST7.o.store (pr':=addP (zDn d.sh k) (zAF (zBj d.sh[k].nu),zAF d.sh[k].de)) h7 h8);clear a0 a1 a2 x0 x1 x2 hb6 h7 h8 HST6 HADD hsg hsb;go_wp2
        go_roundg (gk - 1)
        case measure=>have:=HKM.o;omega
        case rel =>
         refine ⟨A7,c7,A8,c8,k+1,by rw [HSUM.o];exact HST8.o,by rw [HSUM.o];exact HLS.o,by have:=HKM.o;omega,zi,fun j hj=>?_⟩
         rcases bQ j k with h9 | h9
         ·exact HP.o j h9
         ·obtain rfl:j=k:=by omega
          exact HF3.o
    ·have hke:k=d.sh.length:=by omega
     rw [hke] at HST HLE HP;have HE:=zq (HN.o HP.o);have hl1:(zAd B32 (zDn d.sh d.sh.length).1).length≤100000000:=cU HLE.o.1 za;have hl2:(zAd B32 (zDn d.sh d.sh.length).2).length≤100000000:=cU HLE.o.2.1 za;have HL1:=zq hl1;have HL2:=zq hl2;clear hl1 hl2 HLE HP HC0;obtain ⟨a0,a1,a2⟩:=HST.o.sum.t;go_wp2
     go_region_held3 (fun w'=>w'.cell? ⟨w1.heap.size,0,none⟩=some (.bool false)∧w'.cell? ⟨w1.heap.size,1,none⟩=some (.slice A3 (zAd B32 (zDn d.sh d.sh.length).1).length c3)∧w'.cell? ⟨w1.heap.size,2,none⟩=some (.slice A4 (zAd B32 (zDn d.sh d.sh.length).2).length c4)) ((refine ⟨?_,?_,?_⟩<;>first | with_reducible assumption | go_simp))
      (first
       | ((go_at_call 34;(with_reducible refine (whole1_c _).mono ?_);rintro e w8 ⟨A7,c7,A8,c8,rfl,h7,h8,hb8⟩;have HST8:=zq ((HST.o.drewN 1).below hb8);obtain ⟨b0,b1,b2⟩:=HST8.o.sum.t;clear hb8))
       | ((go_at_call 33;(with_reducible refine (RCmp_c A3 A4 A7 A8 c3 c4 c7 c8 _ _ 1 1 w8 HST8.o.n1 HST8.o.n2 h7 h8 HL1.o HL2.o zc zc).mono ?_);rintro e w9 ⟨rfl,hb9⟩;have HST9:=zq (HST8.o.below hb9);obtain ⟨d0,d1,d2⟩:=HST9.o.sum.t;clear hb9)))
     clear a0 a1 a2 b0 b1 b2 d0 d1 d2 HST HST8 h7 h8 HL1 HL2 HSH;have y2:w9.cell? ⟨w.heap.size,2,none⟩=some (.int .i64 d.kd):=HST9.o.box.c 2 rfl;have y14:w9.cell? ⟨w.heap.size,14,none⟩=some (.slice d.shA d.sh.length d.shc):=HST9.o.box.c 14 rfl;have yl:=HST9.o.box.lt;have HCO:=zq (containsSh_c d.shA d.shc w.heap.size d.sh d.fr w9 za (HST9.o.shs HD.o) (HST9.o.box.c 4 rfl));have he:=HE.o;unfold shEnd at he;clear HE HN HH HR
     try simp only [bS,Nat.one_mul]
     rcases Nat.lt_trichotomy (zDn d.sh d.sh.length).2 (zDn d.sh d.sh.length).1 with h | h | h
     ·rw [aF (.inl h)] at he
      rw [zCF h];have HS:=zq he;clear he h;go_wp2;go_ret
      exact zAe.mk (zAX HS.o) HST9.o.bel
     ·rw [aD za] at he
      rw [zDo h.symm]
      by_cases hk:d.kd=5
      ·have hkb:(d.kd == 5)=true:=by rw [hk];rfl
       cases hany:d.sh.any (ptIs d.fr) with
       | true =>
        rw [aF ⟨hk,hany⟩] at he;rw [hany,hA] at HCO;have HS:=zq he;clear he h hk hany
        go_wp2_with fail
        with_reducible refine HCO.o.mono ?_
        rintro e w10 ⟨rfl,hb10⟩;go_wp2;go_ret
        exact zAe.mk (zAX HS.o) (zAa HST9.o.bel hb10)
       | false =>
        rw [aD (fun hh=>by rw [hany] at hh;cases hh.2)] at he
        rw [hany,hA] at HCO;have HS:=zq he;clear he h hk hany
        go_wp2_with fail
        with_reducible refine HCO.o.mono ?_
        rintro e w10 ⟨rfl,hb10⟩;go_wp2;go_ret
        exact zAe.mk (zAX HS.o) (zAa HST9.o.bel hb10)
      ·have hkb:(d.kd == 5)=false:=by simpa using hk
       rw [aD (fun hh=>hk hh.1)] at he
       have HS:=zq he;clear he h hk;go_wp2;go_ret
       exact zAe.mk (zAX HS.o) HST9.o.bel
     ·rw [zCy h]
      by_cases hk:d.kd=5
      ·have hkb:(d.kd == 5)=true:=by rw [hk];rfl
       rw [aF (.inr ⟨hk,za⟩)] at he;have HS:=zq he;clear he h hk;go_wp2;go_ret
       exact zAe.mk (zAX HS.o) HST9.o.bel
      ·have hkb:(d.kd == 5)=false:=by simpa using hk
       rw [aD za,aD (fun hh=>hk hh.1)] at he
       have HS:=zq he;clear he h hk;go_wp2;go_ret
       exact zAe.mk (zAX HS.o) HST9.o.bel
end Go.Proofs.YtieoifkdobcpiaaGreatDoor
namespace Dw
open Go Go.RowKit
structure KeyT (P:Program) (K:TypeId) {κ:Type} [DecidableEq κ] (mk:κ→Value):Prop where
 same:∃ d,P.underlying K=some d∧∀ a b,Instr.sameNow d (mk a) (mk b)=some (decide (a=b))
 bits:∀ a,Instr.sameBits 10000 (mk a) (mk a)=true
 chk:∀ (b:Bool) (a:κ) (w:World),(Instr.checkKey b 10000 K (mk a)).run P w = .ok () w
def zAP {κ:Type} [DecidableEq κ] (es:List (κ×Value)) (k:κ):Option Value:=(es.find? fun e=>decide (k=e.1)).map (·.2)
def zAq {κ:Type} [DecidableEq κ] (mk:κ→Value) (w:World) (r:Nat) (f:κ→Option Value):Prop :=
 ∃ (es:Array MapEntry) (clk:Nat) (L:List (κ×Value)),w.heap[r]?=some (.map es clk)∧es.toList.map (fun e=>(e.key,e.val))=L.map (fun p=>(mk p.1,p.2))∧∀ k,zAP L k=f k
section
variable {κ:Type} [DecidableEq κ] {mk:κ→Value} {w w':World} {r:Nat} {f:κ→Option Value}
theorem zAq.lt (h:zAq mk w r f):r<w.heap.size:=by
 obtain ⟨es,clk,L,hr,_⟩:=h;exact (Array.getElem?_eq_some_iff.1 hr).1
theorem zAq.keep (h:zAq mk w r f) (hk:w'.heap[r]?=w.heap[r]?):zAq mk w' r f:=by
 obtain ⟨es,clk,L,hr,rest⟩:=h;exact ⟨es,clk,L,hk.trans hr,rest⟩
theorem zAq.below (h:zAq mk w r f) (hb:Below w.heap.size w w'):zAq mk w' r f:=h.keep (hb.block r h.lt)
theorem zAq.alloc (h:zAq mk w r f) (o:Obj):zAq mk (w.alloc o) r f:=h.keep (dN w o r h.lt)
theorem zAq.drewN (h:zAq mk w r f) (n:Nat):zAq mk (w.drewN n) r f:=h
theorem zAq.new (mk:κ→Value) (w:World):zAq mk (w.alloc (.map #[] 0)) w.heap.size (fun _=>none) :=
 ⟨#[],0,[],bZ w _,rfl,fun _=>rfl⟩
theorem zAq.setCell (h:zAq mk w r f) {a:Addr} (ha:r≠a.block) (u:Value):zAq mk (w.setCell a u) r f:=h.keep (dS w a r u ha)
end
theorem zDa {κ:Type} [DecidableEq κ] {mk:κ→Value} {d:TypeDesc} (hs:∀ a b,Instr.sameNow d (mk a) (mk b)=some (decide (a=b))) (k:κ) :
  ∀ (es:List MapEntry) (L:List (κ×Value)) (i:Nat),es.map (fun e=>(e.key,e.val))=L.map (fun p=>(mk p.1,p.2)) →
   ∃ o,Instr.findNow d (mk k) es i=some o∧o.map (·.2)=zAP L k ∧
    (∀ j v,o=some (j,v)→i≤j∧j - i<L.length∧(L[j - i]?).map (·.1)=some k∧∀ t,t<j - i→(L[t]?).map (·.1)≠some k):=by
 intro es
 induction es with
 | nil =>
  intro L i h
  cases L with
  | nil=>exact ⟨none,rfl,rfl,fun j v h=>qh⟩
  | cons a t=>simp at h
 | cons e es ih =>
  intro L i h
  cases L with
  | nil=>simp at h
  | cons a t =>
   simp only [dT,dU,Prod.mk.injEq] at h;obtain ⟨⟨hk,hv⟩,ht⟩:=h;unfold Instr.findNow;rw [hk,hs]
   by_cases he:k=a.1
   ·refine ⟨some (i,e.val),by simp [he],?_,?_⟩
    ·simp [zAP,he,hv]
    ·intro j v hj
     simp only [dV,Prod.mk.injEq] at hj;obtain ⟨rfl,rfl⟩:=hj;simp [he]
   ·obtain ⟨o,h1,h2,h3⟩:=ih t (i+1) ht
    refine ⟨o,by simpa [he] using h1,?_,?_⟩
    ·rw [h2];simp [zAP,he]
    ·intro j v hj
     obtain ⟨h4,h5,h6,h7⟩:=h3 j v hj;have e1:j - i=(j - (i+1))+1:=za;refine ⟨za,ze,by rw [e1];simpa using h6,fun s hs=>?_⟩
     cases s with
     | zero=>simp;exact fun hh=>he hh.symm
     | succ s=>simpa using h7 s za
section
variable {P:Program} {κ:Type} [DecidableEq κ] {mk:κ→Value} {T K E:TypeId}
theorem zAn (hT:P.underlying T=some (.map K E)) (hK:KeyT P K mk) {z:Value} (hz:∀ w,(zeroValue E).run P w = .ok z w) {w:World} {r:Nat} {f:κ→Option Value} (h:zAq mk w r f) (k:κ) (ok:Bool) :
  (Instr.lookup T (.map (some r)) (mk k) ok).run P w = .ok (if ok then .tuple #[(f k).getD z,.bool (f k).isSome] else (f k).getD z) w:=by
 obtain ⟨es,clk,L,hr,hL,hf⟩:=h;obtain ⟨d,hd,hs⟩:=hK.same;obtain ⟨o,h1,h2,_⟩:=zDa hs k es.toList L 0 hL;have hg:(getObj r).run P w = .ok (.map es clk) w:=qg
 have hfk:(Instr.findKey K (mk k) es.toList).run P w = .ok o w:=by
  simp [Instr.findKey,run_underlying hd,h1]
 rw [hf] at h2
 cases o with
 | none =>
  have:f k=none:=qp;simp [Instr.lookup,run_underlying hT,hg,hK.chk,hfk,hz,this]
 | some p =>
  obtain ⟨i,v⟩:=p;have:f k=some v:=qp;simp [Instr.lookup,run_underlying hT,hg,hK.chk,hfk,this]
theorem chk_string (hK:P.underlying K=some .string) (b:Bool) (a:BA) (w:World) (n:Nat):(Instr.checkKey b (n+1) K (.string a)).run P w = .ok () w:=by
 simp [Instr.checkKey,run_underlying hK]
theorem chk_int (hK:P.underlying K=some (.int .i64)) (b:Bool) (a:Int) (w:World) (n:Nat):(Instr.checkKey b (n+1) K (.int .i64 a)).run P w = .ok () w:=by
 simp [Instr.checkKey,run_underlying hK]
theorem zBc (hK:P.underlying K=some .string):KeyT P K Value.string where
 same:=⟨_,hK,fun a b=>by
  simp only [Instr.sameNow,dV];rw [beq_toListBytes,aA]
  constructor
  ·intro h
   have h':a.toList=b.toList:=zv;rw [ByteArray.toList_eq,ByteArray.toList_eq] at h'
   simpa using ByteArray.ext (Array.toList_inj.1 h')
  ·intro h
   have:a=b:=zv;subst this;simp⟩
 bits a:=by
  simp only [Instr.sameBits];rw [beq_toListBytes];simp
 chk b a w:=chk_string hK b a w 9999
theorem keyT_int (hK:P.underlying K=some (.int .i64)):KeyT P K (fun n:Int=>Value.int .i64 n) where
 same:=⟨_,hK,fun a b=>by simp only [Instr.sameNow,dR,dV];rfl⟩
 bits a:=by simp [Instr.sameBits]
 chk b a w:=chk_int hK b a w 9999
theorem lookE_set {L:List (κ×Value)} {j:Nat} {k:κ} {v:Value} (hj:j<L.length) (hk:(L[j]?).map (·.1)=some k) (hmin:∀ t,t<j→(L[t]?).map (·.1)≠some k) :
  ∀ k',zAP (L.modify j fun _=>(k,v)) k'=if k'=k then some v else zAP L k':=by
 induction L generalizing j with
 | nil=>simp at hj
 | cons a t ih =>
  intro k'
  cases j with
  | zero =>
   have ha:a.1=k:=by simpa using hk
   by_cases h:k'=k
   ·subst h;simp [zAP]
   ·simp [zAP,h,ha]
  | succ j =>
   have ha:a.1≠k:=by
    have:=hmin 0 za
    simpa using this
   have:=ih (j:=j) yf (by simpa using hk) (fun s hs=>by simpa using hmin (s+1) za) k'
   by_cases h:k'=a.1
   ·subst h;simp [zAP,ha]
   ·simp only [List.modify_succ_cons]
    unfold zAP at this ⊢;rw [List.find?_cons_of_neg zv,List.find?_cons_of_neg zv];exact this
theorem lookE_push {L:List (κ×Value)} {k:κ} {v:Value} (h:zAP L k=none):∀ k',zAP (L++[(k,v)]) k'=if k'=k then some v else zAP L k':=by
 intro k';unfold zAP at *;rw [List.find?_append]
 by_cases hk:k'=k
 ·subst hk
  have:L.find? (fun e=>decide (k'=e.1))=none:=zv
  simp [this]
 ·simp only [List.find?_cons,hk,decide_false,List.find?_nil,dO]
  cases L.find? (fun e=>decide (k'=e.1))<;>rfl
theorem zAC (hT:P.underlying T=some (.map K E)) (hK:KeyT P K mk) {w:World} {r:Nat} {f:κ→Option Value} (h:zAq mk w r f) (k:κ) (v:Value) :
  ∃ w',(Instr.mapUpdate T (.map (some r)) (mk k) v).run P w = .ok () w'∧zAq mk w' r (fun k'=>if k'=k then some v else f k')∧w.grownBy w' (some r)∧w'.heap.size=w.heap.size:=by
 obtain ⟨es,clk,L,hr,hL,hf⟩:=h;have hrl:r<w.heap.size:=(Array.getElem?_eq_some_iff.1 hr).1;obtain ⟨d,hd,hs⟩:=hK.same;obtain ⟨o,h1,h2,h3⟩:=zDa hs k es.toList L 0 hL;have hg:(getObj r).run P w = .ok (.map es clk) w:=qg;have hset:∀ (es':Array MapEntry) (c':Nat),(setObj r (.map es' c')).run P w = .ok () { w with heap:=w.heap.setIfInBounds r (.map es' c') }:=fun es' c'=>by simp [setObj,Sem.run,hr]
 have hfk:(Instr.findKey K (mk k) es.toList).run P w = .ok o w:=by
  simp [Instr.findKey,run_underlying hd,h1]
 have hgrow:∀ (es':Array MapEntry) (c':Nat),w.grownBy { w with heap:=w.heap.setIfInBounds r (.map es' c') } (some r):=fun es' c' =>
  ⟨rfl,rfl,rfl,zd,fun i hi hne=>by simp only [Array.getElem?_setIfInBounds];rw [aD (fun e=>hne (by rw [e]))]⟩
 have hget:∀ (es':Array MapEntry) (c':Nat),({ w with heap:=w.heap.setIfInBounds r (.map es' c') }:World).heap[r]?=some (.map es' c'):=fun es' c'=>by
  simp [hrl]
 rw [hf] at h2;have hlen:es.size=L.length:=yn
 cases o with
 | none =>
  have hn:f k=none:=qp;refine ⟨_,?_,⟨_,_,L++[(k,v)],hget (es.push { key:=mk k,val:=v,born:=clk }) (clk+1),?_,?_⟩,hgrow _ _,zd⟩
  ·simp [Instr.mapUpdate,run_underlying hT,hg,hK.chk,hfk,hset]
  ·simp [hL]
  ·intro k'
   rw [lookE_push (by rw [hf];exact hn),hf]
 | some p =>
  obtain ⟨i,v0⟩:=p;obtain ⟨_,h5,h6,h7⟩:=h3 i v0 rfl;simp only [Nat.sub_zero] at h5 h6 h7;have hi:i<es.size:=za
  have hkey:es[i].key=mk k:=by
   have e1:(es.toList.map fun e=>(e.key,e.val))[i]?=(L.map fun p=>(mk p.1,p.2))[i]?:=by rw [hL]
   rw [List.getElem?_map,List.getElem?_map,List.getElem?_eq_getElem h5,List.getElem?_eq_getElem yi] at e1;rw [List.getElem?_eq_getElem h5] at h6;simp only [dX,dV,Prod.mk.injEq] at e1 h6;rw [←h6];simpa using e1.1
  have hstay:∀ x,(Instr.keyThatStays (mk k) (mk k)).run P x = .ok (mk k) x:=fun x=>by
   simp [Instr.keyThatStays,hK.bits]
  refine ⟨_,?_,⟨_,_,L.modify i fun _=>(k,v),hget (es.modify i fun e=>{ e with key:=mk k,val:=v }) clk,?_,?_⟩,hgrow _ _,zd⟩
  ·simp [Instr.mapUpdate,run_underlying hT,hg,hK.chk,hfk,hi,hkey,hstay,hset]
  ·apply List.ext_getElem?
   intro n;have e1:(es.toList.map fun e=>(e.key,e.val))[n]?=(L.map fun p=>(mk p.1,p.2))[n]?:=by rw [hL]
   rw [List.getElem?_map,List.getElem?_map] at e1;rw [List.getElem?_map,List.getElem?_map,List.getElem?_modify,Array.toList_modify,List.getElem?_modify]
   by_cases hn:i=n
   ·subst hn
    rw [List.getElem?_eq_getElem h5,List.getElem?_eq_getElem yi];simp
   ·simp only [hn,dO]
    cases hx:es.toList[n]?<;>cases hy:L[n]?<;>simp_all
  ·intro k'
   rw [lookE_set h5 h6 h7,hf]
end
end Dw
