/- Parts of the proof, joined: Package right: equal says whether two deeds are equal (printed by gen_. -/
import Derived.Test.YtieoifkdobcpiaaGreatDoorSm09
import Derived.Test.YtieoifkdobcpiaaGreatDoorSm10
import Derived.Shelf.GgSortFunc.Compose
set_option maxRecDepth 100000
set_option maxHeartbeats 8000000
namespace Go.Proofs.YtieoifkdobcpiaaGreatDoor
open Go.RowKit Dw
end Go.Proofs.YtieoifkdobcpiaaGreatDoor
namespace Dw
theorem slt_list (a b:BA):slt a b=decide (a.toList<b.toList):=by unfold slt;rw [zCC]
end Dw
namespace Go.Proofs.YtieoifkdobcpiaaGreatDoor
open Go.Shelf Go.RowKit Go.Lib Go.Sort Dw
end Go.Proofs.YtieoifkdobcpiaaGreatDoor
namespace Go.Proofs.YtieoifkdobcpiaaGreatDoor
open Go.RowKit Dw
def GivesPos (M:List Bool) (w:World) (e:Ending) (w':World):Prop:=∃ z:Int,e = .returned (.int .i64 z)∧decide ((0:Int)≤z)=M.any id∧w=w'
def IdxRelB (w:World) (M:List Bool) (m:Nat) (i:Value) (wr:World):Prop :=
 wr=w∧∃ k:Nat,k+m=M.length∧i = .int .i64 k∧(M.take k).any id=false
theorem indexB_c (A:Option Addr) (c:Nat) (M:List Bool) (w:World) (hn:M.length≤1000000) (h:Rd1 Value.bool w A M) :
  Calls Tryz.prog 278 #[.slice A M.length c,.bool true] w (GivesPos M w):=by
 go_enter Tryz.func278,Tryz.ntmps278
 go_wp2
 go_loopg [8] M.length (IdxRelB w M)
 case atStart=>exact ⟨rfl,0,za,rfl,rfl⟩
 case round =>
  obtain ⟨hw,k,hk,rfl,hpre⟩:=hrel;subst hw;have HK:=zq hk;have HP:=zq hpre;have hk1:k≤M.length:=za;clear hk hpre
  by_cases hlt:k<M.length
  ·obtain ⟨b,o,rfl,hb,hc⟩:=h.at_ za
   have hc0:=hc k hlt;clear hc;have HE:Hid (M.take (k+1)=M.take k++[M[k]]):=bM hlt;have HM:Hid (M[k]=true→M.any id=true):=fun e=>List.any_eq_true.2 ⟨M[k],aJ hlt,e⟩
   obtain ⟨x,hx⟩:∃ x,M[k]=x:=⟨_,rfl⟩;rw [hx] at hc0 HE HM;clear hx
   cases x with
   | true =>
    go_wp2;go_ret
    exact ⟨(k:Int),rfl,by rw [HM.o trivial];exact cW za,rfl⟩
   | false =>
    go_wp2
    go_roundg (gk - 1)
    case measure=>have:=HK.o;omega
    case rel=>exact ⟨rfl,k+1,zh,zi,by rw [HE.o,eK,HP.o];rfl⟩
  ·have HA:Hid (M.any id=false):=by
    show _=_
    have:=HP.o
    rwa [cY za] at this
   go_wp2;go_ret
   exact ⟨-1,rfl,by rw [HA.o];rfl,rfl⟩
theorem some_c (A:Option Addr) (c:Nat) (M:List Bool) (w:World) (hn:M.length≤1000000) (h:Rd1 Value.bool w A M) :
  Calls Tryz.prog 254 #[.slice A M.length c] w (zAB (.bool (M.any id)) w):=by
 have hC:∀ W,Rd1 Value.bool W A M→Calls Tryz.prog 272 #[.slice A M.length c,.bool true] W (zAB (.bool (M.any id)) W):=fun W hW=>by
  go_enter Tryz.func272,Tryz.ntmps272
  go_wp2_with fail
  with_reducible refine (indexB_c A c M W hn hW).mono ?_
  rintro e w' ⟨z,rfl,hz,rfl⟩;have HZ:=zq hz;clear hz;go_wp2;go_ret
  exact zAB.mk (zAs HZ.o) rfl
 have HC:=zq (hC w h);clear hC
 go_enter Tryz.func254,Tryz.ntmps254
 go_wp2_with fail
 with_reducible refine HC.o.mono ?_
 rintro e w' ⟨rfl,rfl⟩;go_wp2;go_ret
 exact zAB.mk rfl rfl
def UsesRel (w:World) (us l:List BA) (m:Nat) (i:Value) (wr:World):Prop :=
 (∃ n,wr=w.drewN n)∧∃ k:Nat,k+m=l.length∧i = .int .i64 k∧∀ j,j<k→zBr us l j=none
theorem useF_hit {us l:List BA} {k:Nat} {f:Int} (hk:k<l.length) (hp:∀ j,j<k→zBr us l j=none) (h:zBr us l k=some f):useF us l=f:=by
 unfold useF;rw [zAU hk hp h]
theorem useF_none {us l:List BA} (hp:∀ j,j<l.length→zBr us l j=none):useF us l=0:=by
 unfold useF;rw [zBf hp]
theorem zCP {l:List BA} {i:Nat} (h:i<l.length):usAt l i=l[i]:=by simp [usAt,List.getD,h]
theorem checkUses_c (A A2:Option Addr) (c c2:Nat) (us l:List BA) (w:World) (hu:us.length≤1000000) (hn:l.length≤140737488355328) (h:Strs w A us) (h2:Strs w A2 l) :
  Calls Tryz.prog 255 #[.slice A us.length c,.slice A2 l.length c2] w (zBs (.int .i64 (useF us l)) w):=by
 have HC:=zq (fun W s (x:Strs W A us)=>containsS_c A c us s W hu x)
 go_enter Tryz.func255,Tryz.ntmps255
 go_wp2
 go_loopg [9] l.length (UsesRel w us l)
 case atStart=>exact ⟨⟨0,rfl⟩,0,za,rfl,fun j hj=>absurd hj za⟩
 case round =>
  obtain ⟨⟨nd,hw⟩,k,hkm,rfl,hpre⟩:=hrel;subst hw;have HM:=zq hkm;have HP:=zq hpre;clear hkm hpre
  by_cases hlt:k<l.length
  ·obtain ⟨b,o,hA,hb,hc⟩:=h2.at_ za
   subst hA;have hc0:=hc k hlt;have HCL:=zq hc;clear hc;have e0:usAt l k=l[k]:=zCP hlt
   go_wp2_with fail
   with_reducible refine (HC.o _ _ (h.drewN nd)).mono ?_
   rintro e w' ⟨rfl,rfl⟩
   cases hm:zDt us l[k] with
   | false =>
    have HF:Hid (useF us l=5):=useF_hit hlt HP.o (by unfold zBr;rw [e0,aE hm])
    clear hm e0;go_wp2;go_ret
    exact zBs.mk (zAx HF.o.symm) ⟨nd,rfl⟩
   | true =>
    rcases bR k with h0 | h0
    ·subst h0
     have HF:Hid (zBr us l 0=none):=by
      show _=_
      unfold zBr;rw [e0,aC (by rw [hm];simp),aC za]
     clear hm e0;go_wp2
     go_roundg (gk - 1)
     case measure=>have:=HM.o;omega
     case rel=>exact ⟨⟨nd,rfl⟩,1,yi,zi,fun j hj=>by
      have e:j=0:=za;subst e;exact HF.o⟩
    ·have hcp:=HCL.o (k - 1) za
     have hd:decide ((0:Int)<(k:Int))=true:=zg;have e1:usAt l (k - 1)=l[k - 1]'(by omega):=zCP za
     cases hle:sle l[k] (l[k - 1]'(by omega)) with
     | true =>
      have HF:Hid (useF us l=8):=useF_hit hlt HP.o (by unfold zBr;rw [e0,e1,aC (by rw [hm];simp),aE ⟨h0,hle⟩])
      have hleb:=hle;unfold sle at hleb;clear hm e0 e1 hle;go_wp2;go_ret
      exact zBs.mk (zAx HF.o.symm) ⟨nd,rfl⟩
     | false =>
      have HF:Hid (zBr us l k=none):=by
       show _=_
       unfold zBr;rw [e0,e1,aC (by rw [hm];simp),aC (by rintro ⟨_,h9⟩;rw [hle] at h9;cases h9)]
      have hleb:=hle;unfold sle at hleb;clear hm e0 e1 hle;go_wp2
      go_roundg (gk - 1)
      case measure=>have:=HM.o;omega
      case rel =>
       refine ⟨⟨nd,rfl⟩,k+1,yi,zi,fun j hj=>?_⟩
       rcases aU j k with h1 | h1
       ·exact HP.o j h1
       ·have e:j=k:=by omega
        subst e;exact HF.o
  ·have HF:Hid (useF us l=0):=useF_none fun j hj=>HP.o j za
   go_wp2;go_ret
   exact zBs.mk (zAx HF.o.symm) ⟨nd,rfl⟩
def ptIs (fr:BA) (s:Sh):Bool:=decide (s.pt=fr)
def ShIx (w:World) (l:List Sh) (fr:BA) (m:Nat) (i:Value) (wr:World):Prop :=
 Below w.heap.size w wr∧∃ k:Nat,k+m=l.length∧i = .int .i64 k∧(l.take k).any (ptIs fr)=false
def GivesPosB (t:Bool) (w:World) (e:Ending) (w':World):Prop:=∃ z:Int,e = .returned (.int .i64 z)∧decide ((0:Int)≤z)=t∧Below w.heap.size w w'
theorem ptIs_c (s:Sh) (p:Nat) (fr:BA) (w:World) (hp:w.cell? ⟨p,4,none⟩=some (.string fr)) :
  Calls Tryz.prog 257 #[.agg #[.string s.pt,.string s.nu,.string s.de],.pointer (some ⟨p,0,none⟩)] w (zAe (.bool (ptIs fr s)) w):=by
 have hpl:p<w.heap.size:=World.block_lt_of_cell? w _ hp
 by_cases h:s.pt=fr
 ·have hb:=zAn h
  have hv:ptIs fr s=true:=by unfold ptIs;exact cW h
  rw [hv];have HV:=zq hv;clear hv h
  go_enter Tryz.func257,Tryz.ntmps257
  go_wp2;go_ret
  exact zAe.mk rfl ((aS w.heap.size w).alloc (aB _) _)
 ·have hb:=zAm h
  have hv:ptIs fr s=false:=by unfold ptIs;exact cX h
  rw [hv];have HV:=zq hv;clear hv h
  go_enter Tryz.func257,Tryz.ntmps257
  go_wp2;go_ret
  exact zAe.mk rfl ((aS w.heap.size w).alloc (aB _) _)
theorem indexSh_c (A:Option Addr) (c p:Nat) (l:List Sh) (fr:BA) (w:World) (hn:l.length≤1000000) (h:Shs w A l) (hp:w.cell? ⟨p,4,none⟩=some (.string fr)) :
  Calls Tryz.prog 273 #[.slice A l.length c,.func (.func 257) #[] #[.pointer (some ⟨p,0,none⟩)]] w (GivesPosB (l.any (ptIs fr)) w):=by
 have hpl:p<w.heap.size:=World.block_lt_of_cell? w _ hp
 go_enter Tryz.func273,Tryz.ntmps273
 go_wp2
 go_loopg [8] l.length (ShIx w l fr)
 case atStart=>exact ⟨aS _ _,0,za,rfl,rfl⟩
 case round =>
  obtain ⟨hbw,k,hk,rfl,hpre⟩:=hrel;have HK:=zq hk;have HP:=zq hpre;have HBW:=zq hbw;clear hk hpre hbw
  by_cases hlt:k<l.length
  ·obtain ⟨b,o,hA,hb,hc⟩:=(h.below HBW.o).at_ za
   subst hA;obtain ⟨c0,c1,c2⟩:=hc k hlt;clear hc;have HE:Hid (l.take (k+1)=l.take k++[l[k]]):=bM hlt;have HM:Hid (ptIs fr l[k]=true→l.any (ptIs fr)=true):=fun e=>List.any_eq_true.2 ⟨l[k],aJ hlt,e⟩
   have hcall:=ptIs_c l[k] p fr wr ((HBW.o.cell (p:=⟨p,4,none⟩) hpl).trans hp);have HCALL:=zq hcall;clear hcall
   go_wp2_with fail
   with_reducible refine HCALL.o.mono ?_
   rintro e w2 ⟨rfl,hb2⟩;have HB2:=zq (zAa HBW.o hb2);clear hb2 HCALL c0 c1 c2
   cases hx:ptIs fr l[k] with
   | true =>
    have HM2:=zq (HM.o hx);clear hx;go_wp2;go_ret
    exact ⟨(k:Int),rfl,by rw [HM2.o];exact cW za,HB2.o⟩
   | false =>
    have HX:=zq hx;clear hx;go_wp2
    go_roundg (gk - 1)
    case measure=>have:=HK.o;omega
    case rel=>exact ⟨HB2.o,k+1,zh,zi,by rw [HE.o,eK,HP.o];simp [HX.o]⟩
  ·have HA:Hid (l.any (ptIs fr)=false):=by
    show _=_
    have:=HP.o
    rwa [cY za] at this
   go_wp2;go_ret
   exact ⟨-1,rfl,by rw [HA.o];rfl,HBW.o⟩
theorem containsSh_c (A:Option Addr) (c p:Nat) (l:List Sh) (fr:BA) (w:World) (hn:l.length≤1000000) (h:Shs w A l) (hp:w.cell? ⟨p,4,none⟩=some (.string fr)) :
  Calls Tryz.prog 256 #[.slice A l.length c,.func (.func 257) #[] #[.pointer (some ⟨p,0,none⟩)]] w (zAe (.bool (l.any (ptIs fr))) w):=by
 go_enter Tryz.func256,Tryz.ntmps256
 go_wp2_with fail
 refine (indexSh_c A c p l fr w hn h hp).mono ?_
 rintro e w1 ⟨z,rfl,hz,hb⟩;have HZ:=zq hz;clear hz;go_wp2;go_ret
 exact zAe.mk (zAs HZ.o) hb
def cutset:BA:=⟨#[97,98,99,100,101,102,103,104,105,106,107,108,109,110,111,112,113,114,115,116,117,118,119,120,121,122,48,49,50,51,52,53,54,55,56,57,45]⟩
theorem cut_okB (c:UInt8):cutset.data.toList.contains c=okB c:=by
 have h:∀ n:Nat,n<256→cutset.data.toList.contains (UInt8.ofNat n)=okB (UInt8.ofNat n):=qi;have:=h c.toNat c.toNat_lt
 simpa using this
theorem zEh {p:UInt8→Bool}:∀ {l:List UInt8} {b:UInt8},b∈l→p b=false→b∈l.dropWhile p
 | [],_,h,_=>by simp at h
 | a::t,b,h,hb=>by
  rw [List.dropWhile_cons]
  cases ha:p a with
  | false=>simpa using h
  | true =>
   simp only [if_true]
   rcases List.mem_cons.1 h with rfl | h
   ·rw [ha] at hb;cases hb
   ·exact zEh h hb
theorem dropWhile_all {p:UInt8→Bool}:∀ {l:List UInt8},l.all p=true→l.dropWhile p=[]
 | [],_=>rfl
 | a::t,h=>by
  rw [List.all_cons,dT] at h;rw [List.dropWhile_cons,h.1]
  simpa using dropWhile_all h.2
theorem trim_empty (l:List UInt8):(Lib.trimS l cutset.data.toList).isEmpty=l.all okB:=by
 have hp:(fun b=>cutset.data.toList.contains b)=okB:=funext cut_okB
 cases ha:l.all okB with
 | true =>
  have:Lib.trimS l cutset.data.toList=[]:=by
   unfold Lib.trimS Lib.trimLeftS Lib.trimRightS;rw [hp,dropWhile_all (l:=l.reverse) (by rw [List.all_reverse];exact ha)]
   rfl
  rw [this];rfl
 | false =>
  obtain ⟨b,hb,hn⟩:=List.all_eq_false.1 ha;have hn':okB b=false:=by simpa using hn
  have:b∈Lib.trimS l cutset.data.toList:=by
   unfold Lib.trimS Lib.trimLeftS Lib.trimRightS;rw [hp];exact zEh (List.mem_reverse.2 (zEh (List.mem_reverse.2 hb) hn')) hn'
  cases hs:Lib.trimS l cutset.data.toList with
  | nil=>rw [hs] at this;simp at this
  | cons a t=>rfl
theorem trimS_c (s:BA) (w:World) (hs:s.size≤9223372036854775807) :
  Calls Tryz.prog 150 #[.string s,.string cutset] w (zAe (.string ⟨(Lib.trimS s.data.toList cutset.data.toList).toArray⟩) w) :=
 Any.strings_Trim_laid Tryz.lays160 zc s cutset w hs zd (ascii_of_all qi)
theorem soundIsName_c (s:BA) (w:World) (hs:s.size≤9223372036854775807) :
  Calls Tryz.prog 107 #[.string s] w (zAe (.bool (zBe s)) w):=by
 generalize hres:zBe s=res;have HR:=zq hres;clear hres
 by_cases h1:1≤s.size
 ·by_cases h2:s.size≤40
  ·by_cases h3:97≤(s[0]'h1).toNat
   ·by_cases h4:(s[0]'h1).toNat≤122
    ·have hall:(⟨(Lib.trimS s.data.toList cutset.data.toList).toArray⟩:BA).toList.isEmpty=res:=by
      rw [←HR.o,isNm_all h1 h2 h3 h4,ByteArray.toList_mk,trim_empty]
     have hcon:=trimS_c s w hs;generalize (⟨(Lib.trimS s.data.toList cutset.data.toList).toArray⟩:BA)=r at hall hcon;have HC:=zq hcon;have HA:=zq hall;clear hcon hall
     go_enter Tryz.func107,Tryz.ntmps107
     go_wp2_with fail
     refine HC.o.mono ?_
     rintro e w' ⟨rfl,hB⟩;go_wp2;go_ret
     exact zAe.mk (zAs HA.o) hB
    ·have hres:res=false:=by
      rw [←HR.o];unfold zBe;rw [zDC s h1];simp [h4]
     have HS:=zq hres;clear hres
     go_enter Tryz.func107,Tryz.ntmps107
     go_wp2_with fail
     go_ret
     exact zAe.mk (zAs HS.o.symm) (aS _ _)
   ·have hres:res=false:=by
     rw [←HR.o];unfold zBe;rw [zDC s h1];simp [h3]
    have HS:=zq hres;clear hres
    go_enter Tryz.func107,Tryz.ntmps107
    go_wp2_with fail
    go_ret
    exact zAe.mk (zAs HS.o.symm) (aS _ _)
  ·have hres:res=false:=by
    rw [←HR.o];unfold zBe;simp [h2]
   have HS:=zq hres;clear hres
   go_enter Tryz.func107,Tryz.ntmps107
   go_wp2_with fail
   go_ret
   exact zAe.mk (zAs HS.o.symm) (aS _ _)
 ·have hres:res=false:=by
   rw [←HR.o];unfold zBe;simp [h1]
  have HS:=zq hres;clear hres
  go_enter Tryz.func107,Tryz.ntmps107
  go_wp2_with fail
  go_ret
  exact zAe.mk (zAs HS.o.symm) (aS _ _)
theorem zCj (s:BA) (w:World) (hs:s.size≤9223372036854775807) :
  Calls Tryz.prog 60 #[.string s] w (zAe (.bool (zBe s)) w):=by
 go_enter Tryz.func60,Tryz.ntmps60
 go_wp2_with fail
 refine (soundIsName_c s w hs).mono ?_
 rintro e w' ⟨rfl,hB⟩;go_wp2;go_ret
 exact zAe.mk rfl hB
theorem Bx.set {w:World} {g:Nat} {cs:Array Value} {T:TypeId} (h:Bx w g cs T) (i:Nat) (v:Value):Bx (w.setCell ⟨g,i,none⟩ v) g (cs.setIfInBounds i v) T:=by
 have h':w.heap[g]?=some (.cells cs T (0,0)):=h
 show (w.setCell ⟨g,i,none⟩ v).heap[g]?=_
 simp [World.setCell,Array.getElem?_modify,h']
theorem Bx.far {w:World} {g:Nat} {cs:Array Value} {T:TypeId} (h:Bx w g cs T) {p:Addr} (hp:g≠p.block) (v:Value):Bx (w.setCell p v) g cs T:=(cR w p v g hp).trans h
abbrev rdC (ng:Bool) (A:Option Addr) (c n:Nat) (A2:Option Addr) (c2 d:Nat):Array Value:=#[.bool ng,.slice A (zAc B32 n).length c,.slice A2 (zAc B32 d).length c2]
structure ShSt (w:World) (d:De) (g:Nat) (A:Option Addr) (c:Nat) (A2:Option Addr) (c2:Nat) (pr:Nat×Nat) (W:World):Prop where
 bel:Below w.heap.size w W
 box:Bx W w.heap.size (deC d) 52
 sum:Bx W g (rdC false A c pr.1 A2 c2 pr.2) 89
 n1:Nt W A c pr.1
 n2:Nt W A2 c2 pr.2
 gt:w.heap.size<g
section
variable {w W W':World} {d:De} {g:Nat} {A A2:Option Addr} {c c2:Nat} {pr:Nat×Nat}
theorem ShSt.below (h:ShSt w d g A c A2 c2 pr W) (hb:Below W.heap.size W W'):ShSt w d g A c A2 c2 pr W' :=
 ⟨zAa h.bel hb,h.box.below hb,h.sum.below hb,h.n1.below hb,h.n2.below hb,h.gt⟩
theorem ShSt.drewN (h:ShSt w d g A c A2 c2 pr W) (n:Nat):ShSt w d g A c A2 c2 pr (W.drewN n) :=
 ⟨zAd h.bel n,h.box,h.sum,h.n1.drewN n,h.n2.drewN n,h.gt⟩
theorem ShSt.alloc (h:ShSt w d g A c A2 c2 pr W) (o:Obj):ShSt w d g A c A2 c2 pr (W.alloc o) :=
 h.below ((aS _ _).alloc (aB _) o)
theorem ShSt.store (h:ShSt w d g A c A2 c2 pr W) {A' A2':Option Addr} {c' c2':Nat} {pr':Nat×Nat} (h1:Nt W A' c' pr'.1) (h2:Nt W A2' c2' pr'.2) :
  ShSt w d g A' c' A2' c2' pr' (((W.setCell ⟨g,0,none⟩ (.bool false)).setCell ⟨g,1,none⟩ (.slice A' (zAc B32 pr'.1).length c')).setCell ⟨g,2,none⟩ (.slice A2' (zAc B32 pr'.2).length c2')):=by
 have hg:=h.gt;obtain ⟨k0,k1,k2⟩:=h.sum.t;refine ⟨((h.bel.setCell zg _).setCell zg _).setCell zg _,((h.box.far zg _).far zg _).far zg _,?_,h1.set3 k0 k1 k2 (nb_ _) (ns_ _ _ _) (ns_ _ _ _) _ _ _,h2.set3 k0 k1 k2 (nb_ _) (ns_ _ _ _) (ns_ _ _ _) _ _ _,hg⟩
 exact ((h.sum.set 0 _).set 1 _).set 2 _
theorem ShSt.shs (h:ShSt w d g A c A2 c2 pr W) (hd:DeOk w d):Shs W d.shA d.sh:=hd.shs.below h.bel
end
theorem sumP_zero (l:List Sh):zCS l 0=(0,1):=rfl
theorem sumP_succ {l:List Sh} {k:Nat} (h:k<l.length):zCS l (k+1)=addP (zCS l k) (zAz (zAY l[k].nu),zAz l[k].de):=by
 unfold zCS;rw [bM h,bU]
 rfl
def ShLen (p:Nat×Nat) (k:Nat):Prop:=(zAc B32 p.1).length≤4001*k+1∧(zAc B32 p.2).length≤4001*k+1∧0<p.2
theorem shLen_succ {p:Nat×Nat} {k n d:Nat} (h:ShLen p k) (hn:(zAc B32 n).length≤2000) (hd:(zAc B32 d).length≤2000) (hd0:0<d):ShLen (addP p (n,d)) (k+1):=by
 obtain ⟨h1,h2,h3⟩:=h;have e1:=zDn p.1 d;have e2:=zDn n p.2;have e3:=len_add (p.1*d) (n*p.2);have e4:=zDn p.2 d;have hp:0<p.2*d:=dN h3 hd0;have f1:=zAt zAu (dM (p.1*d+n*p.2) (Nat.gcd (p.1*d+n*p.2) (p.2*d)));have f2:=zAt zAu (dM (p.2*d) (Nat.gcd (p.1*d+n*p.2) (p.2*d)));refine ⟨?_,?_,Nat.div_pos (Nat.le_of_dvd hp (Nat.gcd_dvd_right _ _)) (dZ _ hp)⟩
 ·show (zAc B32 ((p.1*d+n*p.2) / Nat.gcd (p.1*d+n*p.2) (p.2*d))).length≤_
  omega
 ·show (zAc B32 (p.2*d / Nat.gcd (p.1*d+n*p.2) (p.2*d))).length≤_
  omega
theorem zDp {l:List Sh} {i:Nat} (h:i<l.length):ptAt l i=l[i].pt:=by simp [ptAt,List.getD,h]
theorem shD_of {l:List Sh} {i:Nat} (h:i<l.length):l.getD i default=l[i]:=by simp [List.getD,h]
theorem zCe {nu de:BA} (h:zDq nu de=0):zCR (zAY nu)=true∧zCR de=true∧de≠zCH∧(zAY nu).size≤2000∧de.size≤2000:=by
 unfold zDq at h
 split at h
 ·cases h
 ·next h1 =>
  split at h
  ·cases h
  ·next h2 =>
   refine ⟨?_,?_,?_,za,za⟩
   ·cases hq:zCR (zAY nu) with
    | true=>rfl
    | false=>exact absurd (.inl hq) h1
   ·cases hq:zCR de with
    | true=>rfl
    | false=>exact absurd (.inr (.inr (.inl hq))) h1
   ·exact fun e=>h1 (.inr (.inr (.inr e)))
theorem absN_size (s:BA):(zAY s).size≤s.size:=by
 show (absL s).toArray.size≤_
 unfold absL;have e:s.data.toList.length=s.size:=Array.length_toList
 split
 ·rw [List.size_toArray,List.length_tail];omega
 ·rw [List.size_toArray];omega
theorem posB_sgn (nu:BA):decide (sgnI (sgB nu) (zAz (zAY nu))≤0) = !posB nu:=by
 unfold sgnI sgB posB
 cases zDu nu<;>by_cases h:zAz (zAY nu)=0<;>simp [h]
theorem posB_sg {nu:BA} (h:posB nu=true):sgB nu=false:=by
 unfold posB at h;unfold sgB
 cases hn:zDu nu<;>simp_all
def ShRel (w:World) (d:De) (g:Nat) (m:Nat) (i:Value) (wr:World):Prop :=
 ∃ A c A2 c2 k,ShSt w d g A c A2 c2 (zCS d.sh k) wr∧ShLen (zCS d.sh k) k∧k+m=d.sh.length∧i = .int .i64 (k:Nat)∧∀ j,j<k→zAR d.sh j=none
def zCM (d:De):Int:=if shF d.kd d.sh≠0 then shF d.kd d.sh else if d.kd=5∧(d.sh.any fun s=>decide (s.pt=d.fr))=true then 12 else 0
theorem whole0_c (w:World):Calls Tryz.prog 34 #[.int .i64 0] w (zCB false 0 1 w):=Whole_c 0 w za
theorem whole1_c (w:World):Calls Tryz.prog 34 #[.int .i64 1] w (zCB false 1 1 w):=Whole_c 1 w za
def shEnd (d:De):Int:=if (zCS d.sh d.sh.length).2<(zCS d.sh d.sh.length).1∨(d.kd=5∧(zCS d.sh d.sh.length).1≠(zCS d.sh d.sh.length).2) then 1 else if d.kd=5∧(d.sh.any (ptIs d.fr))=true then 12 else 0
def shRest (s:Sh):Option Int:=if zDq s.nu s.de≠0 then some (zDq s.nu s.de) else if posB s.nu=false then some 1 else none
theorem shFault_nz {l:List Sh} {k:Nat} {f:Int} (h:zAR l k=some f):f≠0:=by
 unfold zAR at h
 split at h
 ·cases h;decide
 ·split at h
  ·cases h;decide
  ·split at h
   ·next hr=>cases h;exact hr
   ·split at h
    ·cases h;decide
    ·cases h
theorem shFull_hit {d:De} {k:Nat} {f:Int} (hne:d.sh≠[]) (h20:¬20<d.sh.length) (hk:k<d.sh.length) (hp:∀ j,j<k→zAR d.sh j=none) (hf:zAR d.sh k=some f):zCM d=f:=by
 have e:shF d.kd d.sh=f:=by
  unfold shF;rw [aC hne,aC h20,zAU hk hp hf]
 unfold zCM;rw [e,aE (shFault_nz hf)]
theorem shFull_none {d:De} (hne:d.sh≠[]) (h20:¬20<d.sh.length) (hp:∀ j,j<d.sh.length→zAR d.sh j=none):zCM d=shEnd d:=by
 have e:shF d.kd d.sh=if (zCS d.sh d.sh.length).2<(zCS d.sh d.sh.length).1∨(d.kd=5∧(zCS d.sh d.sh.length).1≠(zCS d.sh d.sh.length).2) then 1 else 0:=by
  unfold shF;rw [aC hne,aC h20,zBf hp]
 unfold zCM shEnd;rw [e]
 by_cases h:(zCS d.sh d.sh.length).2<(zCS d.sh d.sh.length).1∨(d.kd=5∧(zCS d.sh d.sh.length).1≠(zCS d.sh d.sh.length).2)
 ·rw [aE h,aE h];rfl
 ·rw [aC h,aC h];rfl
theorem checkShares_c (d:De) (w:World) (hd:DeOk w d):Calls Tryz.prog 210 #[deV d] w (zAe (.int .i64 (zCM d)) w):=by
 generalize hres:zCM d=res;have HR:=zq hres;clear hres;have HD:=zq hd;clear hd;have HX:Hid (Bx (w.alloc (.cells (deC d) 52)) w.heap.size (deC d) 52):=Bx.new _ _ _;have HB:Hid (Below w.heap.size w (w.alloc (.cells (deC d) 52))):=(aS w.heap.size w).alloc (aB _) _;obtain ⟨W,hW⟩:∃ W,W=w.alloc (.cells (deC d) 52):=⟨_,rfl⟩;rw [←hW] at HX HB;have hsz:w.heap.size<W.heap.size:=HX.o.lt
 go_enter Tryz.func210,Tryz.ntmps210
 by_cases h0:d.sh.length=0
 ·have HS:Hid (res=9):=by
   show _=_
   rw [←HR.o];unfold zCM shF;have:d.sh=[]:=List.length_eq_zero_iff.1 h0;simp [this]
  go_wp2;go_ret
  exact zAe.mk (zAx HS.o.symm) (hW▸HB.o)
 ·by_cases h20:20<d.sh.length
  ·have HS:Hid (res=2):=by
    show _=_
    rw [←HR.o];unfold zCM shF;have:d.sh≠[]:=fun e=>h0 (by rw [e];rfl)
    simp [this,h20]
   go_wp2;go_ret
   exact zAe.mk (zAx HS.o.symm) (hW▸HB.o)
  ·have hne:d.sh≠[]:=fun e=>h0 (by rw [e];rfl)
   have HH:Hid (∀ k f,k<d.sh.length→(∀ j,j<k→zAR d.sh j=none)→zAR d.sh k=some f→res=f):=by
    intro k f hk hp hf;rw [←HR.o];exact shFull_hit hne h20 hk hp hf
   have HN:Hid ((∀ j,j<d.sh.length→zAR d.sh j=none)→shEnd d=res):=by
    intro hp;rw [←HR.o];exact (shFull_none hne h20 hp).symm
   have x14:=HX.o.c 14 rfl
   go_wp2_with fail
   rw [←hW];with_reducible refine (whole0_c W).mono ?_
   rintro e w1 ⟨A1,c1,A2,c2,rfl,hn1,hn2,hb1⟩;have HX1:=zq (HX.o.below hb1);have HB1:=zq (zAa HB.o hb1);have hs1:=hb1.size
   have HST:Hid (ShSt w d w1.heap.size A1 c1 A2 c2 (zCS d.sh 0) (w1.alloc (.cells (rdC false A1 c1 0 A2 c2 1) 89))) :=
    ⟨HB1.o.alloc za _,HX1.o.alloc _,Bx.new _ _ _,hn1.alloc _,hn2.alloc _,za⟩
   have y14:=HX1.o.c 14 rfl;have hlt1:=HX1.o.lt;clear hb1 x14;go_wp2;obtain ⟨b,o,hA,hb0,hc0⟩:=HD.o.shs.at_ za;have HC0:=zq hc0;clear hc0;rw [hA]
   go_loopg [21] d.sh.length (ShRel w d w1.heap.size)
   case atStart=>exact ⟨A1,c1,A2,c2,0,HST.o,⟨jm,jm,jm⟩,za,rfl,fun j hj=>absurd hj za⟩
   case round =>
    clear HST HB1 HX1 hn1 hn2 y14 hs1 hW HX HB hsz;obtain ⟨A3,c3,A4,c4,k,hst,hle,hkm,rfl,hpre⟩:=hrel;have HST:=zq hst;have HLE:=zq hle;have HKM:=zq hkm;have HP:=zq hpre;have hkl:k≤d.sh.length:=za;clear hst hle hkm hpre;have HSH:=zq (HST.o.shs HD.o)
    by_cases hlt:k<d.sh.length
    ·have hb:b<wr.heap.size:=dL hb0 HST.o.bel.size
     have hc:∀ i (h:i<d.sh.length),wr.cell? ⟨b,o+i*3,none⟩=some (.string (d.sh[i]).pt)∧wr.cell? ⟨b,o+i*3+1,none⟩=some (.string (d.sh[i]).nu)∧wr.cell? ⟨b,o+i*3+2,none⟩=some (.string (d.sh[i]).de) :=
      fun i h=>⟨(HST.o.bel.cell hb0).trans (HC0.o i h).1,(HST.o.bel.cell hb0).trans (HC0.o i h).2.1,(HST.o.bel.cell hb0).trans (HC0.o i h).2.2⟩
     have HCL:=zq hc;obtain ⟨s0,s1,s2⟩:=hc k hlt;clear hc;have HSB:Hid (Bx (wr.alloc (.cells #[.string d.sh[k].pt,.string d.sh[k].nu,.string d.sh[k].de] 42)) wr.heap.size #[.string d.sh[k].pt,.string d.sh[k].nu,.string d.sh[k].de] 42):=Bx.new _ _ _;have HST1:=zq (HST.o.alloc (.cells #[.string d.sh[k].pt,.string d.sh[k].nu,.string d.sh[k].de] 42));have hsz1:=(HD.o.shz _ (aJ hlt)).1;have hz1:=dI (absN_size d.sh[k].nu) (HD.o.shz _ (aJ hlt)).2.1;have hz2:=(HD.o.shz _ (aJ hlt)).2.2
     go_wp2_with fail
     with_reducible refine (zCj d.sh[k].pt _ hsz1).mono ?_
     rintro e w2 ⟨rfl,hb2⟩;have HST2:=zq (HST1.o.below hb2);have hbw:Below wr.heap.size wr w2:=((aS _ _).alloc (aB _) _).trans (hb2.mono ze);have HSB2:=zq (HSB.o.below hb2);clear HST1 HSB hb2
     cases hnm:zBe d.sh[k].pt with
     | false =>
      have HS:Hid (res=5):=HH.o k 5 hlt HP.o (by unfold zAR;rw [zDp hlt,aE hnm])
      clear hnm;go_wp2;go_ret
      exact zAe.mk (zAx HS.o.symm) HST2.o.bel
     | true =>
      have HNM:=zq hnm;clear hnm;have yd:w2.cell? ⟨w.heap.size,14,none⟩=some (.slice (some ⟨b,o,none⟩) d.sh.length d.shc):=by rw [←hA];exact HST2.o.box.c 14 rfl
      have ye:=HST2.o.box.lt;obtain ⟨z0,z1,z2⟩:=HSB2.o.t;have HPV:Hid (∀ (h:0<k),w2.cell? ⟨b,o+(k - 1)*3,none⟩=some (.string (d.sh[k - 1]'(by omega)).pt)):=fun h=>(hbw.cell hb).trans (HCL.o (k - 1) za).1
      clear hbw s0 s1 s2
      by_cases hk0:0<k
      case' pos =>
       have zp:=HPV.o hk0;have hd:decide ((0:Int)<(k:Int))=true:=zg;have hd0:decide ((0:Int)≤(k:Int) - 1)=true:=zg
       cases hle:sle d.sh[k].pt (d.sh[k - 1]'(by omega)).pt
       case' true =>
        have HS:Hid (res=8):=HH.o k 8 hlt HP.o qb;unfold sle at hle;clear HPV HCL;go_wp2
        go_quiet (fail)
        go_wp2;go_ret
        exact zAe.mk (zAx HS.o.symm) (zAd HST2.o.bel _)
       case' false =>
        have HF:Hid (zAR d.sh k=shRest d.sh[k]):=by
         show _=_
         unfold zAR shRest;rw [shD_of hlt,zDp hlt,zDp (show k - 1<d.sh.length by omega),aC qd,aC (fun hh=>jy)]
        unfold sle at hle
      case' neg =>
       have hd:decide ((0:Int)<(k:Int))=false:=zg
       have HF:Hid (zAR d.sh k=shRest d.sh[k]):=by
        show _=_
        unfold zAR shRest;rw [shD_of hlt,zDp hlt,aC qd,aC (fun hh=>hk0 hh.1)]
      all_goals
       clear HPV HCL HNM;go_wp2
       go_quiet (fail)
       go_wp2_with fail
       with_reducible refine (CheckRatio_c d.sh[k].nu d.sh[k].de _ hz1 hz2).mono ?_
       rintro e w3 ⟨rfl,hb3⟩;have HST3:=zq ((HST2.o.drewN nq).below hb3);have HSB3:=zq ((HSB2.o.drewN nq).below hb3);clear yd ye z0 z1 z2 hb3 HSB2 HST2
       by_cases hr:zDq d.sh[k].nu d.sh[k].de=0
       case' neg =>
        have HS:Hid (res=zDq d.sh[k].nu d.sh[k].de):=HH.o k _ hlt HP.o (by rw [HF.o];unfold shRest;rw [aE hr])
        have hrb:(zDq d.sh[k].nu d.sh[k].de != 0)=true:=jz;clear hr;go_wp2;go_ret
        exact zAe.mk (zAx HS.o.symm) HST3.o.bel
       have HF2:Hid (zAR d.sh k=if posB d.sh[k].nu=false then some 1 else none):=by
        show _=_
        rw [HF.o];unfold shRest;rw [aC (by rw [hr];decide)]
       obtain ⟨q1,q2,q3,q4,q5⟩:=zCe hr;have HLN:Hid ((zAc B32 (zAz (zAY d.sh[k].nu))).length≤2000):=len_val (zAQ q1).1 q4;have HLD:Hid ((zAc B32 (zAz d.sh[k].de)).length≤2000):=len_val (zAQ q2).1 q5;have HDP:Hid (0<zAz d.sh[k].de):=den_pos q2 q3;have HFR:=zq (From_c d.sh[k].nu d.sh[k].de w3 (zAQ q1).1 q4 (zAQ q2).1 q5);obtain ⟨z0,z1,z2⟩:=HSB3.o.t;rw [hr];clear q1 q2 q3 q4 q5 hr HF HSB3
       go_wp2_with fail
       with_reducible refine HFR.o.mono ?_
       rintro e w4 ⟨A5,c5,A6,c6,rfl,h5,h6,hb4⟩;have HST4:=zq (HST3.o.below hb4);clear z0 z1 z2 hb4 HST3 HFR;have HXB:Hid (Bx (w4.alloc (.cells (rdC (sgB d.sh[k].nu) A5 c5 (zAz (zAY d.sh[k].nu)) A6 c6 (zAz d.sh[k].de)) 89)) w4.heap.size (rdC (sgB d.sh[k].nu) A5 c5 (zAz (zAY d.sh[k].nu)) A6 c6 (zAz d.sh[k].de)) 89):=Bx.new _ _ _;have HST5:=zq (HST4.o.alloc (.cells (rdC (sgB d.sh[k].nu) A5 c5 (zAz (zAY d.sh[k].nu)) A6 c6 (zAz d.sh[k].de)) 89));have H5:=zq (h5.alloc (.cells (rdC (sgB d.sh[k].nu) A5 c5 (zAz (zAY d.sh[k].nu)) A6 c6 (zAz d.sh[k].de)) 89));have H6:=zq (h6.alloc (.cells (rdC (sgB d.sh[k].nu) A5 c5 (zAz (zAY d.sh[k].nu)) A6 c6 (zAz d.sh[k].de)) 89));clear h5 h6 HST4
       go_wp2_with fail
       with_reducible refine (RSign_c (sgB d.sh[k].nu) A5 A6 c5 c6 (zAz (zAY d.sh[k].nu)) (zAz d.sh[k].de) _).mono ?_
       rintro e w5 ⟨rfl,hb5⟩;have HST6:=zq (HST5.o.below hb5);have HXB6:=zq (HXB.o.below hb5);have H56:=zq (H5.o.below hb5);have H66:=zq (H6.o.below hb5);have hsg:=posB_sgn d.sh[k].nu;clear hb5 HST5 HXB H5 H6
       cases hp:posB d.sh[k].nu with
       | false =>
        have HS:Hid (res=1):=HH.o k 1 hlt HP.o (by rw [HF2.o,aE hp])
        rw [hp] at hsg;clear hp;go_wp2;go_ret
        exact zAe.mk (zAx HS.o.symm) HST6.o.bel
       | true =>
        have HF3:Hid (zAR d.sh k=none):=by
         show _=_
         rw [HF2.o,aC (by rw [hp];simp)]
        have hsb:=posB_sg hp;rw [hp] at hsg;clear hp HF2;have HSUM:Hid (zCS d.sh (k+1)=addP (zCS d.sh k) (zAz (zAY d.sh[k].nu),zAz d.sh[k].de)):=sumP_succ hlt;have HLS:=zq (shLen_succ HLE.o HLN.o HLD.o HDP.o);have hk20:k<20:=za;have hle1:=HLE.o.1;have hle2:=HLE.o.2.1;have hle3:=HLE.o.2.2;have HADD:=zq (RAdd_c A3 A4 A5 A6 c3 c4 c5 c6 (zCS d.sh k).1 (zCS d.sh k).2 (zAz (zAY d.sh[k].nu)) (zAz d.sh[k].de) w5 HST6.o.n1 HST6.o.n2 H56.o H66.o za za (dI HLN.o za) (dI HLD.o za) hle3 HDP.o);rw [hsb] at hsg HXB6;rw [hsb];obtain ⟨a0,a1,a2⟩:=HST6.o.sum.t;obtain ⟨x0,x1,x2⟩:=HXB6.o.t;clear hle1 hle2 hle3 HLE HXB6 H56 H66
        go_wp2_with fail
        with_reducible refine HADD.o.mono ?_
        rintro e w6 ⟨A7,c7,A8,c8,rfl,h7,h8,hb6⟩;have HST7:=zq (HST6.o.below hb6);obtain ⟨r0,r1,r2⟩:=HST7.o.sum.t;have fr:=HST7.o.sum.frozen;have rl:=HST7.o.sum.lt;have HST8:=zq (HST7.o.store (pr':=addP (zCS d.sh k) (zAz (zAY d.sh[k].nu),zAz d.sh[k].de)) h7 h8);clear a0 a1 a2 x0 x1 x2 hb6 h7 h8 HST6 HADD hsg hsb;go_wp2
        go_roundg (gk - 1)
        case measure=>have:=HKM.o;omega
        case rel =>
         refine ⟨A7,c7,A8,c8,k+1,by rw [HSUM.o];exact HST8.o,by rw [HSUM.o];exact HLS.o,j1,zi,fun j hj=>?_⟩
         rcases aU j k with h9 | h9
         ·exact HP.o j h9
         ·obtain rfl:j=k:=by omega
          exact HF3.o
    ·have hke:k=d.sh.length:=by omega
     rw [hke] at HST HLE HP;have HE:=zq (HN.o HP.o);have hl1:(zAc B32 (zCS d.sh d.sh.length).1).length≤100000000:=dI HLE.o.1 za;have hl2:(zAc B32 (zCS d.sh d.sh.length).2).length≤100000000:=dI HLE.o.2.1 za;have HL1:=zq hl1;have HL2:=zq hl2;clear hl1 hl2 HLE HP HC0;obtain ⟨a0,a1,a2⟩:=HST.o.sum.t;go_wp2
     go_region_held3 (fun w'=>w'.cell? ⟨w1.heap.size,0,none⟩=some (.bool false)∧w'.cell? ⟨w1.heap.size,1,none⟩=some (.slice A3 (zAc B32 (zCS d.sh d.sh.length).1).length c3)∧w'.cell? ⟨w1.heap.size,2,none⟩=some (.slice A4 (zAc B32 (zCS d.sh d.sh.length).2).length c4)) ((refine ⟨?_,?_,?_⟩<;>first | with_reducible assumption | go_simp))
      (first
       | ((go_at_call 34;(with_reducible refine (whole1_c _).mono ?_);rintro e w8 ⟨A7,c7,A8,c8,rfl,h7,h8,hb8⟩;have HST8:=zq ((HST.o.drewN 1).below hb8);obtain ⟨b0,b1,b2⟩:=HST8.o.sum.t;clear hb8))
       | ((go_at_call 33;(with_reducible refine (RCmp_c A3 A4 A7 A8 c3 c4 c7 c8 _ _ 1 1 w8 HST8.o.n1 HST8.o.n2 h7 h8 HL1.o HL2.o zd zd).mono ?_);rintro e w9 ⟨rfl,hb9⟩;have HST9:=zq (HST8.o.below hb9);obtain ⟨d0,d1,d2⟩:=HST9.o.sum.t;clear hb9)))
     clear a0 a1 a2 b0 b1 b2 d0 d1 d2 HST HST8 h7 h8 HL1 HL2 HSH;have y2:w9.cell? ⟨w.heap.size,2,none⟩=some (.int .i64 d.kd):=HST9.o.box.c 2 rfl;have y14:w9.cell? ⟨w.heap.size,14,none⟩=some (.slice d.shA d.sh.length d.shc):=HST9.o.box.c 14 rfl;have yl:=HST9.o.box.lt;have HCO:=zq (containsSh_c d.shA d.shc w.heap.size d.sh d.fr w9 za (HST9.o.shs HD.o) (HST9.o.box.c 4 rfl));have he:=HE.o;unfold shEnd at he;clear HE HN HH HR
     try simp only [cA,Nat.one_mul]
     rcases Nat.lt_trichotomy (zCS d.sh d.sh.length).2 (zCS d.sh d.sh.length).1 with h | h | h
     ·rw [aE (.inl h)] at he
      rw [zBy h];have HS:=zq he;clear he h;go_wp2;go_ret
      exact zAe.mk (zAx HS.o) HST9.o.bel
     ·rw [aC za] at he
      rw [zCx h.symm]
      by_cases hk:d.kd=5
      ·have hkb:(d.kd == 5)=true:=by rw [hk];rfl
       cases hany:d.sh.any (ptIs d.fr) with
       | true =>
        rw [aE ⟨hk,hany⟩] at he;rw [hany,hA] at HCO;have HS:=zq he;clear he h hk hany
        go_wp2_with fail
        with_reducible refine HCO.o.mono ?_
        rintro e w10 ⟨rfl,hb10⟩;go_wp2;go_ret
        exact zAe.mk (zAx HS.o) (zAa HST9.o.bel hb10)
       | false =>
        rw [aC (fun hh=>by rw [hany] at hh;cases hh.2)] at he
        rw [hany,hA] at HCO;have HS:=zq he;clear he h hk hany
        go_wp2_with fail
        with_reducible refine HCO.o.mono ?_
        rintro e w10 ⟨rfl,hb10⟩;go_wp2;go_ret
        exact zAe.mk (zAx HS.o) (zAa HST9.o.bel hb10)
      ·have hkb:(d.kd == 5)=false:=by simpa using hk
       rw [aC (fun hh=>hk hh.1)] at he
       have HS:=zq he;clear he h hk;go_wp2;go_ret
       exact zAe.mk (zAx HS.o) HST9.o.bel
     ·rw [zBF h]
      by_cases hk:d.kd=5
      ·have hkb:(d.kd == 5)=true:=by rw [hk];rfl
       rw [aE (.inr ⟨hk,za⟩)] at he;have HS:=zq he;clear he h hk;go_wp2;go_ret
       exact zAe.mk (zAx HS.o) HST9.o.bel
      ·have hkb:(d.kd == 5)=false:=by simpa using hk
       rw [aC za,aC (fun hh=>hk hh.1)] at he
       have HS:=zq he;clear he h hk;go_wp2;go_ret
       exact zAe.mk (zAx HS.o) HST9.o.bel
end Go.Proofs.YtieoifkdobcpiaaGreatDoor
namespace Dw
open Go Go.RowKit
structure KeyT (P:Program) (K:TypeId) {κ:Type} [DecidableEq κ] (mk:κ→Value):Prop where
 same:∃ d,P.underlying K=some d∧∀ a b,Instr.sameNow d (mk a) (mk b)=some (decide (a=b))
 bits:∀ a,Instr.sameBits 10000 (mk a) (mk a)=true
 chk:∀ (b:Bool) (a:κ) (w:World),(Instr.checkKey b 10000 K (mk a)).run P w = .ok () w
def zBh {κ:Type} [DecidableEq κ] (es:List (κ×Value)) (k:κ):Option Value:=(es.find? fun e=>decide (k=e.1)).map (·.2)
def zAA {κ:Type} [DecidableEq κ] (mk:κ→Value) (w:World) (r:Nat) (f:κ→Option Value):Prop :=
 ∃ (es:Array MapEntry) (clk:Nat) (L:List (κ×Value)),w.heap[r]?=some (.map es clk)∧es.toList.map (fun e=>(e.key,e.val))=L.map (fun p=>(mk p.1,p.2))∧∀ k,zBh L k=f k
section
variable {κ:Type} [DecidableEq κ] {mk:κ→Value} {w w':World} {r:Nat} {f:κ→Option Value}
theorem zAA.lt (h:zAA mk w r f):r<w.heap.size:=by
 obtain ⟨es,clk,L,hr,_⟩:=h;exact (Array.getElem?_eq_some_iff.1 hr).1
theorem zAA.keep (h:zAA mk w r f) (hk:w'.heap[r]?=w.heap[r]?):zAA mk w' r f:=by
 obtain ⟨es,clk,L,hr,rest⟩:=h;exact ⟨es,clk,L,hk.trans hr,rest⟩
theorem zAA.below (h:zAA mk w r f) (hb:Below w.heap.size w w'):zAA mk w' r f:=h.keep (hb.block r h.lt)
theorem zAA.alloc (h:zAA mk w r f) (o:Obj):zAA mk (w.alloc o) r f:=h.keep (eA w o r h.lt)
theorem zAA.drewN (h:zAA mk w r f) (n:Nat):zAA mk (w.drewN n) r f:=h
theorem zAA.new (mk:κ→Value) (w:World):zAA mk (w.alloc (.map #[] 0)) w.heap.size (fun _=>none) :=
 ⟨#[],0,[],cS w _,rfl,fun _=>rfl⟩
theorem zAA.setCell (h:zAA mk w r f) {a:Addr} (ha:r≠a.block) (u:Value):zAA mk (w.setCell a u) r f:=h.keep (eL w a r u ha)
end
theorem zDV {κ:Type} [DecidableEq κ] {mk:κ→Value} {d:TypeDesc} (hs:∀ a b,Instr.sameNow d (mk a) (mk b)=some (decide (a=b))) (k:κ) :
  ∀ (es:List MapEntry) (L:List (κ×Value)) (i:Nat),es.map (fun e=>(e.key,e.val))=L.map (fun p=>(mk p.1,p.2)) →
   ∃ o,Instr.findNow d (mk k) es i=some o∧o.map (·.2)=zBh L k ∧
    (∀ j v,o=some (j,v)→i≤j∧j - i<L.length∧(L[j - i]?).map (·.1)=some k∧∀ t,t<j - i→(L[t]?).map (·.1)≠some k):=by
 intro es
 induction es with
 | nil =>
  intro L i h
  cases L with
  | nil=>exact ⟨none,rfl,rfl,fun j v h=>j2⟩
  | cons a t=>simp at h
 | cons e es ih =>
  intro L i h
  cases L with
  | nil=>simp at h
  | cons a t =>
   simp only [eG,eM,Prod.mk.injEq] at h;obtain ⟨⟨hk,hv⟩,ht⟩:=h;unfold Instr.findNow;rw [hk,hs]
   by_cases he:k=a.1
   ·refine ⟨some (i,e.val),by simp [he],?_,?_⟩
    ·simp [zBh,he,hv]
    ·intro j v hj
     simp only [eN,Prod.mk.injEq] at hj;obtain ⟨rfl,rfl⟩:=hj;simp [he]
   ·obtain ⟨o,h1,h2,h3⟩:=ih t (i+1) ht
    refine ⟨o,by simpa [he] using h1,?_,?_⟩
    ·rw [h2];simp [zBh,he]
    ·intro j v hj
     obtain ⟨h4,h5,h6,h7⟩:=h3 j v hj;have e1:j - i=(j - (i+1))+1:=za;refine ⟨za,zg,by rw [e1];simpa using h6,fun s hs=>?_⟩
     cases s with
     | zero=>simp;exact fun hh=>he hh.symm
     | succ s=>simpa using h7 s za
section
variable {P:Program} {κ:Type} [DecidableEq κ] {mk:κ→Value} {T K E:TypeId}
theorem zAC (hT:P.underlying T=some (.map K E)) (hK:KeyT P K mk) {z:Value} (hz:∀ w,(zeroValue E).run P w = .ok z w) {w:World} {r:Nat} {f:κ→Option Value} (h:zAA mk w r f) (k:κ) (ok:Bool) :
  (Instr.lookup T (.map (some r)) (mk k) ok).run P w = .ok (if ok then .tuple #[(f k).getD z,.bool (f k).isSome] else (f k).getD z) w:=by
 obtain ⟨es,clk,L,hr,hL,hf⟩:=h;obtain ⟨d,hd,hs⟩:=hK.same;obtain ⟨o,h1,h2,_⟩:=zDV hs k es.toList L 0 hL;have hg:(getObj r).run P w = .ok (.map es clk) w:=jp
 have hfk:(Instr.findKey K (mk k) es.toList).run P w = .ok o w:=by
  simp [Instr.findKey,eE hd,h1]
 rw [hf] at h2
 cases o with
 | none =>
  have:f k=none:=by simpa using h2.symm
  simp [Instr.lookup,eE hT,hg,hK.chk,hfk,hz,this]
 | some p =>
  obtain ⟨i,v⟩:=p;have:f k=some v:=by simpa using h2.symm
  simp [Instr.lookup,eE hT,hg,hK.chk,hfk,this]
theorem chk_string (hK:P.underlying K=some .string) (b:Bool) (a:BA) (w:World) (n:Nat):(Instr.checkKey b (n+1) K (.string a)).run P w = .ok () w:=by
 simp [Instr.checkKey,eE hK]
theorem chk_int (hK:P.underlying K=some (.int .i64)) (b:Bool) (a:Int) (w:World) (n:Nat):(Instr.checkKey b (n+1) K (.int .i64 a)).run P w = .ok () w:=by
 simp [Instr.checkKey,eE hK]
theorem zBz (hK:P.underlying K=some .string):KeyT P K Value.string where
 same:=⟨_,hK,fun a b=>by
  simp only [Instr.sameNow,eN];rw [beq_toListBytes,Bool.eq_iff_iff]
  constructor
  ·intro h
   have h':a.toList=b.toList:=zn;rw [ByteArray.toList_eq,ByteArray.toList_eq] at h'
   simpa using ByteArray.ext (Array.toList_inj.1 h')
  ·intro h
   have:a=b:=zn;subst this;simp⟩
 bits a:=by
  simp only [Instr.sameBits];rw [beq_toListBytes];simp
 chk b a w:=chk_string hK b a w 9999
theorem keyT_int (hK:P.underlying K=some (.int .i64)):KeyT P K (fun n:Int=>Value.int .i64 n) where
 same:=⟨_,hK,fun a b=>by simp only [Instr.sameNow,if_true,eN];rfl⟩
 bits a:=by simp [Instr.sameBits]
 chk b a w:=chk_int hK b a w 9999
theorem lookE_set {L:List (κ×Value)} {j:Nat} {k:κ} {v:Value} (hj:j<L.length) (hk:(L[j]?).map (·.1)=some k) (hmin:∀ t,t<j→(L[t]?).map (·.1)≠some k) :
  ∀ k',zBh (L.modify j fun _=>(k,v)) k'=if k'=k then some v else zBh L k':=by
 induction L generalizing j with
 | nil=>simp at hj
 | cons a t ih =>
  intro k'
  cases j with
  | zero =>
   have ha:a.1=k:=by simpa using hk
   by_cases h:k'=k
   ·subst h;simp [zBh]
   ·simp [zBh,h,ha]
  | succ j =>
   have ha:a.1≠k:=by
    have:=hmin 0 za
    simpa using this
   have:=ih (j:=j) qe (by simpa using hk) (fun s hs=>by simpa using hmin (s+1) za) k'
   by_cases h:k'=a.1
   ·subst h;simp [zBh,ha]
   ·simp only [List.modify_succ_cons]
    unfold zBh at this ⊢;rw [List.find?_cons_of_neg zn,List.find?_cons_of_neg zn];exact this
theorem lookE_push {L:List (κ×Value)} {k:κ} {v:Value} (h:zBh L k=none):∀ k',zBh (L++[(k,v)]) k'=if k'=k then some v else zBh L k':=by
 intro k';unfold zBh at *;rw [List.find?_append]
 by_cases hk:k'=k
 ·subst hk
  have:L.find? (fun e=>decide (k'=e.1))=none:=zn
  simp [this]
 ·simp only [List.find?_cons,hk,decide_false,List.find?_nil,eD]
  cases L.find? (fun e=>decide (k'=e.1))<;>rfl
theorem zAV (hT:P.underlying T=some (.map K E)) (hK:KeyT P K mk) {w:World} {r:Nat} {f:κ→Option Value} (h:zAA mk w r f) (k:κ) (v:Value) :
  ∃ w',(Instr.mapUpdate T (.map (some r)) (mk k) v).run P w = .ok () w'∧zAA mk w' r (fun k'=>if k'=k then some v else f k')∧w.grownBy w' (some r)∧w'.heap.size=w.heap.size:=by
 obtain ⟨es,clk,L,hr,hL,hf⟩:=h;have hrl:r<w.heap.size:=(Array.getElem?_eq_some_iff.1 hr).1;obtain ⟨d,hd,hs⟩:=hK.same;obtain ⟨o,h1,h2,h3⟩:=zDV hs k es.toList L 0 hL;have hg:(getObj r).run P w = .ok (.map es clk) w:=jp;have hset:∀ (es':Array MapEntry) (c':Nat),(setObj r (.map es' c')).run P w = .ok () { w with heap:=w.heap.setIfInBounds r (.map es' c') }:=fun es' c'=>by simp [setObj,Sem.run,hr]
 have hfk:(Instr.findKey K (mk k) es.toList).run P w = .ok o w:=by
  simp [Instr.findKey,eE hd,h1]
 have hgrow:∀ (es':Array MapEntry) (c':Nat),w.grownBy { w with heap:=w.heap.setIfInBounds r (.map es' c') } (some r):=fun es' c' =>
  ⟨rfl,rfl,rfl,ze,fun i hi hne=>by simp only [Array.getElem?_setIfInBounds];rw [aC (fun e=>hne (by rw [e]))]⟩
 have hget:∀ (es':Array MapEntry) (c':Nat),({ w with heap:=w.heap.setIfInBounds r (.map es' c') }:World).heap[r]?=some (.map es' c'):=fun es' c'=>by
  simp [hrl]
 rw [hf] at h2;have hlen:es.size=L.length:=qn
 cases o with
 | none =>
  have hn:f k=none:=by simpa using h2.symm
  refine ⟨_,?_,⟨_,_,L++[(k,v)],hget (es.push { key:=mk k,val:=v,born:=clk }) (clk+1),?_,?_⟩,hgrow _ _,ze⟩
  ·simp [Instr.mapUpdate,eE hT,hg,hK.chk,hfk,hset]
  ·simp [hL]
  ·intro k'
   rw [lookE_push (by rw [hf];exact hn),hf]
 | some p =>
  obtain ⟨i,v0⟩:=p;obtain ⟨_,h5,h6,h7⟩:=h3 i v0 rfl;simp only [Nat.sub_zero] at h5 h6 h7;have hi:i<es.size:=za
  have hkey:es[i].key=mk k:=by
   have e1:(es.toList.map fun e=>(e.key,e.val))[i]?=(L.map fun p=>(mk p.1,p.2))[i]?:=by rw [hL]
   rw [List.getElem?_map,List.getElem?_map,List.getElem?_eq_getElem h5,List.getElem?_eq_getElem yz] at e1;rw [List.getElem?_eq_getElem h5] at h6;simp only [eO,eN,Prod.mk.injEq] at e1 h6;rw [←h6];simpa using e1.1
  have hstay:∀ x,(Instr.keyThatStays (mk k) (mk k)).run P x = .ok (mk k) x:=fun x=>by
   simp [Instr.keyThatStays,hK.bits]
  refine ⟨_,?_,⟨_,_,L.modify i fun _=>(k,v),hget (es.modify i fun e=>{ e with key:=mk k,val:=v }) clk,?_,?_⟩,hgrow _ _,ze⟩
  ·simp [Instr.mapUpdate,eE hT,hg,hK.chk,hfk,hi,hkey,hstay,hset]
  ·apply List.ext_getElem?
   intro n;have e1:(es.toList.map fun e=>(e.key,e.val))[n]?=(L.map fun p=>(mk p.1,p.2))[n]?:=by rw [hL]
   rw [List.getElem?_map,List.getElem?_map] at e1;rw [List.getElem?_map,List.getElem?_map,List.getElem?_modify,Array.toList_modify,List.getElem?_modify]
   by_cases hn:i=n
   ·subst hn
    rw [List.getElem?_eq_getElem h5,List.getElem?_eq_getElem yz];simp
   ·simp only [hn,eD]
    cases hx:es.toList[n]?<;>cases hy:L[n]?<;>simp_all
  ·intro k'
   rw [lookE_set h5 h6 h7,hf]
end
end Dw
