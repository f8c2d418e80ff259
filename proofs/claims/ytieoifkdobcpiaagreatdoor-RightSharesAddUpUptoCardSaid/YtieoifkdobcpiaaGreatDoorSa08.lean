/- Parts of the proof, joined: Package right: equal says whether two deeds are equal (printed by gen_. -/
import Derived.Test.YtieoifkdobcpiaaGreatDoorSa07
import Derived.Shelf.GgSortFunc.Compose
set_option maxRecDepth 100000
set_option maxHeartbeats 8000000
namespace Go.Proofs.YtieoifkdobcpiaaGreatDoor
open Go.RowKit Dw
end Go.Proofs.YtieoifkdobcpiaaGreatDoor
namespace Dw
theorem slt_list (a b:ByteArray):slt a b=decide (a.toList<b.toList):=by unfold slt;rw [zCw]
end Dw
namespace Go.Proofs.YtieoifkdobcpiaaGreatDoor
open Go.Shelf Go.RowKit Go.Lib Go.Sort Dw
end Go.Proofs.YtieoifkdobcpiaaGreatDoor
namespace Go.Proofs.YtieoifkdobcpiaaGreatDoor
open Go.RowKit Dw
def GivesPos (M:List Bool) (w:World) (e:Ending) (w':World):Prop:=∃ z:Int,e = .returned (.int .i64 z)∧decide ((0:Int)≤z)=M.any id∧w=w'
def IdxRelB (w:World) (M:List Bool) (m:Nat) (i:Value) (wr:World):Prop :=
 wr=w∧∃ k:Nat,k+m=M.length∧i = .int .i64 k∧(M.take k).any id=false
theorem indexB_c (A:Option Addr) (c:Nat) (M:List Bool) (w:World) (hn:M.length≤1000000) (h:Rd1 Value.bool w A M) :
  Calls Tryz.prog 278 #[.slice A M.length c,.bool true] w (GivesPos M w):=by
 go_enter Tryz.func278,Tryz.ntmps278
 go_wp2
 go_loopg [8] M.length (IdxRelB w M)
 case atStart=>exact ⟨rfl,0,za,rfl,rfl⟩
 case round =>
  obtain ⟨hw,k,hk,rfl,hpre⟩:=hrel;subst hw;have HK:=zq hk;have HP:=zq hpre;have hk1:k≤M.length:=za;clear hk hpre
  by_cases hlt:k<M.length
  ·obtain ⟨b,o,rfl,hb,hc⟩:=h.at_ za
   have hc0:=hc k hlt;clear hc;have HE:Hid (M.take (k+1)=M.take k++[M[k]]):=List.take_succ_eq_append_getElem hlt;have HM:Hid (M[k]=true→M.any id=true):=fun e=>List.any_eq_true.2 ⟨M[k],List.getElem_mem hlt,e⟩
   obtain ⟨x,hx⟩:∃ x,M[k]=x:=⟨_,rfl⟩;rw [hx] at hc0 HE HM;clear hx
   cases x with
   | true =>
    go_wp2;go_ret
    exact ⟨(k:Int),rfl,by rw [HM.o trivial];exact decide_eq_true za,rfl⟩
   | false =>
    go_wp2
    go_roundg (gk - 1)
    case measure=>have:=HK.o;omega
    case rel=>exact ⟨rfl,k+1,zh,zi,by rw [HE.o,List.any_append,HP.o];rfl⟩
  ·have HA:Hid (M.any id=false):=by
    show _=_
    have:=HP.o
    rwa [List.take_of_length_le za] at this
   go_wp2;go_ret
   exact ⟨-1,rfl,by rw [HA.o];rfl,rfl⟩
theorem some_c (A:Option Addr) (c:Nat) (M:List Bool) (w:World) (hn:M.length≤1000000) (h:Rd1 Value.bool w A M) :
  Calls Tryz.prog 254 #[.slice A M.length c] w (zAP (.bool (M.any id)) w):=by
 have hC:∀ W,Rd1 Value.bool W A M→Calls Tryz.prog 272 #[.slice A M.length c,.bool true] W (zAP (.bool (M.any id)) W):=fun W hW=>by
  go_enter Tryz.func272,Tryz.ntmps272
  go_wp2_with fail
  with_reducible refine (indexB_c A c M W hn hW).mono ?_
  rintro e w' ⟨z,rfl,hz,rfl⟩;have HZ:=zq hz;clear hz;go_wp2;go_ret
  exact zAP.mk (zAU HZ.o) rfl
 have HC:=zq (hC w h);clear hC
 go_enter Tryz.func254,Tryz.ntmps254
 go_wp2_with fail
 with_reducible refine HC.o.mono ?_
 rintro e w' ⟨rfl,rfl⟩;go_wp2;go_ret
 exact zAP.mk rfl rfl
def UsesRel (w:World) (us l:List ByteArray) (m:Nat) (i:Value) (wr:World):Prop :=
 (∃ n,wr=w.drewN n)∧∃ k:Nat,k+m=l.length∧i = .int .i64 k∧∀ j,j<k→zBR us l j=none
theorem useF_hit {us l:List ByteArray} {k:Nat} {f:Int} (hk:k<l.length) (hp:∀ j,j<k→zBR us l j=none) (h:zBR us l k=some f):useF us l=f:=by
 unfold useF;rw [zBo hk hp h]
theorem useF_none {us l:List ByteArray} (hp:∀ j,j<l.length→zBR us l j=none):useF us l=0:=by
 unfold useF;rw [zBx hp]
theorem usAt_of {l:List ByteArray} {i:Nat} (h:i<l.length):usAt l i=l[i]:=by simp [usAt,List.getD,h]
theorem checkUses_c (A A2:Option Addr) (c c2:Nat) (us l:List ByteArray) (w:World) (hu:us.length≤1000000) (hn:l.length≤140737488355328) (h:Strs w A us) (h2:Strs w A2 l) :
  Calls Tryz.prog 255 #[.slice A us.length c,.slice A2 l.length c2] w (zBc (.int .i64 (useF us l)) w):=by
 have HC:=zq (fun W s (x:Strs W A us)=>containsS_c A c us s W hu x)
 go_enter Tryz.func255,Tryz.ntmps255
 go_wp2
 go_loopg [9] l.length (UsesRel w us l)
 case atStart=>exact ⟨⟨0,rfl⟩,0,za,rfl,fun j hj=>absurd hj za⟩
 case round =>
  obtain ⟨⟨nd,hw⟩,k,hkm,rfl,hpre⟩:=hrel;subst hw;have HM:=zq hkm;have HP:=zq hpre;clear hkm hpre
  by_cases hlt:k<l.length
  ·obtain ⟨b,o,hA,hb,hc⟩:=h2.at_ za
   subst hA;have hc0:=hc k hlt;have HCL:=zq hc;clear hc;have e0:usAt l k=l[k]:=usAt_of hlt
   go_wp2_with fail
   with_reducible refine (HC.o _ _ (h.drewN nd)).mono ?_
   rintro e w' ⟨rfl,rfl⟩
   cases hm:memS us l[k] with
   | false =>
    have HF:Hid (useF us l=5):=useF_hit hlt HP.o (by unfold zBR;rw [e0,if_pos hm])
    clear hm e0;go_wp2;go_ret
    exact zBc.mk (zAW HF.o.symm) ⟨nd,rfl⟩
   | true =>
    rcases Nat.eq_zero_or_pos k with h0 | h0
    ·subst h0
     have HF:Hid (zBR us l 0=none):=by
      show _=_
      unfold zBR;rw [e0,if_neg (by rw [hm];simp),if_neg za]
     clear hm e0;go_wp2
     go_roundg (gk - 1)
     case measure=>have:=HM.o;omega
     case rel=>exact ⟨⟨nd,rfl⟩,1,zx,zi,fun j hj=>by
      have e:j=0:=za;subst e;exact HF.o⟩
    ·have hcp:=HCL.o (k - 1) za
     have hd:decide ((0:Int)<(k:Int))=true:=ze;have e1:usAt l (k - 1)=l[k - 1]'(by omega):=usAt_of za
     cases hle:sle l[k] (l[k - 1]'(by omega)) with
     | true =>
      have HF:Hid (useF us l=8):=useF_hit hlt HP.o (by unfold zBR;rw [e0,e1,if_neg (by rw [hm];simp),if_pos ⟨h0,hle⟩])
      have hleb:=hle;unfold sle at hleb;clear hm e0 e1 hle;go_wp2;go_ret
      exact zBc.mk (zAW HF.o.symm) ⟨nd,rfl⟩
     | false =>
      have HF:Hid (zBR us l k=none):=by
       show _=_
       unfold zBR;rw [e0,e1,if_neg (by rw [hm];simp),if_neg (by rintro ⟨_,h9⟩;rw [hle] at h9;cases h9)]
      have hleb:=hle;unfold sle at hleb;clear hm e0 e1 hle;go_wp2
      go_roundg (gk - 1)
      case measure=>have:=HM.o;omega
      case rel =>
       refine ⟨⟨nd,rfl⟩,k+1,zx,zi,fun j hj=>?_⟩
       rcases Nat.lt_or_ge j k with h1 | h1
       ·exact HP.o j h1
       ·have e:j=k:=by omega
        subst e;exact HF.o
  ·have HF:Hid (useF us l=0):=useF_none fun j hj=>HP.o j za
   go_wp2;go_ret
   exact zBc.mk (zAW HF.o.symm) ⟨nd,rfl⟩
def ptIs (fr:ByteArray) (s:Sh):Bool:=decide (s.pt=fr)
def ShIx (w:World) (l:List Sh) (fr:ByteArray) (m:Nat) (i:Value) (wr:World):Prop :=
 Below w.heap.size w wr∧∃ k:Nat,k+m=l.length∧i = .int .i64 k∧(l.take k).any (ptIs fr)=false
def GivesPosB (t:Bool) (w:World) (e:Ending) (w':World):Prop:=∃ z:Int,e = .returned (.int .i64 z)∧decide ((0:Int)≤z)=t∧Below w.heap.size w w'
theorem ptIs_c (s:Sh) (p:Nat) (fr:ByteArray) (w:World) (hp:w.cell? ⟨p,4,none⟩=some (.string fr)) :
  Calls Tryz.prog 257 #[.agg #[.string s.pt,.string s.nu,.string s.de],.pointer (some ⟨p,0,none⟩)] w (zAe (.bool (ptIs fr s)) w):=by
 have hpl:p<w.heap.size:=World.block_lt_of_cell? w _ hp
 by_cases h:s.pt=fr
 ·have hb:=zBW h
  have hv:ptIs fr s=true:=by unfold ptIs;exact decide_eq_true h
  rw [hv];have HV:=zq hv;clear hv h
  go_enter Tryz.func257,Tryz.ntmps257
  go_wp2;go_ret
  exact zAe.mk rfl ((Below.refl w.heap.size w).alloc (Nat.le_refl _) _)
 ·have hb:=zBG h
  have hv:ptIs fr s=false:=by unfold ptIs;exact decide_eq_false h
  rw [hv];have HV:=zq hv;clear hv h
  go_enter Tryz.func257,Tryz.ntmps257
  go_wp2;go_ret
  exact zAe.mk rfl ((Below.refl w.heap.size w).alloc (Nat.le_refl _) _)
theorem indexSh_c (A:Option Addr) (c p:Nat) (l:List Sh) (fr:ByteArray) (w:World) (hn:l.length≤1000000) (h:Shs w A l) (hp:w.cell? ⟨p,4,none⟩=some (.string fr)) :
  Calls Tryz.prog 273 #[.slice A l.length c,.func (.func 257) #[] #[.pointer (some ⟨p,0,none⟩)]] w (GivesPosB (l.any (ptIs fr)) w):=by
 have hpl:p<w.heap.size:=World.block_lt_of_cell? w _ hp
 go_enter Tryz.func273,Tryz.ntmps273
 go_wp2
 go_loopg [8] l.length (ShIx w l fr)
 case atStart=>exact ⟨Below.refl _ _,0,za,rfl,rfl⟩
 case round =>
  obtain ⟨hbw,k,hk,rfl,hpre⟩:=hrel;have HK:=zq hk;have HP:=zq hpre;have HBW:=zq hbw;clear hk hpre hbw
  by_cases hlt:k<l.length
  ·obtain ⟨b,o,hA,hb,hc⟩:=(h.below HBW.o).at_ za
   subst hA;obtain ⟨c0,c1,c2⟩:=hc k hlt;clear hc;have HE:Hid (l.take (k+1)=l.take k++[l[k]]):=List.take_succ_eq_append_getElem hlt;have HM:Hid (ptIs fr l[k]=true→l.any (ptIs fr)=true):=fun e=>List.any_eq_true.2 ⟨l[k],List.getElem_mem hlt,e⟩
   have hcall:=ptIs_c l[k] p fr wr ((HBW.o.cell (p:=⟨p,4,none⟩) hpl).trans hp);have HCALL:=zq hcall;clear hcall
   go_wp2_with fail
   with_reducible refine HCALL.o.mono ?_
   rintro e w2 ⟨rfl,hb2⟩;have HB2:=zq (zAb HBW.o hb2);clear hb2 HCALL c0 c1 c2
   cases hx:ptIs fr l[k] with
   | true =>
    have HM2:=zq (HM.o hx);clear hx;go_wp2;go_ret
    exact ⟨(k:Int),rfl,by rw [HM2.o];exact decide_eq_true za,HB2.o⟩
   | false =>
    have HX:=zq hx;clear hx;go_wp2
    go_roundg (gk - 1)
    case measure=>have:=HK.o;omega
    case rel=>exact ⟨HB2.o,k+1,zh,zi,by rw [HE.o,List.any_append,HP.o];simp [HX.o]⟩
  ·have HA:Hid (l.any (ptIs fr)=false):=by
    show _=_
    have:=HP.o
    rwa [List.take_of_length_le za] at this
   go_wp2;go_ret
   exact ⟨-1,rfl,by rw [HA.o];rfl,HBW.o⟩
theorem containsSh_c (A:Option Addr) (c p:Nat) (l:List Sh) (fr:ByteArray) (w:World) (hn:l.length≤1000000) (h:Shs w A l) (hp:w.cell? ⟨p,4,none⟩=some (.string fr)) :
  Calls Tryz.prog 256 #[.slice A l.length c,.func (.func 257) #[] #[.pointer (some ⟨p,0,none⟩)]] w (zAe (.bool (l.any (ptIs fr))) w):=by
 go_enter Tryz.func256,Tryz.ntmps256
 go_wp2_with fail
 refine (indexSh_c A c p l fr w hn h hp).mono ?_
 rintro e w1 ⟨z,rfl,hz,hb⟩;have HZ:=zq hz;clear hz;go_wp2;go_ret
 exact zAe.mk (zAU HZ.o) hb
def cutset:ByteArray:=⟨#[97,98,99,100,101,102,103,104,105,106,107,108,109,110,111,112,113,114,115,116,117,118,119,120,121,122,48,49,50,51,52,53,54,55,56,57,45]⟩
theorem cut_okB (c:UInt8):cutset.data.toList.contains c=okB c:=by
 have h:∀ n:Nat,n<256→cutset.data.toList.contains (UInt8.ofNat n)=okB (UInt8.ofNat n):=qi;have:=h c.toNat c.toNat_lt
 simpa using this
theorem zDw {p:UInt8→Bool}:∀ {l:List UInt8} {b:UInt8},b∈l→p b=false→b∈l.dropWhile p
 | [],_,h,_=>by simp at h
 | a::t,b,h,hb=>by
  rw [List.dropWhile_cons]
  cases ha:p a with
  | false=>simpa using h
  | true =>
   simp only [if_true]
   rcases List.mem_cons.1 h with rfl | h
   ·rw [ha] at hb;cases hb
   ·exact zDw h hb
theorem dropWhile_all {p:UInt8→Bool}:∀ {l:List UInt8},l.all p=true→l.dropWhile p=[]
 | [],_=>rfl
 | a::t,h=>by
  rw [List.all_cons,Bool.and_eq_true] at h;rw [List.dropWhile_cons,h.1]
  simpa using dropWhile_all h.2
theorem trim_empty (l:List UInt8):(Lib.trimS l cutset.data.toList).isEmpty=l.all okB:=by
 have hp:(fun b=>cutset.data.toList.contains b)=okB:=funext cut_okB
 cases ha:l.all okB with
 | true =>
  have:Lib.trimS l cutset.data.toList=[]:=by
   unfold Lib.trimS Lib.trimLeftS Lib.trimRightS;rw [hp,dropWhile_all (l:=l.reverse) (by rw [List.all_reverse];exact ha)]
   rfl
  rw [this];rfl
 | false =>
  obtain ⟨b,hb,hn⟩:=List.all_eq_false.1 ha;have hn':okB b=false:=by simpa using hn
  have:b∈Lib.trimS l cutset.data.toList:=by
   unfold Lib.trimS Lib.trimLeftS Lib.trimRightS;rw [hp];exact zDw (List.mem_reverse.2 (zDw (List.mem_reverse.2 hb) hn')) hn'
  cases hs:Lib.trimS l cutset.data.toList with
  | nil=>rw [hs] at this;simp at this
  | cons a t=>rfl
theorem trimS_c (s:ByteArray) (w:World) (hs:s.size≤9223372036854775807) :
  Calls Tryz.prog 150 #[.string s,.string cutset] w (zAe (.string ⟨(Lib.trimS s.data.toList cutset.data.toList).toArray⟩) w) :=
 Any.strings_Trim_laid Tryz.lays160 zb s cutset w hs zc (ascii_of_all qi)
theorem soundIsName_c (s:ByteArray) (w:World) (hs:s.size≤9223372036854775807) :
  Calls Tryz.prog 107 #[.string s] w (zAe (.bool (zBp s)) w):=by
 generalize hres:zBp s=res;have HR:=zq hres;clear hres
 by_cases h1:1≤s.size
 ·by_cases h2:s.size≤40
  ·by_cases h3:97≤(s[0]'h1).toNat
   ·by_cases h4:(s[0]'h1).toNat≤122
    ·have hall:(⟨(Lib.trimS s.data.toList cutset.data.toList).toArray⟩:ByteArray).toList.isEmpty=res:=by
      rw [←HR.o,isNm_all h1 h2 h3 h4,ByteArray.toList_mk,trim_empty]
     have hcon:=trimS_c s w hs;generalize (⟨(Lib.trimS s.data.toList cutset.data.toList).toArray⟩:ByteArray)=r at hall hcon;have HC:=zq hcon;have HA:=zq hall;clear hcon hall
     go_enter Tryz.func107,Tryz.ntmps107
     go_wp2_with fail
     refine HC.o.mono ?_
     rintro e w' ⟨rfl,hB⟩;go_wp2;go_ret
     exact zAe.mk (zAU HA.o) hB
    ·have hres:res=false:=by
      rw [←HR.o];unfold zBp;rw [headD_get s h1];simp [h4]
     have HS:=zq hres;clear hres
     go_enter Tryz.func107,Tryz.ntmps107
     go_wp2_with fail
     go_ret
     exact zAe.mk (zAU HS.o.symm) (Below.refl _ _)
   ·have hres:res=false:=by
     rw [←HR.o];unfold zBp;rw [headD_get s h1];simp [h3]
    have HS:=zq hres;clear hres
    go_enter Tryz.func107,Tryz.ntmps107
    go_wp2_with fail
    go_ret
    exact zAe.mk (zAU HS.o.symm) (Below.refl _ _)
  ·have hres:res=false:=by
    rw [←HR.o];unfold zBp;simp [h2]
   have HS:=zq hres;clear hres
   go_enter Tryz.func107,Tryz.ntmps107
   go_wp2_with fail
   go_ret
   exact zAe.mk (zAU HS.o.symm) (Below.refl _ _)
 ·have hres:res=false:=by
   rw [←HR.o];unfold zBp;simp [h1]
  have HS:=zq hres;clear hres
  go_enter Tryz.func107,Tryz.ntmps107
  go_wp2_with fail
  go_ret
  exact zAe.mk (zAU HS.o.symm) (Below.refl _ _)
theorem zBP (s:ByteArray) (w:World) (hs:s.size≤9223372036854775807) :
  Calls Tryz.prog 60 #[.string s] w (zAe (.bool (zBp s)) w):=by
 go_enter Tryz.func60,Tryz.ntmps60
 go_wp2_with fail
 refine (soundIsName_c s w hs).mono ?_
 rintro e w' ⟨rfl,hB⟩;go_wp2;go_ret
 exact zAe.mk rfl hB
end Go.Proofs.YtieoifkdobcpiaaGreatDoor
