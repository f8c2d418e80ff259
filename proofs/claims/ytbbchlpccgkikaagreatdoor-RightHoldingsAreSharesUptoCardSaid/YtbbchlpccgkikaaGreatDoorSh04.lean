/- Parts of the proof, joined: Package right: equal says whether two deeds are equal (printed by gen_. -/
import Derived.Test.YtbbchlpccgkikaaGreatDoorSh03
import Derived.Shelf.GgSortFunc.Compose
import Derived.Orders
import Derived.RegionTactic
set_option maxRecDepth 100000
set_option maxHeartbeats 8000000
namespace Go.Proofs.YtbbchlpccgkikaaGreatDoor
open Go.RowKit Dw
end Go.Proofs.YtbbchlpccgkikaaGreatDoor
namespace Dw
theorem slt_list(a b:BA):slt a b=decide (a.toList<b.toList):=by unfold slt;rw[zBV]
end Dw
namespace Go.Proofs.YtbbchlpccgkikaaGreatDoor
open Go.Shelf Go.RowKit Go.Lib Go.Sort Dw
end Go.Proofs.YtbbchlpccgkikaaGreatDoor
namespace Go.Proofs.YtbbchlpccgkikaaGreatDoor
open Go.RowKit Dw
def GivesPos(M:List Bool)(w:World)(e:Ending)(w':World):Prop:=∃z:Int,e=.returned (.int .i64 z)/\decide ((0:Int)<=z)=M.any id/\w=w'
def IdxRelB(w:World)(M:List Bool)(m:Nat)(i:Value)(wr:World):Prop:=
 wr=w/\∃k:Nat,k+m=M.length/\i=.int .i64 k/\(M.take k).any id=false
theorem indexB_c(A:Option Addr)(c:Nat)(M:List Bool)(w:World)(hn:M.length<=1000000)(h:Rd1 Value.bool w A M): Calls Tryz.prog 325 #[.slice A M.length c,.bool true] w (GivesPos M w):=by
 go_enter Tryz.func325,Tryz.ntmps325;go_wp2
 go_loopg[8] M.length (IdxRelB w M)
 case atStart=>exact⟨rfl,0,za,rfl,rfl⟩
 case round =>
  obtain⟨hw,k,hk,rfl,hpre⟩:=hrel;subst hw;have HK:=zq hk;have HP:=zq hpre;have hk1:k<=M.length:=za;clear hk hpre
  by_cases hlt:k<M.length
  ·obtain⟨b,o,rfl,hb,hc⟩:=h.at_ za
   have hc0:=hc k hlt;clear hc;have HE:Hid (M.take (k+1)=M.take k++[M[k]]):=bA hlt;have HM:Hid (M[k]=true->M.any id=true):=fun e=>List.any_eq_true.2 ⟨M[k],bI hlt,e⟩
   obtain⟨x,hx⟩:∃x,M[k]=x:=⟨_,rfl⟩;rw[hx]at hc0 HE HM;clear hx
   cases x with
   |true =>
    go_wp2;go_ret
    exact⟨(k:Int),rfl,by rw[HM.o trivial];exact aT za,rfl⟩
   |false =>
    go_wp2
    go_roundg (gk-1)
    case measure=>have:=HK.o;omega
    case rel=>exact⟨rfl,k+1,zh,zi,by rw[HE.o,dX,HP.o];rfl⟩
  ·have HA:Hid (M.any id=false):=by
    show _=_
    have:=HP.o
    rwa [bC za]at this
   go_wp2;go_ret
   exact⟨-1,rfl,by rw[HA.o];rfl,rfl⟩
theorem some_c(A:Option Addr)(c:Nat)(M:List Bool)(w:World)(hn:M.length<=1000000)(h:Rd1 Value.bool w A M): Calls Tryz.prog 265 #[.slice A M.length c] w (zBk (.bool (M.any id)) w):=by
 have hC:∀W,Rd1 Value.bool W A M->Calls Tryz.prog 300 #[.slice A M.length c,.bool true] W (zBk (.bool (M.any id)) W):=fun W hW=>by
  go_enter Tryz.func300,Tryz.ntmps300;(go_wp2_with fail);(with_reducible refine(indexB_c A c M W hn hW).mono ?_);rintro e w' ⟨z,rfl,hz,rfl⟩;have HZ:=zq hz;clear hz;go_wp2;go_ret
  exact zBk.mk (zDm HZ.o) rfl
 have HC:=zq (hC w h);clear hC
 go_enter Tryz.func265,Tryz.ntmps265;(go_wp2_with fail);(with_reducible refine HC.o.mono ?_);rintro e w' ⟨rfl,rfl⟩;go_wp2;go_ret
 exact zBk.mk rfl rfl
def UsesRel(w:World)(us l:List BA)(m:Nat)(i:Value)(wr:World):Prop:=
 (∃n,wr=w.drewN n)/\∃k:Nat,k+m=l.length/\i=.int .i64 k/\∀j,j<k->zBd us l j=none
theorem useF_hit{us l:List BA}{k:Nat}{f:Int}(hk:k<l.length)(hp:∀j,j<k->zBd us l j=none)(h:zBd us l k=some f):useF us l=f:=by
 unfold useF;rw[zBf hk hp h]
theorem useF_none{us l:List BA}(hp:∀j,j<l.length->zBd us l j=none):useF us l=0:=by
 unfold useF;rw[zBl hp]
theorem usAt_of{l:List BA}{i:Nat}(h:i<l.length):usAt l i=l[i]:=by simp[usAt,List.getD,h]
theorem checkUses_c(A A2:Option Addr)(c c2:Nat)(us l:List BA)(w:World)(hu:us.length<=1000000)(hn:l.length<=140737488355328)(h:Strs w A us)(h2:Strs w A2 l): Calls Tryz.prog 91 #[.slice A us.length c,.slice A2 l.length c2] w (zBU (.int .i64 (useF us l)) w):=by
 have HC:=zq (fun W s (x:Strs W A us)=>zDr A c us s W hu x)
 go_enter Tryz.func91,Tryz.ntmps91;go_wp2
 go_loopg[9] l.length (UsesRel w us l)
 case atStart=>exact⟨⟨0,rfl⟩,0,za,rfl,fun j hj=>absurd hj za⟩
 case round =>
  obtain⟨⟨nd,hw⟩,k,hkm,rfl,hpre⟩:=hrel;subst hw;have HM:=zq hkm;have HP:=zq hpre;clear hkm hpre
  by_cases hlt:k<l.length
  ·obtain⟨b,o,hA,hb,hc⟩:=h2.at_ za
   subst hA;have hc0:=hc k hlt;have HCL:=zq hc;clear hc;have e0:usAt l k=l[k]:=usAt_of hlt;(go_wp2_with fail);(with_reducible refine(HC.o _ _ (h.drewN nd)).mono ?_);rintro e w' ⟨rfl,rfl⟩
   cases hm:memS us l[k]with
   |false =>
    have HF:Hid (useF us l=5):=useF_hit hlt HP.o (by unfold zBd;rw[e0,aD hm]);clear hm e0;exact tc5
   |true =>
    rcases cN k with h0|h0
    ·subst h0
     have HF:Hid (zBd us l 0=none):=by
      show _=_
      unfold zBd;rw[e0,aW (by rw[hm];simp),aW za]
     clear hm e0;go_wp2
     go_roundg (gk-1)
     case measure=>have:=HM.o;omega
     case rel=>exact⟨⟨nd,rfl⟩,1,by have:=HM.o;omega,zi,fun j hj=>by
      have e:j=0:=za;subst e;exact HF.o⟩
    ·have hcp:=HCL.o (k-1) za
     have hd:decide ((0:Int)<(k:Int))=true:=ze;have e1:usAt l (k-1)=l[k-1]'(by omega):=usAt_of za
     cases hle:sle l[k] (l[k-1]'(by omega))with
     |true =>
      have HF:Hid (useF us l=8):=useF_hit hlt HP.o (by unfold zBd;rw[e0,e1,aW (by rw[hm];simp),aD ⟨h0,hle⟩]);have hleb:=hle;unfold sle at hleb;clear hm e0 e1 hle;exact tc5
     |false =>
      have HF:Hid (zBd us l k=none):=by
       show _=_
       unfold zBd;rw[e0,e1,aW (by rw[hm];simp),aW (by rintro⟨_,h9⟩;rw[hle]at h9;cases h9)]
      have hleb:=hle;unfold sle at hleb;clear hm e0 e1 hle;go_wp2
      go_roundg (gk-1)
      case measure=>have:=HM.o;omega
      case rel =>
       refine⟨⟨nd,rfl⟩,k+1,by have:=HM.o;omega,zi,fun j hj=>?_⟩
       rcases aQ j k with h1|h1
       ·exact HP.o j h1
       ·have e:j=k:=by omega
        subst e;exact HF.o
  ·have HF:Hid (useF us l=0):=useF_none fun j hj=>HP.o j za
   exact tc5
def ptIs(fr:BA)(s:Sh):Bool:=decide (s.pt=fr)
def ShIx(w:World)(l:List Sh)(fr:BA)(m:Nat)(i:Value)(wr:World):Prop:=
 Below w.heap.size w wr/\∃k:Nat,k+m=l.length/\i=.int .i64 k/\(l.take k).any (ptIs fr)=false
def GivesPosB(t:Bool)(w:World)(e:Ending)(w':World):Prop:=∃z:Int,e=.returned (.int .i64 z)/\decide ((0:Int)<=z)=t/\Below w.heap.size w w'
theorem ptIs_c(s:Sh)(p:Nat)(fr:BA)(w:World)(hp:w.cell? ⟨p,4,none⟩=some (.string fr)): Calls Tryz.prog 267 #[.agg #[.string s.pt,.string s.nu,.string s.de],.pointer (some ⟨p,0,none⟩)] w (zAg (.bool (ptIs fr s)) w):=by
 have hpl:p<w.heap.size:=World.block_lt_of_cell? w _ hp
 by_cases h:s.pt=fr
 ·have hb:=zBx h
  have hv:ptIs fr s=true:=by unfold ptIs;exact aT h
  exact tbd
 ·have hb:=zBh h
  have hv:ptIs fr s=false:=by unfold ptIs;exact aU h
  exact tbd
theorem indexSh_c(A:Option Addr)(c p:Nat)(l:List Sh)(fr:BA)(w:World)(hn:l.length<=1000000)(h:Shs w A l)(hp:w.cell? ⟨p,4,none⟩=some (.string fr)): Calls Tryz.prog 301 #[.slice A l.length c,.func (.func 267) #[] #[.pointer (some ⟨p,0,none⟩)]] w (GivesPosB (l.any (ptIs fr)) w):=by
 have hpl:p<w.heap.size:=World.block_lt_of_cell? w _ hp
 go_enter Tryz.func301,Tryz.ntmps301;go_wp2
 go_loopg[8] l.length (ShIx w l fr)
 case atStart=>exact⟨aJ _ _,0,za,rfl,rfl⟩
 case round =>
  obtain⟨hbw,k,hk,rfl,hpre⟩:=hrel;have HK:=zq hk;have HP:=zq hpre;have HBW:=zq hbw;clear hk hpre hbw
  by_cases hlt:k<l.length
  ·obtain⟨b,o,hA,hb,hc⟩:=(h.below HBW.o).at_ za
   subst hA;obtain⟨c0,c1,c2⟩:=hc k hlt;clear hc;have HE:Hid (l.take (k+1)=l.take k++[l[k]]):=bA hlt;have HM:Hid (ptIs fr l[k]=true->l.any (ptIs fr)=true):=fun e=>List.any_eq_true.2 ⟨l[k],bI hlt,e⟩
   have hcall:=ptIs_c l[k] p fr wr ((HBW.o.cell (p:=⟨p,4,none⟩) hpl).trans hp);have HCALL:=zq hcall;clear hcall;(go_wp2_with fail);(with_reducible refine HCALL.o.mono ?_);rintro e w2⟨rfl,hb2⟩;have HB2:=zq (zAa HBW.o hb2);clear hb2 HCALL c0 c1 c2
   cases hx:ptIs fr l[k]with
   |true =>
    have HM2:=zq (HM.o hx);clear hx;go_wp2;go_ret
    exact⟨(k:Int),rfl,by rw[HM2.o];exact aT za,HB2.o⟩
   |false =>
    have HX:=zq hx;clear hx;go_wp2
    go_roundg (gk-1)
    case measure=>have:=HK.o;omega
    case rel=>exact⟨HB2.o,k+1,zh,zi,by rw[HE.o,dX,HP.o];simp[HX.o]⟩
  ·have HA:Hid (l.any (ptIs fr)=false):=by
    show _=_
    have:=HP.o
    rwa [bC za]at this
   go_wp2;go_ret
   exact⟨-1,rfl,by rw[HA.o];rfl,HBW.o⟩
theorem containsSh_c(A:Option Addr)(c p:Nat)(l:List Sh)(fr:BA)(w:World)(hn:l.length<=1000000)(h:Shs w A l)(hp:w.cell? ⟨p,4,none⟩=some (.string fr)): Calls Tryz.prog 266 #[.slice A l.length c,.func (.func 267) #[] #[.pointer (some ⟨p,0,none⟩)]] w (zAg (.bool (l.any (ptIs fr))) w):=by
 go_enter Tryz.func266,Tryz.ntmps266;(go_wp2_with fail);refine(indexSh_c A c p l fr w hn h hp).mono ?_;rintro e w1⟨z,rfl,hz,hb⟩;have HZ:=zq hz;clear hz;go_wp2;go_ret
 exact zAg.mk (zDm HZ.o) hb
def cutset:BA:=⟨#[97,98,99,100,101,102,103,104,105,106,107,108,109,110,111,112,113,114,115,116,117,118,119,120,121,122,48,49,50,51,52,53,54,55,56,57,45]⟩
theorem cut_okB(c:UInt8):cutset.data.toList.contains c=okB c:=by
 have h:∀n:Nat,n<256->cutset.data.toList.contains (UInt8.ofNat n)=okB (UInt8.ofNat n):=by decide +kernel
 have:=h c.toNat c.toNat_lt
 simpa using this
theorem zDs{p:UInt8->Bool}:∀{l:List UInt8}{b:UInt8},b∈l->p b=false->b∈l.dropWhile p
 |[],_,h,_=>by simp at h
 |a::t,b,h,hb=>by
  rw[List.dropWhile_cons]
  cases ha:p a with
  |false=>simpa using h
  |true =>
   simp only[if_true]
   rcases List.mem_cons.1 h with rfl|h
   ·rw[ha]at hb;cases hb
   ·exact zDs h hb
theorem dropWhile_all{p:UInt8->Bool}:∀{l:List UInt8},l.all p=true->l.dropWhile p=[]
 |[],_=>rfl
 |a::t,h=>by
  rw[List.all_cons,dN]at h;rw[List.dropWhile_cons,h.1]
  simpa using dropWhile_all h.2
theorem trim_empty(l:List UInt8):(Lib.trimS l cutset.data.toList).isEmpty=l.all okB:=by
 have hp:(fun b=>cutset.data.toList.contains b)=okB:=funext cut_okB
 cases ha:l.all okB with
 |true =>
  have:Lib.trimS l cutset.data.toList=[]:=by
   unfold Lib.trimS Lib.trimLeftS Lib.trimRightS;rw[hp,dropWhile_all (l:=l.reverse) (by rw[List.all_reverse];exact ha)]
   rfl
  rw[this];rfl
 |false =>
  obtain⟨b,hb,hn⟩:=List.all_eq_false.1 ha;have hn':okB b=false:=by simpa using hn
  have:b∈Lib.trimS l cutset.data.toList:=by
   unfold Lib.trimS Lib.trimLeftS Lib.trimRightS;rw[hp];exact zDs (List.mem_reverse.2 (zDs (List.mem_reverse.2 hb) hn')) hn'
  cases hs:Lib.trimS l cutset.data.toList with
  |nil=>rw[hs]at this;simp at this
  |cons a t=>rfl
theorem trimS_c(s:BA)(w:World)(hs:s.size<=9223372036854775807): Calls Tryz.prog 154 #[.string s,.string cutset] w (zAg (.string ⟨(Lib.trimS s.data.toList cutset.data.toList).toArray⟩) w):=
 Any.strings_Trim_laid Tryz.lays160 zb s cutset w hs zc (ascii_of_all (by decide +kernel))
theorem soundIsName_c(s:BA)(w:World)(hs:s.size<=9223372036854775807): Calls Tryz.prog 90 #[.string s] w (zAg (.bool (zBi s)) w):=by
 generalize hres:zBi s=res;have HR:=zq hres;clear hres
 by_cases h1:1<=s.size
 ·by_cases h2:s.size<=40
  ·by_cases h3:97<=(s[0]'h1).toNat
   ·by_cases h4:(s[0]'h1).toNat<=122
    ·have hall:(⟨(Lib.trimS s.data.toList cutset.data.toList).toArray⟩:BA).toList.isEmpty=res:=by
      rw[<-HR.o,isNm_all h1 h2 h3 h4,ByteArray.toList_mk,trim_empty]
     have hcon:=trimS_c s w hs;generalize (⟨(Lib.trimS s.data.toList cutset.data.toList).toArray⟩:BA)=r at hall hcon;have HC:=zq hcon;have HA:=zq hall;clear hcon hall
     go_enter Tryz.func90,Tryz.ntmps90;(go_wp2_with fail);refine HC.o.mono ?_;rintro e w' ⟨rfl,hB⟩;go_wp2;go_ret
     exact zAg.mk (zDm HA.o) hB
    ·have hres:res=false:=by
      rw[<-HR.o];unfold zBi;rw[headD_get s h1];simp[h4]
     exact tbi
   ·have hres:res=false:=by
     rw[<-HR.o];unfold zBi;rw[headD_get s h1];simp[h3]
    exact tbi
  ·have hres:res=false:=by
    rw[<-HR.o];unfold zBi;simp[h2]
   exact tbi
 ·have hres:res=false:=by
   rw[<-HR.o];unfold zBi;simp[h1]
  exact tbi
theorem zBE(s:BA)(w:World)(hs:s.size<=9223372036854775807): Calls Tryz.prog 41 #[.string s] w (zAg (.bool (zBi s)) w):=by
 go_enter Tryz.func41,Tryz.ntmps41;(go_wp2_with fail);refine(soundIsName_c s w hs).mono ?_;rintro e w' ⟨rfl,hB⟩;go_wp2;go_ret
 exact zAg.mk rfl hB
theorem Bx.set{w:World}{g:Nat}{cs:Array Value}{T:TypeId}(h:Bx w g cs T)(i:Nat)(v:Value):Bx (w.setCell ⟨g,i,none⟩ v) g (cs.setIfInBounds i v) T:=by
 have h':w.heap[g]?=some (.cells cs T (0,0)):=h;show(w.setCell ⟨g,i,none⟩ v).heap[g]?=_
 simp[World.setCell,Array.getElem?_modify,h']
theorem Bx.far{w:World}{g:Nat}{cs:Array Value}{T:TypeId}(h:Bx w g cs T){p:Addr}(hp:g≠p.block)(v:Value):Bx (w.setCell p v) g cs T:=(cW w p v g hp).trans h
abbrev rdC(ng:Bool)(A:Option Addr)(c n:Nat)(A2:Option Addr)(c2 d:Nat):Array Value:=#[.bool ng,.slice A (zAc B32 n).length c,.slice A2 (zAc B32 d).length c2]
structure ShSt (w:World) (d:De) (g:Nat) (A:Option Addr) (c:Nat) (A2:Option Addr) (c2:Nat) (pr:Nat×Nat) (W:World):Prop where
 bel:Below w.heap.size w W
 box:Bx W w.heap.size (deC d) 126
 sum:Bx W g (rdC false A c pr.1 A2 c2 pr.2) 86
 n1:Nt W A c pr.1
 n2:Nt W A2 c2 pr.2
 gt:w.heap.size<g
section
variable {w W W':World} {d:De} {g:Nat} {A A2:Option Addr} {c c2:Nat} {pr:Nat×Nat}
theorem ShSt.below(h:ShSt w d g A c A2 c2 pr W)(hb:Below W.heap.size W W'):ShSt w d g A c A2 c2 pr W':=
 ⟨zAa h.bel hb,h.box.below hb,h.sum.below hb,h.n1.below hb,h.n2.below hb,h.gt⟩
theorem ShSt.drewN(h:ShSt w d g A c A2 c2 pr W)(n:Nat):ShSt w d g A c A2 c2 pr (W.drewN n):=
 ⟨zAd h.bel n,h.box,h.sum,h.n1.drewN n,h.n2.drewN n,h.gt⟩
theorem ShSt.alloc(h:ShSt w d g A c A2 c2 pr W)(o:Obj):ShSt w d g A c A2 c2 pr (W.alloc o):=
 h.below ((aJ _ _).alloc (aE _) o)
theorem ShSt.store(h:ShSt w d g A c A2 c2 pr W){A' A2':Option Addr}{c' c2':Nat}{pr':Nat×Nat}(h1:Nt W A' c' pr'.1)(h2:Nt W A2' c2' pr'.2): ShSt w d g A' c' A2' c2' pr' (((W.setCell ⟨g,0,none⟩ (.bool false)).setCell ⟨g,1,none⟩ (.slice A' (zAc B32 pr'.1).length c')).setCell ⟨g,2,none⟩ (.slice A2' (zAc B32 pr'.2).length c2')):=by
 have hg:=h.gt;obtain⟨k0,k1,k2⟩:=h.sum.t;refine⟨((h.bel.setCell ze _).setCell ze _).setCell ze _,((h.box.far ze _).far ze _).far ze _,?_,h1.set3 k0 k1 k2 (nb_ _) (ns_ _ _ _) (ns_ _ _ _) _ _ _,h2.set3 k0 k1 k2 (nb_ _) (ns_ _ _ _) (ns_ _ _ _) _ _ _,hg⟩
 exact((h.sum.set 0 _).set 1 _).set 2 _
theorem ShSt.shs(h:ShSt w d g A c A2 c2 pr W)(hd:DeOk w d):Shs W d.shA d.sh:=hd.shs.below h.bel
end
theorem sumP_zero(l:List Sh):zDo l 0=(0,1):=rfl
theorem sumP_succ{l:List Sh}{k:Nat}(h:k<l.length):zDo l (k+1)=addP (zDo l k) (zAD (zBe l[k].nu),zAD l[k].de):=by
 unfold zDo;exact tc6
def ShLen(p:Nat×Nat)(k:Nat):Prop:=(zAc B32 p.1).length<=4001*k+1/\(zAc B32 p.2).length<=4001*k+1/\0<p.2
theorem shLen_succ{p:Nat×Nat}{k n d:Nat}(h:ShLen p k)(hn:(zAc B32 n).length<=2000)(hd:(zAc B32 d).length<=2000)(hd0:0<d):ShLen (addP p (n,d)) (k+1):=by
 obtain⟨h1,h2,h3⟩:=h;have e1:=zCC p.1 d;have e2:=zCC n p.2;have e3:=len_add (p.1*d) (n*p.2);have e4:=zCC p.2 d;have hp:0<p.2*d:=dH h3 hd0;have f1:=zAI zAn (Nat.div_le_self (p.1*d+n*p.2) (Nat.gcd (p.1*d+n*p.2) (p.2*d)));have f2:=zAI zAn (Nat.div_le_self (p.2*d) (Nat.gcd (p.1*d+n*p.2) (p.2*d)));refine⟨?_,?_,Nat.div_pos (Nat.le_of_dvd hp (Nat.gcd_dvd_right _ _)) (dS _ hp)⟩
 ·show(zAc B32 ((p.1*d+n*p.2)/Nat.gcd (p.1*d+n*p.2) (p.2*d))).length<=_
  omega
 ·show(zAc B32 (p.2*d/Nat.gcd (p.1*d+n*p.2) (p.2*d))).length<=_
  omega
theorem ptAt_of{l:List Sh}{i:Nat}(h:i<l.length):ptAt l i=l[i].pt:=by simp[ptAt,List.getD,h]
theorem shD_of{l:List Sh}{i:Nat}(h:i<l.length):l.getD i default=l[i]:=by simp[List.getD,h]
theorem zCv{nu de:BA}(h:ratF nu de=0):numB (zBe nu)=true/\numB de=true/\de≠zeroS/\(zBe nu).size<=2000/\de.size<=2000:=by
 unfold ratF at h
 split at h
 ·cases h
 ·next h1 =>
  split at h
  ·cases h
  ·next h2 =>
   refine⟨?_,?_,?_,za,za⟩
   ·cases hq:numB (zBe nu)with
    |true=>rfl
    |false=>exact absurd (.inl hq) h1
   ·cases hq:numB de with
    |true=>rfl
    |false=>exact absurd (.inr (.inr (.inl hq))) h1
   ·exact fun e=>h1 (.inr (.inr (.inr e)))
theorem absN_size(s:BA):(zBe s).size<=s.size:=by
 show(absL s).toArray.size<=_
 unfold absL;have e:s.data.toList.length=s.size:=Array.length_toList
 split
 ·rw[List.size_toArray,List.length_tail];omega
 ·rw[List.size_toArray];omega
theorem posB_sgn(nu:BA):decide (sgnI (sgB nu) (zAD (zBe nu))<=0)=!posB nu:=by
 unfold sgnI sgB posB
 cases negB nu<;>by_cases h:zAD (zBe nu)=0<;>simp[h]
theorem posB_sg{nu:BA}(h:posB nu=true):sgB nu=false:=by
 unfold posB at h;unfold sgB
 cases hn:negB nu<;>simp_all
def ShRel(w:World)(d:De)(g:Nat)(m:Nat)(i:Value)(wr:World):Prop:=
 ∃A c A2 c2 k,ShSt w d g A c A2 c2 (zDo d.sh k) wr/\ShLen (zDo d.sh k) k/\k+m=d.sh.length/\i=.int .i64 (k:Nat)/\∀j,j<k->zBg d.sh j=none
def zCw(d:De):Int:=if shF d.kd d.sh≠0 then shF d.kd d.sh else if d.kd=5/\(d.sh.any fun s=>decide (s.pt=d.fr))=true then 12 else 0
theorem whole0_c(w:World):Calls Tryz.prog 49 #[.int .i64 0] w (zCa false 0 1 w):=Whole_c 0 w za
theorem whole1_c(w:World):Calls Tryz.prog 49 #[.int .i64 1] w (zCa false 1 1 w):=Whole_c 1 w za
def shEnd(d:De):Int:=if (zDo d.sh d.sh.length).2<(zDo d.sh d.sh.length).1\/(d.kd=5/\(zDo d.sh d.sh.length).1≠(zDo d.sh d.sh.length).2) then 1 else if d.kd=5/\(d.sh.any (ptIs d.fr))=true then 12 else 0
def shRest(s:Sh):Option Int:=if ratF s.nu s.de≠0 then some (ratF s.nu s.de) else if posB s.nu=false then some 1 else none
theorem shFault_nz{l:List Sh}{k:Nat}{f:Int}(h:zBg l k=some f):f≠0:=by
 unfold zBg at h
 split at h
 ·cases h;decide
 ·split at h
  ·cases h;decide
  ·split at h
   ·next hr=>cases h;exact hr
   ·split at h
    ·cases h;decide
    ·cases h
theorem shFull_hit{d:De}{k:Nat}{f:Int}(hne:d.sh≠[])(h20:¬20<d.sh.length)(hk:k<d.sh.length)(hp:∀j,j<k->zBg d.sh j=none)(hf:zBg d.sh k=some f):zCw d=f:=by
 have e:shF d.kd d.sh=f:=by
  unfold shF;rw[aW hne,aW h20,zBf hk hp hf]
 unfold zCw;rw[e,aD (shFault_nz hf)]
theorem shFull_none{d:De}(hne:d.sh≠[])(h20:¬20<d.sh.length)(hp:∀j,j<d.sh.length->zBg d.sh j=none):zCw d=shEnd d:=by
 have e:shF d.kd d.sh=if (zDo d.sh d.sh.length).2<(zDo d.sh d.sh.length).1\/(d.kd=5/\(zDo d.sh d.sh.length).1≠(zDo d.sh d.sh.length).2) then 1 else 0:=by
  unfold shF;rw[aW hne,aW h20,zBl hp]
 unfold zCw shEnd;rw[e]
 by_cases h:(zDo d.sh d.sh.length).2<(zDo d.sh d.sh.length).1\/(d.kd=5/\(zDo d.sh d.sh.length).1≠(zDo d.sh d.sh.length).2)
 ·rw[aD h,aD h];rfl
 ·rw[aW h,aW h];rfl
theorem checkShares_c(d:De)(w:World)(hd:DeOk w d):Calls Tryz.prog 200 #[deV d] w (zAg (.int .i64 (zCw d)) w):=by
 generalize hres:zCw d=res;have HR:=zq hres;clear hres;have HD:=zq hd;clear hd;have HX:Hid (Bx (w.alloc (.cells (deC d) 126)) w.heap.size (deC d) 126):=Bx.new _ _ _;have HB:Hid (Below w.heap.size w (w.alloc (.cells (deC d) 126))):=(aJ w.heap.size w).alloc (aE _) _;obtain⟨W,hW⟩:∃W,W=w.alloc (.cells (deC d) 126):=⟨_,rfl⟩;rw[<-hW]at HX HB;have hsz:w.heap.size<W.heap.size:=HX.o.lt
 go_enter Tryz.func200,Tryz.ntmps200
 by_cases h0:d.sh.length=0
 ·have HS:Hid (res=9):=by
   show _=_
   rw[<-HR.o];unfold zCw shF;have:d.sh=[]:=List.length_eq_zero_iff.1 h0;simp[this]
  go_wp2;go_ret
  exact zAg.mk (zCp HS.o.symm) (hW▸HB.o)
 ·by_cases h20:20<d.sh.length
  ·have HS:Hid (res=2):=by
    show _=_
    rw[<-HR.o];unfold zCw shF;have:d.sh≠[]:=fun e=>h0 (by rw[e];rfl)
    simp[this,h20]
   go_wp2;go_ret
   exact zAg.mk (zCp HS.o.symm) (hW▸HB.o)
  ·have hne:d.sh≠[]:=fun e=>h0 (by rw[e];rfl)
   have HH:Hid (∀k f,k<d.sh.length->(∀j,j<k->zBg d.sh j=none)->zBg d.sh k=some f->res=f):=by
    intro k f hk hp hf;rw[<-HR.o];exact shFull_hit hne h20 hk hp hf
   have HN:Hid ((∀j,j<d.sh.length->zBg d.sh j=none)->shEnd d=res):=by
    intro hp;rw[<-HR.o];exact(shFull_none hne h20 hp).symm
   have x14:=HX.o.c 14 rfl;(go_wp2_with fail);rw[<-hW];(with_reducible refine(whole0_c W).mono ?_);rintro e w1⟨A1,c1,A2,c2,rfl,hn1,hn2,hb1⟩;have HX1:=zq (HX.o.below hb1);have HB1:=zq (zAa HB.o hb1);have hs1:=hb1.size
   have HST:Hid (ShSt w d w1.heap.size A1 c1 A2 c2 (zDo d.sh 0) (w1.alloc (.cells (rdC false A1 c1 0 A2 c2 1) 86))):=
    ⟨HB1.o.alloc za _,HX1.o.alloc _,Bx.new _ _ _,hn1.alloc _,hn2.alloc _,za⟩
   have y14:=HX1.o.c 14 rfl;have hlt1:=HX1.o.lt;clear hb1 x14;go_wp2;obtain⟨b,o,hA,hb0,hc0⟩:=HD.o.shs.at_ za;have HC0:=zq hc0;clear hc0;rw[hA]
   go_loopg[21] d.sh.length (ShRel w d w1.heap.size)
   case atStart=>exact⟨A1,c1,A2,c2,0,HST.o,⟨by rw[sumP_zero];decide,by rw[sumP_zero];decide,by rw[sumP_zero];decide⟩,za,rfl,fun j hj=>absurd hj za⟩
   case round =>
    clear HST HB1 HX1 hn1 hn2 y14 hs1 hW HX HB hsz;obtain⟨A3,c3,A4,c4,k,hst,hle,hkm,rfl,hpre⟩:=hrel;have HST:=zq hst;have HLE:=zq hle;have HKM:=zq hkm;have HP:=zq hpre;have hkl:k<=d.sh.length:=za;clear hst hle hkm hpre;have HSH:=zq (HST.o.shs HD.o)
    by_cases hlt:k<d.sh.length
    ·have hb:b<wr.heap.size:=aB hb0 HST.o.bel.size
     have hc:∀i (h:i<d.sh.length),wr.cell? ⟨b,o+i*3,none⟩=some (.string (d.sh[i]).pt)/\wr.cell? ⟨b,o+i*3+1,none⟩=some (.string (d.sh[i]).nu)/\wr.cell? ⟨b,o+i*3+2,none⟩=some (.string (d.sh[i]).de):=
      fun i h=>⟨(HST.o.bel.cell hb0).trans (HC0.o i h).1,(HST.o.bel.cell hb0).trans (HC0.o i h).2.1,(HST.o.bel.cell hb0).trans (HC0.o i h).2.2⟩
     have HCL:=zq hc;obtain⟨s0,s1,s2⟩:=hc k hlt;clear hc;have HSB:Hid (Bx (wr.alloc (.cells #[.string d.sh[k].pt,.string d.sh[k].nu,.string d.sh[k].de] 38)) wr.heap.size #[.string d.sh[k].pt,.string d.sh[k].nu,.string d.sh[k].de] 38):=Bx.new _ _ _;have HST1:=zq (HST.o.alloc (.cells #[.string d.sh[k].pt,.string d.sh[k].nu,.string d.sh[k].de] 38));have hsz1:=(HD.o.shz _ (bI hlt)).1;have hz1:=dC (absN_size d.sh[k].nu) (HD.o.shz _ (bI hlt)).2.1;have hz2:=(HD.o.shz _ (bI hlt)).2.2;(go_wp2_with fail);(with_reducible refine(zBE d.sh[k].pt _ hsz1).mono ?_);rintro e w2⟨rfl,hb2⟩;have HST2:=zq (HST1.o.below hb2);have hbw:Below wr.heap.size wr w2:=((aJ _ _).alloc (aE _) _).trans (hb2.mono zd);have HSB2:=zq (HSB.o.below hb2);clear HST1 HSB hb2
     cases hnm:zBi d.sh[k].pt with
     |false =>
      have HS:Hid (res=5):=HH.o k 5 hlt HP.o (by unfold zBg;rw[ptAt_of hlt,aD hnm]);clear hnm;go_wp2;go_ret
      exact zAg.mk (zCp HS.o.symm) HST2.o.bel
     |true =>
      have HNM:=zq hnm;clear hnm;have yd:w2.cell? ⟨w.heap.size,14,none⟩=some (.slice (some ⟨b,o,none⟩) d.sh.length d.shc):=by rw[<-hA];exact HST2.o.box.c 14 rfl
      have ye:=HST2.o.box.lt;obtain⟨z0,z1,z2⟩:=HSB2.o.t;have HPV:Hid (∀(h:0<k),w2.cell? ⟨b,o+(k-1)*3,none⟩=some (.string (d.sh[k-1]'(by omega)).pt)):=fun h=>(hbw.cell hb).trans (HCL.o (k-1) za).1
      clear hbw s0 s1 s2
      by_cases hk0:0<k
      case' pos =>
       have zp:=HPV.o hk0;have hd:decide ((0:Int)<(k:Int))=true:=ze;have hd0:decide ((0:Int)<=(k:Int)-1)=true:=ze
       cases hle:sle d.sh[k].pt (d.sh[k-1]'(by omega)).pt
       case' true =>
        have HS:Hid (res=8):=HH.o k 8 hlt HP.o (by unfold zBg;rw[ptAt_of hlt,ptAt_of (show k-1<d.sh.length by omega),aW (by rw[HNM.o];simp),aD ⟨hk0,hle⟩]);unfold sle at hle;clear HPV HCL;go_wp2;go_quiet(fail);go_wp2;go_ret
        exact zAg.mk (zCp HS.o.symm) (zAd HST2.o.bel _)
       case' false =>
        have HF:Hid (zBg d.sh k=shRest d.sh[k]):=by
         show _=_
         unfold zBg shRest;rw[shD_of hlt,ptAt_of hlt,ptAt_of (show k-1<d.sh.length by omega),aW (by rw[HNM.o];simp),aW (fun hh=>by rw[hle]at hh;cases hh.2)]
        unfold sle at hle
      case' neg =>
       have hd:decide ((0:Int)<(k:Int))=false:=ze
       have HF:Hid (zBg d.sh k=shRest d.sh[k]):=by
        show _=_
        unfold zBg shRest;rw[shD_of hlt,ptAt_of hlt,aW (by rw[HNM.o];simp),aW (fun hh=>hk0 hh.1)]
      all_goals
       clear HPV HCL HNM;go_wp2;go_quiet(fail);(go_wp2_with fail);(with_reducible refine(CheckRatio_c d.sh[k].nu d.sh[k].de _ hz1 hz2).mono ?_);rintro e w3⟨rfl,hb3⟩;have HST3:=zq ((HST2.o.drewN nq).below hb3);have HSB3:=zq ((HSB2.o.drewN nq).below hb3);clear yd ye z0 z1 z2 hb3 HSB2 HST2
       by_cases hr:ratF d.sh[k].nu d.sh[k].de=0
       case' neg =>
        have HS:Hid (res=ratF d.sh[k].nu d.sh[k].de):=HH.o k _ hlt HP.o (by rw[HF.o];unfold shRest;rw[aD hr]);have hrb:(ratF d.sh[k].nu d.sh[k].de != 0)=true:=by simpa using hr
        clear hr;go_wp2;go_ret
        exact zAg.mk (zCp HS.o.symm) HST3.o.bel
       have HF2:Hid (zBg d.sh k=if posB d.sh[k].nu=false then some 1 else none):=by
        show _=_
        rw[HF.o];unfold shRest;rw[aW (by rw[hr];decide)]
       obtain⟨q1,q2,q3,q4,q5⟩:=zCv hr;have HLN:Hid ((zAc B32 (zAD (zBe d.sh[k].nu))).length<=2000):=len_val (zBc q1).1 q4;have HLD:Hid ((zAc B32 (zAD d.sh[k].de)).length<=2000):=len_val (zBc q2).1 q5;have HDP:Hid (0<zAD d.sh[k].de):=den_pos q2 q3;have HFR:=zq (From_c d.sh[k].nu d.sh[k].de w3 (zBc q1).1 q4 (zBc q2).1 q5);obtain⟨z0,z1,z2⟩:=HSB3.o.t;rw[hr];clear q1 q2 q3 q4 q5 hr HF HSB3;(go_wp2_with fail);(with_reducible refine HFR.o.mono ?_);rintro e w4⟨A5,c5,A6,c6,rfl,h5,h6,hb4⟩;have HST4:=zq (HST3.o.below hb4);clear z0 z1 z2 hb4 HST3 HFR;have HXB:Hid (Bx (w4.alloc (.cells (rdC (sgB d.sh[k].nu) A5 c5 (zAD (zBe d.sh[k].nu)) A6 c6 (zAD d.sh[k].de)) 86)) w4.heap.size (rdC (sgB d.sh[k].nu) A5 c5 (zAD (zBe d.sh[k].nu)) A6 c6 (zAD d.sh[k].de)) 86):=Bx.new _ _ _;have HST5:=zq (HST4.o.alloc (.cells (rdC (sgB d.sh[k].nu) A5 c5 (zAD (zBe d.sh[k].nu)) A6 c6 (zAD d.sh[k].de)) 86));have H5:=zq (h5.alloc (.cells (rdC (sgB d.sh[k].nu) A5 c5 (zAD (zBe d.sh[k].nu)) A6 c6 (zAD d.sh[k].de)) 86));have H6:=zq (h6.alloc (.cells (rdC (sgB d.sh[k].nu) A5 c5 (zAD (zBe d.sh[k].nu)) A6 c6 (zAD d.sh[k].de)) 86));clear h5 h6 HST4;(go_wp2_with fail);(with_reducible refine(RSign_c (sgB d.sh[k].nu) A5 A6 c5 c6 (zAD (zBe d.sh[k].nu)) (zAD d.sh[k].de) _).mono ?_);rintro e w5⟨rfl,hb5⟩;have HST6:=zq (HST5.o.below hb5);have HXB6:=zq (HXB.o.below hb5);have H56:=zq (H5.o.below hb5);have H66:=zq (H6.o.below hb5);have hsg:=posB_sgn d.sh[k].nu;clear hb5 HST5 HXB H5 H6
       cases hp:posB d.sh[k].nu with
       |false =>
        have HS:Hid (res=1):=HH.o k 1 hlt HP.o (by rw[HF2.o,aD hp]);rw[hp]at hsg;clear hp;go_wp2;go_ret
        exact zAg.mk (zCp HS.o.symm) HST6.o.bel
       |true =>
        have HF3:Hid (zBg d.sh k=none):=by
         show _=_
         rw[HF2.o,aW (by rw[hp];simp)]
        have hsb:=posB_sg hp;rw[hp]at hsg;clear hp HF2;have HSUM:Hid (zDo d.sh (k+1)=addP (zDo d.sh k) (zAD (zBe d.sh[k].nu),zAD d.sh[k].de)):=sumP_succ hlt;have HLS:=zq (shLen_succ HLE.o HLN.o HLD.o HDP.o);have hk20:k<20:=za;have hle1:=HLE.o.1;have hle2:=HLE.o.2.1;have hle3:=HLE.o.2.2;have HADD:=zq (RAdd_c A3 A4 A5 A6 c3 c4 c5 c6 (zDo d.sh k).1 (zDo d.sh k).2 (zAD (zBe d.sh[k].nu)) (zAD d.sh[k].de) w5 HST6.o.n1 HST6.o.n2 H56.o H66.o za za (dC HLN.o za) (dC HLD.o za) hle3 HDP.o);rw[hsb]at hsg HXB6;rw[hsb];obtain⟨a0,a1,a2⟩:=HST6.o.sum.t;obtain⟨x0,x1,x2⟩:=HXB6.o.t;clear hle1 hle2 hle3 HLE HXB6 H56 H66;(go_wp2_with fail);(with_reducible refine HADD.o.mono ?_);rintro e w6⟨A7,c7,A8,c8,rfl,h7,h8,hb6⟩;have HST7:=zq (HST6.o.below hb6);obtain⟨r0,r1,r2⟩:=HST7.o.sum.t;have fr:=HST7.o.sum.frozen;have rl:=HST7.o.sum.lt;have HST8:=zq (HST7.o.store (pr':=addP (zDo d.sh k) (zAD (zBe d.sh[k].nu),zAD d.sh[k].de)) h7 h8);clear a0 a1 a2 x0 x1 x2 hb6 h7 h8 HST6 HADD hsg hsb;go_wp2
        go_roundg (gk-1)
        case measure=>have:=HKM.o;omega
        case rel =>
         refine⟨A7,c7,A8,c8,k+1,by rw[HSUM.o];exact HST8.o,by rw[HSUM.o];exact HLS.o,by have:=HKM.o;omega,zi,fun j hj=>?_⟩
         rcases aQ j k with h9|h9
         ·exact HP.o j h9
         ·obtain rfl:j=k:=by omega
          exact HF3.o
    ·have hke:k=d.sh.length:=by omega
     rw[hke]at HST HLE HP;have HE:=zq (HN.o HP.o);have hl1:(zAc B32 (zDo d.sh d.sh.length).1).length<=100000000:=dC HLE.o.1 za;have hl2:(zAc B32 (zDo d.sh d.sh.length).2).length<=100000000:=dC HLE.o.2.1 za;have HL1:=zq hl1;have HL2:=zq hl2;clear hl1 hl2 HLE HP HC0;obtain⟨a0,a1,a2⟩:=HST.o.sum.t;go_wp2
     go_region_held3 (fun w'=>w'.cell? ⟨w1.heap.size,0,none⟩=some (.bool false)/\w'.cell? ⟨w1.heap.size,1,none⟩=some (.slice A3 (zAc B32 (zDo d.sh d.sh.length).1).length c3)/\w'.cell? ⟨w1.heap.size,2,none⟩=some (.slice A4 (zAc B32 (zDo d.sh d.sh.length).2).length c4)) ((refine⟨?_,?_,?_⟩<;>first|with_reducible assumption|go_simp))
      (first
       |((go_at_call 49;(with_reducible refine(whole1_c _).mono ?_);rintro e w8⟨A7,c7,A8,c8,rfl,h7,h8,hb8⟩;have HST8:=zq ((HST.o.drewN 1).below hb8);obtain⟨b0,b1,b2⟩:=HST8.o.sum.t;clear hb8))
       |((go_at_call 48;(with_reducible refine(RCmp_c A3 A4 A7 A8 c3 c4 c7 c8 _ _ 1 1 w8 HST8.o.n1 HST8.o.n2 h7 h8 HL1.o HL2.o zc zc).mono ?_);rintro e w9⟨rfl,hb9⟩;have HST9:=zq (HST8.o.below hb9);obtain⟨d0,d1,d2⟩:=HST9.o.sum.t;clear hb9)))
     clear a0 a1 a2 b0 b1 b2 d0 d1 d2 HST HST8 h7 h8 HL1 HL2 HSH;have y2:w9.cell? ⟨w.heap.size,2,none⟩=some (.int .i64 d.kd):=HST9.o.box.c 2 rfl;have y14:w9.cell? ⟨w.heap.size,14,none⟩=some (.slice d.shA d.sh.length d.shc):=HST9.o.box.c 14 rfl;have yl:=HST9.o.box.lt;have HCO:=zq (containsSh_c d.shA d.shc w.heap.size d.sh d.fr w9 za (HST9.o.shs HD.o) (HST9.o.box.c 4 rfl));have he:=HE.o;unfold shEnd at he;clear HE HN HH HR
     try simp only[cR,Nat.one_mul]
     rcases Nat.lt_trichotomy (zDo d.sh d.sh.length).2 (zDo d.sh d.sh.length).1 with h|h|h
     ·rw[aD (.inl h)]at he
      rw[zCS h];have HS:=zq he;clear he h;go_wp2;go_ret
      exact zAg.mk (zCp HS.o) HST9.o.bel
     ·rw[aW za]at he
      rw[zDq h.symm]
      by_cases hk:d.kd=5
      ·have hkb:(d.kd == 5)=true:=by rw[hk];rfl
       cases hany:d.sh.any (ptIs d.fr)with
       |true =>
        rw[aD ⟨hk,hany⟩]at he;exact ta0
       |false =>
        rw[aW (fun hh=>by rw[hany]at hh;cases hh.2)]at he;exact ta0
      ·have hkb:(d.kd == 5)=false:=by simpa using hk
       rw[aW (fun hh=>hk hh.1)]at he;exact tcn
     ·rw[zCI h]
      by_cases hk:d.kd=5
      ·have hkb:(d.kd == 5)=true:=by rw[hk];rfl
       rw[aD (.inr ⟨hk,za⟩)]at he;exact tcn
      ·have hkb:(d.kd == 5)=false:=by simpa using hk
       rw[aW za,aW (fun hh=>hk hh.1)]at he;exact tcn
end Go.Proofs.YtbbchlpccgkikaaGreatDoor
namespace Dw
open Go Go.RowKit
structure KeyT (P:Program) (K:TypeId) {κ:Type} [DecidableEq κ] (mk:κ->Value):Prop where
 same:∃d,P.underlying K=some d/\∀a b,Instr.sameNow d (mk a) (mk b)=some (decide (a=b))
 bits:∀a,Instr.sameBits 10000 (mk a) (mk a)=true
 chk:∀(b:Bool)(a:κ)(w:World),(Instr.checkKey b 10000 K (mk a)).run P w=.ok () w
def zAP{κ:Type}[DecidableEq κ](es:List (κ×Value))(k:κ):Option Value:=(es.find? fun e=>decide (k=e.1)).map (·.2)
def zAu{κ:Type}[DecidableEq κ](mk:κ->Value)(w:World)(r:Nat)(f:κ->Option Value):Prop:=
 ∃(es:Array MapEntry)(clk:Nat)(L:List (κ×Value)),w.heap[r]?=some (.map es clk)/\es.toList.map (fun e=>(e.key,e.val))=L.map (fun p=>(mk p.1,p.2))/\∀k,zAP L k=f k
section
variable {κ:Type} [DecidableEq κ] {mk:κ→Value} {w w':World} {r:Nat} {f:κ→Option Value}
theorem zAu.lt(h:zAu mk w r f):r<w.heap.size:=by
 obtain⟨es,clk,L,hr,_⟩:=h;exact(Array.getElem?_eq_some_iff.1 hr).1
theorem zAu.keep(h:zAu mk w r f)(hk:w'.heap[r]?=w.heap[r]?):zAu mk w' r f:=by
 obtain⟨es,clk,L,hr,rest⟩:=h;exact⟨es,clk,L,hk.trans hr,rest⟩
theorem zAu.below(h:zAu mk w r f)(hb:Below w.heap.size w w'):zAu mk w' r f:=h.keep (hb.block r h.lt)
theorem zAu.alloc(h:zAu mk w r f)(o:Obj):zAu mk (w.alloc o) r f:=h.keep (dT w o r h.lt)
theorem zAu.drewN(h:zAu mk w r f)(n:Nat):zAu mk (w.drewN n) r f:=h
theorem zAu.new(mk:κ->Value)(w:World):zAu mk (w.alloc (.map #[] 0)) w.heap.size (fun _=>none):=
 ⟨#[],0,[],aK w _,rfl,fun _=>rfl⟩
theorem zAu.setCell(h:zAu mk w r f){a:Addr}(ha:r≠a.block)(u:Value):zAu mk (w.setCell a u) r f:=h.keep (dY w a r u ha)
end
theorem zDb{κ:Type}[DecidableEq κ]{mk:κ->Value}{d:TypeDesc}(hs:∀a b,Instr.sameNow d (mk a) (mk b)=some (decide (a=b)))(k:κ): ∀(es:List MapEntry)(L:List (κ×Value))(i:Nat),es.map (fun e=>(e.key,e.val))=L.map (fun p=>(mk p.1,p.2)) ->
   ∃o,Instr.findNow d (mk k) es i=some o/\o.map (·.2)=zAP L k /\
    (∀j v,o=some (j,v)->i<=j/\j-i<L.length/\(L[j-i]?).map (·.1)=some k/\∀t,t<j-i->(L[t]?).map (·.1)≠some k):=by
 intro es
 induction es with
 |nil =>
  intro L i h
  cases L with
  |nil=>exact⟨none,rfl,rfl,fun j v h=>qg⟩
  |cons a t=>simp at h
 |cons e es ih =>
  intro L i h
  cases L with
  |nil=>simp at h
  |cons a t =>
   simp only[dZ,eA,Prod.mk.injEq]at h;obtain⟨⟨hk,hv⟩,ht⟩:=h;unfold Instr.findNow;rw[hk,hs]
   by_cases he:k=a.1
   ·refine⟨some (i,e.val),by simp[he],?_,?_⟩
    ·simp[zAP,he,hv]
    ·intro j v hj
     simp only[aI,Prod.mk.injEq]at hj;obtain⟨rfl,rfl⟩:=hj;simp[he]
   ·obtain⟨o,h1,h2,h3⟩:=ih t (i+1) ht
    refine⟨o,by simpa[he]using h1,?_,?_⟩
    ·rw[h2];simp[zAP,he]
    ·intro j v hj
     obtain⟨h4,h5,h6,h7⟩:=h3 j v hj;have e1:j-i=(j-(i+1))+1:=za;refine⟨za,ze,by rw[e1];simpa using h6,fun s hs=>?_⟩
     cases s with
     |zero=>simp;exact fun hh=>he hh.symm
     |succ s=>simpa using h7 s za
section
variable {P:Program} {κ:Type} [DecidableEq κ] {mk:κ→Value} {T K E:TypeId}
theorem zAp(hT:P.underlying T=some (.map K E))(hK:KeyT P K mk){z:Value}(hz:∀w,(zeroValue E).run P w=.ok z w){w:World}{r:Nat}{f:κ->Option Value}(h:zAu mk w r f)(k:κ)(ok:Bool): (Instr.lookup T (.map (some r)) (mk k) ok).run P w=.ok (if ok then .tuple #[(f k).getD z,.bool (f k).isSome] else (f k).getD z) w:=by
 obtain⟨es,clk,L,hr,hL,hf⟩:=h;obtain⟨d,hd,hs⟩:=hK.same;obtain⟨o,h1,h2,_⟩:=zDb hs k es.toList L 0 hL;have hg:(getObj r).run P w=.ok (.map es clk) w:=qd
 have hfk:(Instr.findKey K (mk k) es.toList).run P w=.ok o w:=by
  simp[Instr.findKey,run_underlying hd,h1]
 rw[hf]at h2
 cases o with
 |none =>
  have:f k=none:=qk;simp[Instr.lookup,run_underlying hT,hg,hK.chk,hfk,hz,this]
 |some p =>
  obtain⟨i,v⟩:=p;have:f k=some v:=qk;simp[Instr.lookup,run_underlying hT,hg,hK.chk,hfk,this]
theorem chk_string(hK:P.underlying K=some .string)(b:Bool)(a:BA)(w:World)(n:Nat):(Instr.checkKey b (n+1) K (.string a)).run P w=.ok () w:=by
 simp[Instr.checkKey,run_underlying hK]
theorem chk_int(hK:P.underlying K=some (.int .i64))(b:Bool)(a:Int)(w:World)(n:Nat):(Instr.checkKey b (n+1) K (.int .i64 a)).run P w=.ok () w:=by
 simp[Instr.checkKey,run_underlying hK]
theorem zAZ(hK:P.underlying K=some .string):KeyT P K Value.string where
 same:=⟨_,hK,fun a b=>by
  simp only[Instr.sameNow,aI];rw[beq_toListBytes,bD]
  constructor
  ·intro h
   have h':a.toList=b.toList:=zr;rw[ByteArray.toList_eq,ByteArray.toList_eq]at h'
   simpa using ByteArray.ext (Array.toList_inj.1 h')
  ·intro h
   have:a=b:=zr;subst this;simp⟩
 bits a:=by
  simp only[Instr.sameBits];rw[beq_toListBytes];simp
 chk b a w:=chk_string hK b a w 9999
theorem keyT_int(hK:P.underlying K=some (.int .i64)):KeyT P K (fun n:Int=>Value.int .i64 n) where
 same:=⟨_,hK,fun a b=>by simp only[Instr.sameNow,if_true,aI];rfl⟩
 bits a:=by simp[Instr.sameBits]
 chk b a w:=chk_int hK b a w 9999
theorem lookE_set{L:List (κ×Value)}{j:Nat}{k:κ}{v:Value}(hj:j<L.length)(hk:(L[j]?).map (·.1)=some k)(hmin:∀t,t<j->(L[t]?).map (·.1)≠some k): ∀k',zAP (L.modify j fun _=>(k,v)) k'=if k'=k then some v else zAP L k':=by
 induction L generalizing j with
 |nil=>simp at hj
 |cons a t ih =>
  intro k'
  cases j with
  |zero =>
   have ha:a.1=k:=by simpa using hk
   by_cases h:k'=k
   ·subst h;simp[zAP]
   ·simp[zAP,h,ha]
  |succ j =>
   have ha:a.1≠k:=by
    have:=hmin 0 za
    simpa using this
   have:=ih (j:=j) yg (by simpa using hk) (fun s hs=>by simpa using hmin (s+1) za) k'
   by_cases h:k'=a.1
   ·subst h;simp[zAP,ha]
   ·simp only[List.modify_succ_cons]
    unfold zAP at this ⊢;rw[List.find?_cons_of_neg zr,List.find?_cons_of_neg zr];exact this
theorem lookE_push{L:List (κ×Value)}{k:κ}{v:Value}(h:zAP L k=none):∀k',zAP (L++[(k,v)]) k'=if k'=k then some v else zAP L k':=by
 intro k';unfold zAP at *;rw[List.find?_append]
 by_cases hk:k'=k
 ·subst hk
  have:L.find? (fun e=>decide (k'=e.1))=none:=zr;simp[this]
 ·simp only[List.find?_cons,hk,decide_false,List.find?_nil,if_false]
  cases L.find? (fun e=>decide (k'=e.1))<;>rfl
theorem zAS(hT:P.underlying T=some (.map K E))(hK:KeyT P K mk){w:World}{r:Nat}{f:κ->Option Value}(h:zAu mk w r f)(k:κ)(v:Value): ∃w',(Instr.mapUpdate T (.map (some r)) (mk k) v).run P w=.ok () w'/\zAu mk w' r (fun k'=>if k'=k then some v else f k')/\w.grownBy w' (some r)/\w'.heap.size=w.heap.size:=by
 obtain⟨es,clk,L,hr,hL,hf⟩:=h;have hrl:r<w.heap.size:=(Array.getElem?_eq_some_iff.1 hr).1;obtain⟨d,hd,hs⟩:=hK.same;obtain⟨o,h1,h2,h3⟩:=zDb hs k es.toList L 0 hL;have hg:(getObj r).run P w=.ok (.map es clk) w:=qd;have hset:∀(es':Array MapEntry)(c':Nat),(setObj r (.map es' c')).run P w=.ok () { w with heap:=w.heap.setIfInBounds r (.map es' c') }:=fun es' c'=>by simp[setObj,Sem.run,hr]
 have hfk:(Instr.findKey K (mk k) es.toList).run P w=.ok o w:=by
  simp[Instr.findKey,run_underlying hd,h1]
 have hgrow:∀(es':Array MapEntry)(c':Nat),w.grownBy { w with heap:=w.heap.setIfInBounds r (.map es' c') } (some r):=fun es' c' =>
  ⟨rfl,rfl,rfl,zd,fun i hi hne=>by simp only[Array.getElem?_setIfInBounds];rw[aW (fun e=>hne (by rw[e]))]⟩
 have hget:∀(es':Array MapEntry)(c':Nat),({ w with heap:=w.heap.setIfInBounds r (.map es' c') }:World).heap[r]?=some (.map es' c'):=fun es' c'=>by
  simp[hrl]
 rw[hf]at h2;have hlen:es.size=L.length:=yn
 cases o with
 |none =>
  have hn:f k=none:=qk;refine⟨_,?_,⟨_,_,L++[(k,v)],hget (es.push { key:=mk k,val:=v,born:=clk }) (clk+1),?_,?_⟩,hgrow _ _,zd⟩
  ·simp[Instr.mapUpdate,run_underlying hT,hg,hK.chk,hfk,hset]
  ·simp[hL]
  ·intro k'
   rw[lookE_push (by rw[hf];exact hn),hf]
 |some p =>
  obtain⟨i,v0⟩:=p;obtain⟨_,h5,h6,h7⟩:=h3 i v0 rfl;simp only[Nat.sub_zero]at h5 h6 h7;have hi:i<es.size:=za
  have hkey:es[i].key=mk k:=by
   exact tap
  have hstay:∀x,(Instr.keyThatStays (mk k) (mk k)).run P x=.ok (mk k) x:=fun x=>by
   simp[Instr.keyThatStays,hK.bits]
  refine⟨_,?_,⟨_,_,L.modify i fun _=>(k,v),hget (es.modify i fun e=>{ e with key:=mk k,val:=v }) clk,?_,?_⟩,hgrow _ _,zd⟩
  ·simp[Instr.mapUpdate,run_underlying hT,hg,hK.chk,hfk,hi,hkey,hstay,hset]
  ·exact tal
  ·intro k'
   rw[lookE_set h5 h6 h7,hf]
end
end Dw
namespace Go.Proofs.YtbbchlpccgkikaaGreatDoor
open Go.RowKit Dw
def mp(l:List Rg):Nat->BA->Option Value
 |0,_=>none
 |k+1,s=>if s=zCg l k then some (.int .i64 (k:Int)) else mp l k s
theorem mp_none{l:List Rg}{s:BA}:∀{k:Nat},k<=l.length->(∀j (h:j<l.length),j<k->(l[j]).nm≠s)->mp l k s=none
 |0,_,_=>rfl
 |k+1,hk,h=>by
  rw[mp,aW,mp_none za (fun j hj hjk=>h j hj za)];rw[zAH za];exact fun e=>h k za za e.symm
theorem mp_some{l:List Rg}(hi:Inc l){x:Nat}(hx:x<l.length):∀{k:Nat},x<k->k<=l.length->mp l k (l[x]).nm=some (.int .i64 (x:Int))
 |0,h,_=>za
 |k+1,h,hk=>by
  rw[mp]
  by_cases e:x=k
  ·subst e;rw[aD (zAH hx).symm]
  ·rw[aW,mp_some hi hx za za]
   rw[zAH za];exact fun e'=>e (hi.inj hx za e')
theorem mp_idx{l:List Rg}(hi:Inc l)(s:BA):mp l l.length s=(idx l s).map fun x=>.int .i64 (x:Int):=by
 cases h:idx l s with
 |none=>exact mp_none (aE _) fun j hj _=>idx_none h hj
 |some x =>
  obtain⟨hx,rfl⟩:=idx_some h;exact mp_some hi hx hx (aE _)
theorem kStr:KeyT Tryz.prog 9 Value.string:=zAZ Tryz.underlying9
theorem tMap:Tryz.prog.underlying 100=some (.map 9 3):=Tryz.underlying100
theorem zInt(w:World):(zeroValue 3).run Tryz.prog w=.ok (.int .i64 0) w:=zb
def ChkP1(w:World)(l:List Rg)(m:Nat)(i:Value)(wr:World):Prop:=
 ∃k:Nat,k+m=l.length/\i=.int .i64 k/\(∀j,j<k->zBb l j=none)/\zAu Value.string wr w.heap.size (mp l k)/\Below w.heap.size w wr
def ChkP2(w:World)(l:List Rg)(m:Nat)(i:Value)(wr:World):Prop:=
 ∃k:Nat,k+m=l.length/\i=.int .i64 k/\(∀j (h:j<l.length),j<k->zCD l l[j]=false)/\zAu Value.string wr w.heap.size (mp l l.length)/\Below w.heap.size w wr
def ChkP3(w:World)(l:List Rg)(m:Nat)(i:Value)(wr:World):Prop:=
 ∃k:Nat,k+m=l.length/\i=.int .i64 k/\(∀j,j<k->upN l (l.length+2) j=none)/\zAu Value.string wr w.heap.size (mp l l.length)/\Below w.heap.size w wr
def ChkP4(w:World)(l:List Rg)(i R:Nat)(m:Nat)(n:Value)(wr:World):Prop:=
 ∃k:Nat,k+m=l.length+1/\n=.int .i64 k/\∃j,∃hj:j<l.length,upN l k i=some j/\wr.heap[R]?=some (.cells #[.string (l[j]).nm,.string (l[j]).par] 97 (0,0)) /\
  zAu Value.string wr w.heap.size (mp l l.length)/\Below w.heap.size w wr
theorem box2{wr w2:World}{v0 v1:Value}{t:TypeId}(hb:Below (wr.alloc (.cells #[v0,v1] t)).heap.size (wr.alloc (.cells #[v0,v1] t)) w2): w2.heap[wr.heap.size]?=some (.cells #[v0,v1] t (0,0)):=by
 rw[hb.block _ zd];exact aK _ _
theorem box2_0{w:World}{g:Nat}{v0 v1:Value}{t:TypeId}(h:w.heap[g]?=some (.cells #[v0,v1] t (0,0))):w.cell? ⟨g,0,none⟩=some v0:=by
 rw[aX w g 0 _ t (0,0) h];rfl
theorem box2_1{w:World}{g:Nat}{v0 v1:Value}{t:TypeId}(h:w.heap[g]?=some (.cells #[v0,v1] t (0,0))):w.cell? ⟨g,1,none⟩=some v1:=by
 rw[aX w g 1 _ t (0,0) h];rfl
theorem box2_f{w:World}{g:Nat}{v0 v1:Value}{t:TypeId}(h:w.heap[g]?=some (.cells #[v0,v1] t (0,0)))(i:Nat):w.frozen? ⟨g,i,none⟩=false:=
 cU w g i _ t h
theorem box2_set{w:World}{g:Nat}{v0 v1 u0 u1:Value}{t:TypeId}(h:w.heap[g]?=some (.cells #[v0,v1] t (0,0))): ((w.setCell ⟨g,0,none⟩ u0).setCell ⟨g,1,none⟩ u1).heap[g]?=some (.cells #[u0,u1] t (0,0)):=by
 have h1:=eC w g 0 _ t u0 h;exact eC _ g 1 _ t u1 h1
theorem below_map{B r:Nat}{a w w':World}(h:Below B a w)(hg:w.grownBy w' (some r))(hr:B<=r)(hB:B<=w.heap.size):Below B a w':=
 h.grown hg hB fun k hk=>by injection hk with hk;omega
theorem CheckRegions_c(A:Option Addr)(c:Nat)(l:List Rg)(w:World)(h:Rgs w A l)(hz:∀i (h:i<l.length),(l[i]).nm.size<=9223372036854775807): Calls Tryz.prog 85 #[.slice A l.length c] w (zAg (.int .i64 (chkR l)) w):=by
 generalize hres:chkR l=res;have HR:=zq hres;clear hres
 by_cases h1:l=[]
 ·subst h1
  go_enter Tryz.func85,Tryz.ntmps85;go_wp2;go_ret
  refine zAg.mk (zCp ?_) (aJ _ _);rw[<-HR.o];rfl
 have h1':0<l.length:=List.length_pos_iff.2 h1;have hl0:((l.length:Int) == 0)=false:=by rw[beq_eq_false_iff_ne];omega
 by_cases hlen:200<l.length
 ·go_enter Tryz.func85,Tryz.ntmps85
  go_wp2;go_ret
  refine zAg.mk (zCp ?_) (aJ _ _);rw[<-HR.o];unfold chkR;rw[aW h1,aD hlen]
 have hn:l.length<=200:=za;obtain⟨b,o,rfl,hb,hc⟩:=h.at_ h1';have HC:=zq hc;have HZ:=zq hz;have H1:=zq h1;clear hc hz h1;have hmm:=@run_makeMap Tryz.prog
 go_enter Tryz.func85,Tryz.ntmps85;go_wp2;clear hmm
 go_loopg[22] l.length (ChkP1 w l)
 case atStart=>exact⟨0,za,rfl,fun j hj=>absurd hj za,zAu.new _ _,(aJ _ _).alloc (aE _) _⟩
 case round =>
  obtain⟨k,hk,rfl,hpre,hmap,hbel⟩:=hrel;have HK:=zq hk;have HP:=zq hpre;have HM:=zq hmap;have HB:=zq hbel;have hk1:k<=l.length:=za;have hwr:w.heap.size<wr.heap.size:=hmap.lt;have hbr:b<wr.heap.size:=za;clear hk hpre hmap hbel
  by_cases hlt:k<l.length
  ·have hc0:wr.cell? ⟨b,o+k*2,none⟩=some (.string (l[k]).nm):=(HB.o.cell hb).trans (HC.o k hlt).1
   have hc1:wr.cell? ⟨b,o+k*2+1,none⟩=some (.string (l[k]).par):=(HB.o.cell hb).trans (HC.o k hlt).2;have hr0:=zAH hlt;have hzk:=HZ.o k hlt
   have hcp:0<k->wr.cell? ⟨b,o+(k-1)*2,none⟩=some (.string (zCg l (k-1))):=fun hk0=>by
    rw[zAH za];exact(HB.o.cell hb).trans (HC.o (k-1) za).1
   (go_wp2_with fail);refine(zBE _ _ hzk).mono ?_;rintro e w2⟨rfl,hb2⟩;have hR:=box2 hb2;have hR0:=box2_0 hR;have hmap2:=(HM.o.alloc _).below hb2;have hbel2:Below w.heap.size w w2:=(HB.o.alloc za _).trans (hb2.mono ze)
   have hcp2:0<k->w2.cell? ⟨b,o+(k-1)*2,none⟩=some (.string (zCg l (k-1))):=fun hk0=>by
    rw[<-hcp hk0];exact(hb2.cell ze).trans (World.cell?_alloc_lt _ _ _ hbr)
   clear hcp hc0 hc1 HM HB hR hb2
   cases hq:zBi (l[k]).nm with
   |false =>
    have hres:res=5:=by
     rw[<-HR.o,chkR_first H1.o hlen hlt HP.o (x:=5) (by unfold zBb;rw[hr0,aD hq])]
    have HS:=zq hres;have HB2:=zq hbel2;clear hres hq hr0 hbel2 hmap2 hcp2;exact tdf
   |true =>
    by_cases hk0:0<k
    ·have hd:decide ((0:Int)<(k:Int))=true:=by simp;omega
     have hcpk:=hcp2 hk0;clear hcp2
     cases hle:sle (l[k]).nm (zCg l (k-1))with
     |true =>
      have hleb:=hle;unfold sle at hleb
      have hres:res=8:=by
       rw[<-HR.o,chkR_first H1.o hlen hlt HP.o (x:=8) (by unfold zBb;rw[hr0,aW (by rw[hq];simp),aD ⟨hk0,hle⟩])]
      have HS:=zq hres;have HB2:=zq hbel2;clear hres hq hr0 hle hbel2 hmap2;go_wp2;go_quiet(fail);go_wp2;go_ret
      exact zAg.mk (zCp HS.o.symm) (zAd HB2.o _)
     |false =>
      have hleb:=hle;unfold sle at hleb
      have HF:Hid (zBb l k=none):=by
       show zBb l k=none
       unfold zBb;rw[hr0,aW (by rw[hq];simp),aW (by rw[hle];simp)]
      have HM2:=zq hmap2;have HB2:=zq hbel2;clear hq hle hmap2 hbel2;exact tak
    ·have hd:decide ((0:Int)<(k:Int))=false:=by simp;omega
     have HF:Hid (zBb l k=none):=by
      show zBb l k=none
      unfold zBb;rw[hr0,aW (by rw[hq];simp),aW za]
     have HM2:=zq hmap2;have HB2:=zq hbel2;clear hq hmap2 hbel2 hcp2;exact tak
  ·have hF0:∀j,j<l.length->zBb l j=none:=fun j hj=>HP.o j za
   have HF0:=zq hF0;have HI:=zq (inc_of_fault hF0).2;obtain rfl:k=l.length:=za;clear hF0 HP HK hk1 hlt;go_wp2
   go_loopg[51] l.length (ChkP2 w l)
   case atStart=>exact⟨0,za,rfl,fun j _ hj=>absurd hj za,HM.o,HB.o⟩
   clear HM HB hwr hbr
   case round =>
    obtain⟨k,hk,rfl,hpre,hmap,hbel⟩:=hrel;have HK:=zq hk;have HP:=zq hpre;have HM:=zq hmap;have HB:=zq hbel;have hk1:k<=l.length:=za;have hwr:w.heap.size<wr.heap.size:=hmap.lt;have hbr:b<wr.heap.size:=za;clear hk hpre hmap hbel
    by_cases hlt:k<l.length
    ·have hc0:wr.cell? ⟨b,o+k*2,none⟩=some (.string (l[k]).nm):=(HB.o.cell hb).trans (HC.o k hlt).1
     have hc1:wr.cell? ⟨b,o+k*2+1,none⟩=some (.string (l[k]).par):=(HB.o.cell hb).trans (HC.o k hlt).2;have hlk:=zAp tMap kStr zInt (HM.o.alloc (.cells #[.string (l[k]).nm,.string (l[k]).par] 97)) (l[k]).par true;have HM2:=zq (HM.o.alloc (.cells #[.string (l[k]).nm,.string (l[k]).par] 97));have HB2:=zq (HB.o.alloc (Nat.le_of_lt hwr) (.cells #[.string (l[k]).nm,.string (l[k]).par] 97));clear HM HB
     by_cases hp:(l[k]).par=emp
     ·have he:=zAv hp
      have HF:Hid (zCD l l[k]=false):=by
       show zCD l l[k]=false
       simp[zCD,hp]
      generalize (mp l l.length (l[k]).par).getD (.int .i64 0)=v at hlk;generalize (mp l l.length (l[k]).par).isSome=bl at hlk;simp only[if_true]at hlk;clear hp;exact tau
     ·have he:=zAx hp
      cases hix:idx l (l[k]).par with
      |none =>
       rw[mp_idx HI.o,hix]at hlk;simp only[if_true,Option.map_none,Option.getD_none,eD]at hlk
       have hres:res=5:=by
        rw[<-HR.o];exact chkR_par H1.o hlen HF0.o hlt (by simp[zCD,hp,hix])
       have HS:=zq hres;clear hres hix hp;exact tdf
      |some x =>
       rw[mp_idx HI.o,hix]at hlk;simp only[if_true,aH,eE,Option.isSome_some]at hlk
       have HF:Hid (zCD l l[k]=false):=by
        show zCD l l[k]=false
        simp[zCD,hix]
       clear hix hp;exact tau
    ·have hP0:∀j (h:j<l.length),zCD l l[j]=false:=fun j hj=>HP.o j hj za
     have HP0:=zq hP0;clear hP0;go_wp2;clear HK HP hk1 hlt
     go_loopg[72] l.length (ChkP3 w l)
     case atStart=>exact⟨0,za,rfl,fun j hj=>absurd hj za,HM.o,HB.o⟩
     clear HM HB hwr hbr
     case round =>
      obtain⟨i,hk,rfl,hpre,hmap,hbel⟩:=hrel;have HK:=zq hk;have HP:=zq hpre;have HM:=zq hmap;have HB:=zq hbel;have hk1:i<=l.length:=za;have hwr:w.heap.size<wr.heap.size:=hmap.lt;have hbr:b<wr.heap.size:=za;clear hk hpre hmap hbel;obtain⟨g1,hg1⟩:∃g1,g1=gk:=⟨_,rfl⟩;subst hg1;obtain⟨w0,hw0⟩:∃w0:World,w0=wr:=⟨_,rfl⟩;subst hw0
      by_cases hlt:i<l.length
      ·have hc0:w0.cell? ⟨b,o+i*2,none⟩=some (.string (l[i]).nm):=(HB.o.cell hb).trans (HC.o i hlt).1
       have hc1:w0.cell? ⟨b,o+i*2+1,none⟩=some (.string (l[i]).par):=(HB.o.cell hb).trans (HC.o i hlt).2;have HM2:=zq (HM.o.alloc (.cells #[.string (l[i]).nm,.string (l[i]).par] 97));have HB2:=zq (HB.o.alloc (Nat.le_of_lt hwr) (.cells #[.string (l[i]).nm,.string (l[i]).par] 97));go_wp2;clear hc0 hc1
       go_loopg[12] (l.length+1) (ChkP4 w l i w0.heap.size)
       case atStart=>exact⟨0,za,rfl,i,hlt,rfl,aK _ _,HM2.o,HB2.o⟩
       clear HM2 HB2
       case round =>
        obtain⟨k,hk,rfl,j,hj,hup,hRj,hmap,hbel⟩:=hrel;have HK4:=zq hk;have HU:=zq hup;have hk2:k<=l.length+1:=za;have hR0:=box2_0 hRj;have hR1:=box2_1 hRj;have hf0:=box2_f hRj 0;have hf1:=box2_f hRj 1;have HRJ:=zq hRj;have HM4:=zq hmap;have HB4:=zq hbel;have hwi:w.heap.size<wr.heap.size:=hmap.lt;clear hk hup hRj hmap hbel
        by_cases hp:(l[j]).par=emp
        ·have he:=zAv hp
         have hend:upN l (l.length+2) i=none:=by
          have:upN l (k+1) i=none:=by rw[upN_add,HU.o];simp[upN,up_none hj hp]
          exact upN_none_mono this za
         have HE:=zq hend;clear hend hp;go_wp2
         go_roundg (g1-1)
         case measure=>have:=HK.o;omega
         case rel =>
          refine⟨i+1,zh,zi,fun t ht=>?_,HM4.o,HB4.o⟩
          rcases aQ t i with h3|h3
          ·exact HP.o t h3
          ·obtain rfl:t=i:=by omega
           exact HE.o
        ·have he:=zAx hp
         obtain⟨j',hx⟩:=parBad_false HP0.o hj hp;obtain⟨hj',hnm⟩:=idx_some hx
         have hup':upN l (k+1) i=some j':=by
          rw[upN_add,HU.o];simp[upN,up_of hj,hp,hx]
         have HU':=zq hup'
         by_cases hbig:l.length<k
         ·have hres:res=14:=by
           rw[<-HR.o,chkR_last H1.o hlen HF0.o HP0.o,aW];intro hE;have h2:=hE i hlt;rw[show l.length+2=k+1 from by omega,HU'.o]at h2
           cases h2
          have HS:=zq hres;clear hres hup' hx hnm hp;go_wp2;go_ret
          exact zAg.mk (zCp HS.o.symm) HB4.o
         ·have hlk:=zAp tMap kStr zInt HM4.o (l[j]).par false
          rw[mp_idx HI.o,hx]at hlk;simp only[eF,if_false,aH,eE]at hlk;have hc0:wr.cell? ⟨b,o+j'*2,none⟩=some (.string (l[j']).nm):=(HB4.o.cell hb).trans (HC.o j' hj').1;have hc1:wr.cell? ⟨b,o+j'*2+1,none⟩=some (.string (l[j']).par):=(HB4.o.cell hb).trans (HC.o j' hj').2;clear hup' hx hnm hp;go_wp2
          go_roundg (gk-1)
          case measure=>have:=HK4.o;omega
          case rel =>
           refine⟨k+1,by have:=HK4.o;omega,zi,j',hj',HU'.o,box2_set HRJ.o,?_,?_⟩
           ·exact(HM4.o.setCell (a:=⟨w0.heap.size,0,none⟩) (by show w.heap.size≠w0.heap.size;omega) _).setCell (a:=⟨w0.heap.size,1,none⟩) (by show w.heap.size≠w0.heap.size;omega) _
           ·exact(HB4.o.setCell (p:=⟨w0.heap.size,0,none⟩) (by show w.heap.size<=w0.heap.size;omega) _).setCell (p:=⟨w0.heap.size,1,none⟩) (by show w.heap.size<=w0.heap.size;omega) _
      ·have hres:res=0:=by
        rw[<-HR.o,chkR_last H1.o hlen HF0.o HP0.o,aD];exact fun t ht=>HP.o t za
       have HS:=zq hres;clear hres;go_wp2;go_ret
       exact zAg.mk (zCp HS.o.symm) HB.o
end Go.Proofs.YtbbchlpccgkikaaGreatDoor
namespace Dw
open Go
def zAj(ops:Array Oper)(vals:Nat->Value):List Nat->Act->Act
 |[],a=>a
 |i::L,a=>zAj ops vals L (a.put ((ops[i]?).bind (·.dst)) (vals i))
def zAC(n:Nat)(done:Nat->Bool):List Nat:=(List.range n).filter done
def zBp{α:Type}(f:Nat->α)(i:Nat)(v:α):Nat->α:=fun j=>if j=i then v else f j
def Apart(ops:Array Oper):Prop:=∀i j:Nat,i<ops.size->j<ops.size->i≠j->∀d,(ops[i]?).bind (·.dst)=some d->(ops[j]?).bind (·.dst)≠some d
def apartB(ops:Array Oper):Bool:=(List.range ops.size).all fun i=>(List.range ops.size).all fun j=>i == j || ((ops[i]?).bind (·.dst)).isNone || (ops[i]?).bind (·.dst) != (ops[j]?).bind (·.dst)
theorem apart_of{ops:Array Oper}(h:apartB ops=true):Apart ops:=fun i j hi hj hne d hd he=>by
 unfold apartB at h;have h1:=List.all_eq_true.1 h i (List.mem_range.2 hi);have h2:=List.all_eq_true.1 h1 j (List.mem_range.2 hj);rw[hd,he]at h2;simp[hne]at h2
def backB(ops:Array Oper):Bool:=(List.range ops.size).all fun i=>((ops[i]?).map fun o=>o.after.all fun e=>!Region.binds .any e || decide (e.on<i)).getD true
theorem zDv(ops:Array Oper)(vals:Nat->Value):∀(L M:List Nat)(a:Act),zAj ops vals (L++M) a=zAj ops vals M (zAj ops vals L a)
 |[],_,_=>rfl
 |i::L,M,a=>by rw[bO,zAj,zAj,zDv ops vals L M]
theorem putAll_congr{ops:Array Oper}{vals vals':Nat->Value}:∀{L:List Nat}{a:Act},(∀i∈L,vals i=vals' i)->zAj ops vals L a=zAj ops vals' L a
 |[],_,_=>rfl
 |i::L,a,h=>by
  rw[zAj,zAj,h i zd];exact putAll_congr fun j hj=>h j (by simp[hj])
theorem doneL_succ(n:Nat)(done:Nat->Bool):zAC (n+1) done=zAC n done++(if done n then [n] else []):=by
 unfold zAC;rw[dP,dQ]
 cases h:done n<;>simp[h]
theorem doneL_congr{n:Nat}{d d':Nat->Bool}(h:∀j,j<n->d j=d' j):zAC n d=zAC n d':=List.filter_congr fun x hx=>h x (List.mem_range.1 hx)
theorem mem_doneL{n i:Nat}{done:Nat->Bool}:i∈zAC n done↔i<n/\done i=true:=by
 unfold zAC;rw[List.mem_filter,List.mem_range]
theorem putAll_ins{ops:Array Oper}(hap:Apart ops){vals:Nat->Value}{done:Nat->Bool}{i:Nat}{v:Value}{a:Act}(hi:done i=false): ∀n,i<n->n<=ops.size->zAj ops (zBp vals i v) (zAC n (zBp done i true)) a=(zAj ops vals (zAC n done) a).put ((ops[i]?).bind (·.dst)) v
 |0,h,_=>za
 |n+1,h,hn=>by
  rw[doneL_succ,doneL_succ,zDv,zDv]
  by_cases e:i=n
  ·subst e
   have e1:zAC i (zBp done i true)=zAC i done:=doneL_congr fun j hj=>by simp[zBp];omega
   rw[e1,hi]
   have e2:zAj ops (zBp vals i v) (zAC i done) a=zAj ops vals (zAC i done) a:=putAll_congr fun j hj=>by
    have:=(mem_doneL.1 hj).1;simp[zBp];omega
   simp[zBp,zAj,e2]
  ·have ih:=putAll_ins hap (vals:=vals) (v:=v) (a:=a) hi n za za
   have e1:zBp done i true n=done n:=by simp[zBp];omega
   rw[e1,ih]
   cases hd:done n with
   |false=>simp[zAj]
   |true =>
    have e2:zBp vals i v n=vals n:=by simp[zBp];omega
    simp only[if_true,zAj,e2];exact Act.put_comm _ _ _ fun d hd'=>hap i n za za e d hd'
theorem eval_put_same{a:Act}{d:Tmp}{v:Value}(h:d<a.tmps.size):(a.put (some d) v).eval (.tmp d)=v:=by
 simp[Act.put,Act.eval,h]
theorem size_put(a:Act)(d:Option Tmp)(v:Value):(a.put d v).tmps.size=a.tmps.size:=by
 cases d<;>simp[Act.put]
theorem zCm{ops:Array Oper}{vals:Nat->Value}{x:Operand}:∀{L:List Nat}{a:Act},(∀i∈L,∀d,(ops[i]?).bind (·.dst)=some d->x≠.tmp d)->(zAj ops vals L a).eval x=a.eval x
 |[],_,_=>rfl
 |i::L,a,h=>by
  rw[zAj,zCm fun j hj=>h j (by simp[hj])];exact Act.eval_put fun d hd=>h i zd d hd
theorem eval_putAll_done{ops:Array Oper}(hap:Apart ops){vals:Nat->Value}{d:Tmp}{j:Nat}(hj:j<ops.size)(hd:(ops[j]?).bind (·.dst)=some d): ∀{L:List Nat}{a:Act},j∈L->L.Nodup->(∀i∈L,i<ops.size)->d<a.tmps.size->(zAj ops vals L a).eval (.tmp d)=vals j
 |[],_,h,_,_,_=>by simp at h
 |i::L,a,h,hnd,hlt,hs=>by
  rw[zAj];rw[List.nodup_cons]at hnd
  rcases List.mem_cons.1 h with e|h'
  ·subst e
   rw[zCm,hd,eval_put_same hs];intro k hk d' hd' e
   injection e with e
   subst e;have hne:j≠k:=fun e=>hnd.1 (e▸hk)
   exact hap j k hj (hlt k (by simp[hk])) hne d hd hd'
  ·exact eval_putAll_done hap hj hd h' hnd.2 (fun k hk=>hlt k (by simp[hk])) (by rw[size_put];exact hs)
section
variable {P:Program} {ops:Array Oper} {Q:Exit→Act→World→Prop}
theorem ready_none{listed:Array Bool}{done:Nat->Bool}(hb:backB ops=true)(hls:listed.size=ops.size)(hl:∀j,j<ops.size->listed.getD j false=done j)(hr:Region.ready .any ops listed=[]):∀j,j<ops.size->done j=true:=by
 intro j
 induction j using Nat.strongRecOn with
 |_ j ih =>
  intro hj
  cases hd:done j with
  |true=>rfl
  |false =>
   exfalso
   have hmem:j∈Region.ready .any ops listed:=by
    unfold Region.ready;rw[List.mem_filter,List.mem_range];refine⟨hj,?_⟩
    have h1:=hl j hj;have hjs:j<listed.size:=za
    have h2:listed.getD j true=false:=by
     rw[hd]at h1;simp[Array.getD,hjs]at h1 ⊢
     exact h1
    rw[h2];have h3:=List.all_eq_true.1 hb j (List.mem_range.2 hj);rw[Array.getElem?_eq_getElem hj]at h3 ⊢;simp only[aH,eE,Bool.not_false,Bool.true_and]at h3 ⊢;rw[Array.all_eq_true']at h3 ⊢;intro e he;have h4:=h3 e he
    cases hb2:Region.binds .any e with
    |false=>simp
    |true =>
     rw[hb2]at h4;have h5:e.on<j:=by simpa using h4
     rw[hl e.on za,ih e.on h5 za];simp
   rw[hr]at hmem;simp at hmem
theorem count_set{n i:Nat}{done:Nat->Bool}(hi:i<n)(hd:done i=false):(zAC n fun j=>!zBp done i true j).length+1=(zAC n fun j=>!done j).length:=by
 induction n with
 |zero=>omega
 |succ n ih =>
  rw[doneL_succ,doneL_succ,dI,dI]
  by_cases e:i=n
  ·subst e
   have e1:zAC i (fun j=>!zBp done i true j)=zAC i fun j=>!done j:=doneL_congr fun j hj=>by simp[zBp];omega
   rw[e1];simp[zBp,hd]
  ·have e1:zBp done i true n=done n:=by simp[zBp];omega
   rw[e1,<-ih za];omega
theorem wpAny_inv(hap:Apart ops)(hb:backB ops=true)(a0:Act)(J:(Nat->Bool)->(Nat->Value)->World->Prop)(hstep:∀(i:Nat)(done:Nat->Bool)(vals:Nat->Value)(w:World),i<ops.size->J done vals w->done i=false->(∀o,ops[i]?=some o->∀e∈o.after,Region.binds .any e=true->done e.on=true) -> wpOp P ops Q i (fun a' w'=>∃v,a'=(zAj ops vals (zAC ops.size done) a0).put ((ops[i]?).bind (·.dst)) v/\J (zBp done i true) (zBp vals i v) w') (zAj ops vals (zAC ops.size done) a0) w)
  (hend:∀(done:Nat->Bool)(vals:Nat->Value)(w:World),(∀j,j<ops.size->done j=true)->J done vals w->Q .normal (zAj ops vals (List.range ops.size) a0) w) :
  ∀(fuel:Nat)(listed:Array Bool)(done:Nat->Bool)(vals:Nat->Value)(w:World),listed.size=ops.size->(∀j,j<ops.size->listed.getD j false=done j)->(zAC ops.size fun j=>!done j).length<=fuel->J done vals w ->
   wpAny P .any ops Q fuel listed (zAj ops vals (zAC ops.size done) a0) w:=by
 intro fuel
 have hfin:∀(done:Nat->Bool)(vals:Nat->Value)(w:World),(∀j,j<ops.size->done j=true)->J done vals w->Q .normal (zAj ops vals (zAC ops.size done) a0) w:=fun done vals w hd hJ=>by
  have:=hend done vals w hd hJ
  have e:zAC ops.size done=List.range ops.size:=by
   unfold zAC;rw[List.filter_eq_self];exact fun x hx=>hd x (List.mem_range.1 hx)
  rw[e];exact this
 induction fuel with
 |zero =>
  intro listed done vals w hls hl hc hJ
  have hall:∀j,j<ops.size->done j=true:=fun j hj=>by
   cases hd:done j with
   |true=>rfl
   |false =>
    have:j∈zAC ops.size fun j=>!done j:=mem_doneL.2 ⟨hj,by simp[hd]⟩
    rw[dJ (l:=zAC ops.size fun j=>!done j) za]at this;simp at this
  refine⟨?_,hfin done vals w hall hJ⟩
  unfold Region.ready;rw[List.filter_eq_nil_iff];intro j hj;have hj':=List.mem_range.1 hj;have h1:=hl j hj';rw[hall j hj']at h1;have hjs:j<listed.size:=za;have h2:listed.getD j true=true:=by simp[Array.getD,hjs]at h1 ⊢;exact h1
  simp[h2]
 |succ fuel ih =>
  intro listed done vals w hls hl hc hJ;refine⟨fun hr=>hfin done vals w (ready_none hb hls hl hr) hJ,fun i hi=>?_⟩;unfold Region.ready at hi;rw[List.mem_filter,List.mem_range]at hi;obtain⟨hin,hrd⟩:=hi;rw[dN]at hrd;have hjs:i<listed.size:=za
  have hdi:done i=false:=by
   rw[<-hl i hin];have:=hrd.1;simp[Array.getD,hjs]at this ⊢
   exact this
  have hdeps:∀o,ops[i]?=some o->∀e∈o.after,Region.binds .any e=true->done e.on=true:=fun o ho e he hbd=>by
   have h3:=hrd.2;rw[ho]at h3;simp only[aH,eE]at h3;rw[Array.all_eq_true']at h3;have h4:=h3 e he;rw[hbd]at h4;have h5:listed.getD e.on false=true:=by simpa using h4
   have hlt:e.on<ops.size:=by
    refine Nat.lt_of_not_ge fun hge=>?_
    have:¬e.on<listed.size:=za;simp[Array.getD,this]at h5
   rw[<-hl _ hlt];exact h5
  refine wpOp_mono ?_ (hstep i done vals w hin hJ hdi hdeps);rintro a' w' ⟨v,rfl,hJ'⟩;rw[<-putAll_ins hap hdi ops.size hin (aE _)];refine ih (listed.setIfInBounds i true) (zBp done i true) (zBp vals i v) w' (by simp[hls]) (fun j hj=>?_) ?_ hJ'
  ·have hjs':j<listed.size:=by omega
   by_cases e:j=i
   ·subst e;simp[zBp,Array.getD,hjs']
   ·have:=hl j hj
    simp[zBp,e,Array.getD,hjs']at this ⊢
    rw[Array.getElem_setIfInBounds_ne za za];exact this
  ·have:=count_set hin hdi
   omega
theorem zDx{id:Nat}{a0:Act}{w:World}(hm:P.follows .mixedOrders=true)(hap:Apart ops)(hb:backB ops=true)(vals0:Nat->Value)(J:(Nat->Bool)->(Nat->Value)->World->Prop)(h0:J (fun _=>false) vals0 w.drew)
  (hstep:∀(i:Nat)(done:Nat->Bool)(vals:Nat->Value)(w:World),i<ops.size->J done vals w->done i=false->(∀o,ops[i]?=some o->∀e∈o.after,Region.binds .any e=true->done e.on=true) ->
   wpOp P ops Q i (fun a' w'=>∃v,a'=(zAj ops vals (zAC ops.size done) a0).put ((ops[i]?).bind (·.dst)) v/\J (zBp done i true) (zBp vals i v) w') (zAj ops vals (zAC ops.size done) a0) w)
  (hend:∀(done:Nat->Bool)(vals:Nat->Value)(w:World),(∀j,j<ops.size->done j=true)->J done vals w->Q .normal (zAj ops vals (List.range ops.size) a0) w) :
  (Code.region id ops true).wp P Q a0 w:=by
 refine wp_region_any hm ?_
 have e:zAC ops.size (fun _=>false)=[]:=by
  unfold zAC;rw[List.filter_eq_nil_iff];simp
 have:=wpAny_inv (P:=P) (Q:=Q) hap hb a0 J hstep hend ops.size (Array.replicate ops.size false) (fun _=>false) vals0 w.drew zd (fun j hj=>by simp[Array.getD,hj]) (by
  refine dC (dR _ _) ?_;simp) h0
 rw[e]at this;exact this
end
end Dw
namespace Go.Proofs.YtbbchlpccgkikaaGreatDoor
open Go.RowKit Dw
theorem zAq{P:Program}{ops:Array Oper}{Q:Exit->Act->World->Prop}{i:Nat}{o:Oper}{K:Act->World->Prop}{a:Act}{w w':World}{v:Value}(ho:ops[i]?=some o)(hg:o.guard=none)(hr:(execOp a.eval o).run P w=.ok (.value v) w')(h:K (a.put o.dst v) w'):wpOp P ops Q i K a w:=by
 unfold wpOp;simp only[ho];rw[aD (by simp[Region.wanted,hg])]
 left
 unfold Oper.wp;rw[hr];exact h
theorem wpOp_skip{P:Program}{ops:Array Oper}{Q:Exit->Act->World->Prop}{i:Nat}{o:Oper}{K:Act->World->Prop}{a:Act}{w w':World}(ho:ops[i]?=some o)(hg:o.guard=none)(hr:(execOp a.eval o).run P w=.ok .skip w')(h:K (a.put o.dst undef) w'):wpOp P ops Q i K a w:=by
 unfold wpOp;simp only[ho];rw[aD (by simp[Region.wanted,hg])]
 left
 unfold Oper.wp;rw[hr];exact h
def notDst(ops:Array Oper)(t:Tmp):Bool:=(List.range ops.size).all fun i=>(ops[i]?).bind (·.dst) != some t
theorem eval_kept{ops:Array Oper}{vals:Nat->Value}{t:Tmp}{done:Nat->Bool}{a:Act}(h:notDst ops t=true):(zAj ops vals (zAC ops.size done) a).eval (.tmp t)=a.eval (.tmp t):=by
 refine zCm fun i hi d hd e=>?_
 injection e with e
 subst e;have:=List.all_eq_true.1 h i (List.mem_range.2 (mem_doneL.1 hi).1);rw[hd]at this;simp at this
theorem zAo{ops:Array Oper}(hap:Apart ops){vals:Nat->Value}{done:Nat->Bool}{a:Act}{j:Nat}{d:Tmp}(hj:j<ops.size)(hd:(ops[j]?).bind (·.dst)=some d)(hdone:done j=true)(hs:d<a.tmps.size): (zAj ops vals (zAC ops.size done) a).eval (.tmp d)=vals j:=
 eval_putAll_done hap hj hd (mem_doneL.2 ⟨hj,hdone⟩) (List.nodup_range.filter _) (fun _ hi=>(mem_doneL.1 hi).1) hs
theorem zCG{P:Program}(t e:TypeId){z:Value}{bytes:Nat}(hT:ElemT P t e z 1 bytes)(n:Nat)(hb:bytes*n<=281474976710656)(h63:n<=9223372036854775807)(hz:z.cells=#[z])(w:World): (Instr.makeSlice t (.int .i64 (n:Int)) (.int .i64 (n:Int))).run P w=.ok (.slice (some ⟨w.heap.size,0,none⟩) n n) (w.alloc (.cells (Array.replicate n z) e)):=by
 obtain⟨i,hi,hz0,hz1,hz2⟩:=info_parts hT.info
 have hb':(i.bytes:Int)*(n:Int)<=281474976710656:=by
  exact tcg
 have hr:=run_make (P:=P) w t e i z hT.ty hi hz0 .i64 .i64 n n za za hb' za;simp only[Int.toNat_natCast]at hr;rw[hz1,hz,cR]at hr
 have e1:madeCells #[z] n=Array.replicate n z:=by
  apply Array.toList_inj.1
  rw[toList_madeCells_one,cX]
 rw[e1]at hr;exact hr
theorem elInt:ElemT Tryz.prog 68 3 (.int .i64 0) 1 8:=⟨Tryz.underlying68,zb,rfl,zc⟩
theorem elInts:ElemT Tryz.prog 101 68 (.slice none 0 0) 1 24:=⟨Tryz.underlying101,zb,rfl,zc⟩
theorem elBool:ElemT Tryz.prog 107 4 (.bool false) 1 1:=⟨Tryz.underlying107,zb,rfl,zc⟩
theorem elSet:ElemT Tryz.prog 108 4 (.bool false) 1 1:=⟨Tryz.underlying108,zb,rfl,zc⟩
structure NW (w0 w:World) (B:Nat) (SL lv:Value) (r1 r2 g1 g2 s n:Nat) (f1 f2:BA->Option Value) (up bl:Array Value):Prop where
 box:w.heap[s]?=some (.cells #[SL,.map (some r1),lv,.map (some r2),.slice (some ⟨g1,0,none⟩) n n,.slice (some ⟨g2,0,none⟩) n n] 103 (0,0))
 m1:zAu Value.string w r1 f1
 m2:zAu Value.string w r2 f2
 up:w.heap[g1]?=some (.cells up 3 (0,0))
 bl:w.heap[g2]?=some (.cells bl 68 (0,0))
 ne:r1≠r2
 b1:B<=r1
 b2:B<=r2
 b3:B<=g1
 b4:B<=g2
 b5:B<=s
 below:Below B w0 w
def depB(ops:Array Oper)(i j:Nat):Bool:=((ops[i]?).map fun o=>o.after.any fun e=>Region.binds .any e&&e.on == j).getD false
theorem zAU{ops:Array Oper}{i j:Nat}{done:Nat->Bool}(h:depB ops i j=true)(hd:∀o,ops[i]?=some o->∀e∈o.after,Region.binds .any e=true->done e.on=true):done j=true:=by
 unfold depB at h
 cases ho:ops[i]? with
 |none=>rw[ho]at h;simp at h
 |some o =>
  rw[ho]at h;simp only[aH,eE]at h;obtain⟨e,he,hb⟩:=Array.any_eq_true'.1 h;rw[dN]at hb;have:=hd o ho e he hb.1;rw[show e.on=j from by simpa using hb.2]at this;exact this
abbrev zAm:Value:=.slice none 0 0
abbrev slAt(g n:Nat):Value:=.slice (some ⟨g,0,none⟩) n n
def boxOf(SL:Value)(lv:Value)(r1 r2 g1 g2 n:Nat):Array Value:=#[SL,.map (some r1),lv,.map (some r2),slAt g1 n,slAt g2 n]
structure J1 (w0:World) (B:Nat) (SL:Value) (n:Nat) (r1 r2 g1 g2 s:Nat) (done:Nat->Bool) (vals:Nat->Value) (w:World):Prop where
 d0:done 0=true->vals 0=SL
 d1:done 1=true->vals 1=.map (some r1)/\zAu Value.string w r1 (fun _=>none)/\B<=r1
 d2:done 2=true->vals 2=.map (some r2)/\zAu Value.string w r2 (fun _=>none)/\B<=r2
 d12:done 1=true->done 2=true->r1≠r2
 d3:done 3=true->vals 3=SL
 d4:done 4=true->vals 4=.int .i64 (n:Int)
 d5:done 5=true->vals 5=slAt g1 n/\w.heap[g1]?=some (.cells (Array.replicate n (.int .i64 0)) 3 (0,0))/\B<=g1
 d6:done 6=true->vals 6=SL
 d7:done 7=true->vals 7=.int .i64 (n:Int)
 d8:done 8=true->vals 8=slAt g2 n/\w.heap[g2]?=some (.cells (Array.replicate n zAm) 68 (0,0))/\B<=g2
 d9:done 9=true->vals 9=.agg (boxOf SL zAm r1 r2 g1 g2 n)
 d9':done 9=true->done 1=true/\done 2=true/\done 5=true/\done 8=true
 d10:done 10=true->vals 10=.pointer (some ⟨s,0,none⟩)/\(∃cs:Array Value,cs.size=6/\w.heap[s]?=some (.cells cs 103 (0,0)))/\B<=s
 d11:done 11=true->w.heap[s]?=some (.cells (boxOf SL zAm r1 r2 g1 g2 n) 103 (0,0))
 d11':done 11=true->done 9=true/\done 10=true
 below:Below B w0 w
 size:B<=w.heap.size
section
variable {w0 w:World} {B n r1 r2 g1 g2 s:Nat} {SL:Value} {done:Nat→Bool} {vals:Nat→Value}
theorem zAF{w:World}{o:Obj}{g:Nat}{x:Obj}(h:w.heap[g]?=some x):(w.alloc o).heap[g]?=some x:=by
 rw[dT w o g (Array.getElem?_eq_some_iff.1 h).1];exact h
theorem J1.alloc(h:J1 w0 B SL n r1 r2 g1 g2 s done vals w)(o:Obj):J1 w0 B SL n r1 r2 g1 g2 s done vals (w.alloc o) where
 d0:=h.d0
 d1 hd:=⟨(h.d1 hd).1,(h.d1 hd).2.1.alloc o,(h.d1 hd).2.2⟩
 d2 hd:=⟨(h.d2 hd).1,(h.d2 hd).2.1.alloc o,(h.d2 hd).2.2⟩
 d12:=h.d12
 d3:=h.d3
 d4:=h.d4
 d5 hd:=⟨(h.d5 hd).1,zAF (h.d5 hd).2.1,(h.d5 hd).2.2⟩
 d6:=h.d6
 d7:=h.d7
 d8 hd:=⟨(h.d8 hd).1,zAF (h.d8 hd).2.1,(h.d8 hd).2.2⟩
 d9:=h.d9
 d9':=h.d9'
 d10 hd:=⟨(h.d10 hd).1,by obtain⟨cs,h1,h2⟩:=(h.d10 hd).2.1;exact⟨cs,h1,zAF h2⟩,(h.d10 hd).2.2⟩
 d11 hd:=zAF (h.d11 hd)
 d11':=h.d11'
 below:=h.below.alloc h.size o
 size:=by have:=h.size;simp;omega
end
theorem zAr{α:Type}(f:Nat->α)(i:Nat)(v:α):zBp f i v i=v:=by simp[zBp]
theorem zAb{α:Type}(f:Nat->α){i j:Nat}(v:α)(h:j≠i):zBp f i v j=f j:=by simp[zBp,h]
section
variable {w0 w:World} {B n r1 r2 g1 g2 s:Nat} {SL:Value} {done:Nat→Bool} {vals:Nat→Value}
theorem J1.s0(h:J1 w0 B SL n r1 r2 g1 g2 s done vals w):J1 w0 B SL n r1 r2 g1 g2 s (zBp done 0 true) (zBp vals 0 (SL)) w where
 d0 _:=zAr _ _ _
 d1 hd:=by
  exact tcr
 d2 hd:=by
  exact tcs
 d3 hd:=by
  exact tct
 d4 hd:=by
  exact tcu
 d5 hd:=by
  exact tcv
 d6 hd:=by
  exact tcw
 d7 hd:=by
  exact tcx
 d8 hd:=by
  exact tcy
 d9 hd:=by
  exact tcz
 d10 hd:=by
  exact tcq
 d12 hd hd':=by
  exact tdd
 d9' hd:=by
  exact tbf
 d11 hd:=by
  exact tdj
 d11' hd:=by
  exact tbz
 below:=h.below
 size:=h.size
theorem J1.s1(h:J1 w0 B SL n r1 r2 g1 g2 s done vals w)(hi:done 1=false):J1 w0 B SL n w.heap.size r2 g1 g2 s (zBp done 1 true) (zBp vals 1 (.map (some w.heap.size))) (w.alloc (.map #[] 0)) where
 d0 hd:=by
  exact tb3
 d1 _:=⟨zAr _ _ _,zAu.new _ _,h.size⟩
 d2 hd:=by
  rw[zAb _ _ zc]at hd;rw[zAb _ _ zc];exact(h.alloc (.map #[] 0)).d2 hd
 d3 hd:=by
  exact tb4
 d4 hd:=by
  exact tb5
 d5 hd:=by
  exact tb6
 d6 hd:=by
  exact tb7
 d7 hd:=by
  exact tb8
 d8 hd:=by
  exact tb9
 d9 hd:=by
  rw[zAb _ _ zc]at hd;have:=(h.d9' hd).1;rw[hi]at this;cases this
 d10 hd:=by
  exact tb2
 d12 _ hd:=by
  rw[zAb _ _ zc]at hd;have:=(h.d2 hd).2.1.lt;omega
 d9' hd:=by
  rw[zAb _ _ zc]at hd;have:=(h.d9' hd).1;rw[hi]at this;cases this
 d11 hd:=by
  rw[zAb _ _ zc]at hd;have:=(h.d9' (h.d11' hd).1).1;rw[hi]at this;cases this
 d11' hd:=by
  exact tbz
 below:=(h.alloc (.map #[] 0)).below
 size:=(h.alloc (.map #[] 0)).size
theorem J1.s2(h:J1 w0 B SL n r1 r2 g1 g2 s done vals w)(hi:done 2=false):J1 w0 B SL n r1 w.heap.size g1 g2 s (zBp done 2 true) (zBp vals 2 (.map (some w.heap.size))) (w.alloc (.map #[] 0)) where
 d0 hd:=by
  exact tb3
 d1 hd:=by
  rw[zAb _ _ zc]at hd;rw[zAb _ _ zc];exact(h.alloc (.map #[] 0)).d1 hd
 d2 _:=⟨zAr _ _ _,zAu.new _ _,h.size⟩
 d3 hd:=by
  exact tb4
 d4 hd:=by
  exact tb5
 d5 hd:=by
  exact tb6
 d6 hd:=by
  exact tb7
 d7 hd:=by
  exact tb8
 d8 hd:=by
  exact tb9
 d9 hd:=by
  rw[zAb _ _ zc]at hd;have:=(h.d9' hd).2.1;rw[hi]at this;cases this
 d10 hd:=by
  exact tb2
 d12 hd _:=by
  rw[zAb _ _ zc]at hd;have:=(h.d1 hd).2.1.lt;omega
 d9' hd:=by
  rw[zAb _ _ zc]at hd;have:=(h.d9' hd).2.1;rw[hi]at this;cases this
 d11 hd:=by
  rw[zAb _ _ zc]at hd;have:=(h.d9' (h.d11' hd).1).2.1;rw[hi]at this;cases this
 d11' hd:=by
  exact tbz
 below:=(h.alloc (.map #[] 0)).below
 size:=(h.alloc (.map #[] 0)).size
theorem J1.s3(h:J1 w0 B SL n r1 r2 g1 g2 s done vals w):J1 w0 B SL n r1 r2 g1 g2 s (zBp done 3 true) (zBp vals 3 (SL)) w where
 d0 hd:=by
  exact tc0
 d1 hd:=by
  exact tcr
 d2 hd:=by
  exact tcs
 d3 _:=zAr _ _ _
 d4 hd:=by
  exact tcu
 d5 hd:=by
  exact tcv
 d6 hd:=by
  exact tcw
 d7 hd:=by
  exact tcx
 d8 hd:=by
  exact tcy
 d9 hd:=by
  exact tcz
 d10 hd:=by
  exact tcq
 d12 hd hd':=by
  exact tdd
 d9' hd:=by
  exact tbf
 d11 hd:=by
  exact tdj
 d11' hd:=by
  exact tbz
 below:=h.below
 size:=h.size
theorem J1.s4(h:J1 w0 B SL n r1 r2 g1 g2 s done vals w):J1 w0 B SL n r1 r2 g1 g2 s (zBp done 4 true) (zBp vals 4 (.int .i64 (n:Int))) w where
 d0 hd:=by
  exact tc0
 d1 hd:=by
  exact tcr
 d2 hd:=by
  exact tcs
 d3 hd:=by
  exact tct
 d4 _:=zAr _ _ _
 d5 hd:=by
  exact tcv
 d6 hd:=by
  exact tcw
 d7 hd:=by
  exact tcx
 d8 hd:=by
  exact tcy
 d9 hd:=by
  exact tcz
 d10 hd:=by
  exact tcq
 d12 hd hd':=by
  exact tdd
 d9' hd:=by
  exact tbf
 d11 hd:=by
  exact tdj
 d11' hd:=by
  exact tbz
 below:=h.below
 size:=h.size
theorem J1.s5(h:J1 w0 B SL n r1 r2 g1 g2 s done vals w)(hi:done 5=false):J1 w0 B SL n r1 r2 w.heap.size g2 s (zBp done 5 true) (zBp vals 5 (slAt w.heap.size n)) (w.alloc (.cells (Array.replicate n (.int .i64 0)) 3)) where
 d0 hd:=by
  rw[zAb _ _ zc]at hd;rw[zAb _ _ zc];exact(h.alloc (.cells (Array.replicate n (.int .i64 0)) 3)).d0 hd
 d1 hd:=by
  rw[zAb _ _ zc]at hd;rw[zAb _ _ zc];exact(h.alloc (.cells (Array.replicate n (.int .i64 0)) 3)).d1 hd
 d2 hd:=by
  rw[zAb _ _ zc]at hd;rw[zAb _ _ zc];exact(h.alloc (.cells (Array.replicate n (.int .i64 0)) 3)).d2 hd
 d3 hd:=by
  rw[zAb _ _ zc]at hd;rw[zAb _ _ zc];exact(h.alloc (.cells (Array.replicate n (.int .i64 0)) 3)).d3 hd
 d4 hd:=by
  rw[zAb _ _ zc]at hd;rw[zAb _ _ zc];exact(h.alloc (.cells (Array.replicate n (.int .i64 0)) 3)).d4 hd
 d5 _:=⟨zAr _ _ _,aK _ _,h.size⟩
 d6 hd:=by
  rw[zAb _ _ zc]at hd;rw[zAb _ _ zc];exact(h.alloc (.cells (Array.replicate n (.int .i64 0)) 3)).d6 hd
 d7 hd:=by
  rw[zAb _ _ zc]at hd;rw[zAb _ _ zc];exact(h.alloc (.cells (Array.replicate n (.int .i64 0)) 3)).d7 hd
 d8 hd:=by
  rw[zAb _ _ zc]at hd;rw[zAb _ _ zc];exact(h.alloc (.cells (Array.replicate n (.int .i64 0)) 3)).d8 hd
 d9 hd:=by
  exact tco
 d10 hd:=by
  rw[zAb _ _ zc]at hd;rw[zAb _ _ zc];exact(h.alloc (.cells (Array.replicate n (.int .i64 0)) 3)).d10 hd
 d12 hd hd':=by
  exact tdd
 d9' hd:=by
  exact tco
 d11 hd:=by
  rw[zAb _ _ zc]at hd;have:=(h.d9' (h.d11' hd).1).2.2.1;rw[hi]at this;cases this
 d11' hd:=by
  exact tbz
 below:=(h.alloc (.cells (Array.replicate n (.int .i64 0)) 3)).below
 size:=(h.alloc (.cells (Array.replicate n (.int .i64 0)) 3)).size
theorem J1.s6(h:J1 w0 B SL n r1 r2 g1 g2 s done vals w):J1 w0 B SL n r1 r2 g1 g2 s (zBp done 6 true) (zBp vals 6 (SL)) w where
 d0 hd:=by
  exact tc0
 d1 hd:=by
  exact tcr
 d2 hd:=by
  exact tcs
 d3 hd:=by
  exact tct
 d4 hd:=by
  exact tcu
 d5 hd:=by
  exact tcv
 d6 _:=zAr _ _ _
 d7 hd:=by
  exact tcx
 d8 hd:=by
  exact tcy
 d9 hd:=by
  exact tcz
 d10 hd:=by
  exact tcq
 d12 hd hd':=by
  exact tdd
 d9' hd:=by
  exact tbf
 d11 hd:=by
  exact tdj
 d11' hd:=by
  exact tbz
 below:=h.below
 size:=h.size
theorem J1.s7(h:J1 w0 B SL n r1 r2 g1 g2 s done vals w):J1 w0 B SL n r1 r2 g1 g2 s (zBp done 7 true) (zBp vals 7 (.int .i64 (n:Int))) w where
 d0 hd:=by
  exact tc0
 d1 hd:=by
  exact tcr
 d2 hd:=by
  exact tcs
 d3 hd:=by
  exact tct
 d4 hd:=by
  exact tcu
 d5 hd:=by
  exact tcv
 d6 hd:=by
  exact tcw
 d7 _:=zAr _ _ _
 d8 hd:=by
  exact tcy
 d9 hd:=by
  exact tcz
 d10 hd:=by
  exact tcq
 d12 hd hd':=by
  exact tdd
 d9' hd:=by
  exact tbf
 d11 hd:=by
  exact tdj
 d11' hd:=by
  exact tbz
 below:=h.below
 size:=h.size
theorem J1.s8(h:J1 w0 B SL n r1 r2 g1 g2 s done vals w)(hi:done 8=false):J1 w0 B SL n r1 r2 g1 w.heap.size s (zBp done 8 true) (zBp vals 8 (slAt w.heap.size n)) (w.alloc (.cells (Array.replicate n zAm) 68)) where
 d0 hd:=by
  rw[zAb _ _ zc]at hd;rw[zAb _ _ zc];exact(h.alloc (.cells (Array.replicate n zAm) 68)).d0 hd
 d1 hd:=by
  rw[zAb _ _ zc]at hd;rw[zAb _ _ zc];exact(h.alloc (.cells (Array.replicate n zAm) 68)).d1 hd
 d2 hd:=by
  rw[zAb _ _ zc]at hd;rw[zAb _ _ zc];exact(h.alloc (.cells (Array.replicate n zAm) 68)).d2 hd
 d3 hd:=by
  rw[zAb _ _ zc]at hd;rw[zAb _ _ zc];exact(h.alloc (.cells (Array.replicate n zAm) 68)).d3 hd
 d4 hd:=by
  rw[zAb _ _ zc]at hd;rw[zAb _ _ zc];exact(h.alloc (.cells (Array.replicate n zAm) 68)).d4 hd
 d5 hd:=by
  rw[zAb _ _ zc]at hd;rw[zAb _ _ zc];exact(h.alloc (.cells (Array.replicate n zAm) 68)).d5 hd
 d6 hd:=by
  rw[zAb _ _ zc]at hd;rw[zAb _ _ zc];exact(h.alloc (.cells (Array.replicate n zAm) 68)).d6 hd
 d7 hd:=by
  rw[zAb _ _ zc]at hd;rw[zAb _ _ zc];exact(h.alloc (.cells (Array.replicate n zAm) 68)).d7 hd
 d8 _:=⟨zAr _ _ _,aK _ _,h.size⟩
 d9 hd:=by
  exact tcp
 d10 hd:=by
  rw[zAb _ _ zc]at hd;rw[zAb _ _ zc];exact(h.alloc (.cells (Array.replicate n zAm) 68)).d10 hd
 d12 hd hd':=by
  exact tdd
 d9' hd:=by
  exact tcp
 d11 hd:=by
  rw[zAb _ _ zc]at hd;have:=(h.d9' (h.d11' hd).1).2.2.2;rw[hi]at this;cases this
 d11' hd:=by
  exact tbz
 below:=(h.alloc (.cells (Array.replicate n zAm) 68)).below
 size:=(h.alloc (.cells (Array.replicate n zAm) 68)).size
theorem J1.s9(h:J1 w0 B SL n r1 r2 g1 g2 s done vals w)(h1:done 1=true)(h2:done 2=true)(h5:done 5=true)(h8:done 8=true):J1 w0 B SL n r1 r2 g1 g2 s (zBp done 9 true) (zBp vals 9 (.agg (boxOf SL zAm r1 r2 g1 g2 n))) w where
 d0 hd:=by
  exact tc0
 d1 hd:=by
  exact tcr
 d2 hd:=by
  exact tcs
 d3 hd:=by
  exact tct
 d4 hd:=by
  exact tcu
 d5 hd:=by
  exact tcv
 d6 hd:=by
  exact tcw
 d7 hd:=by
  exact tcx
 d8 hd:=by
  exact tcy
 d9 _:=zAr _ _ _
 d10 hd:=by
  exact tcq
 d12 hd hd':=by
  exact tdd
 d9' _:=by
  rw[zAb _ _ zc,zAb _ _ zc,zAb _ _ zc,zAb _ _ zc];exact⟨h1,h2,h5,h8⟩
 d11 hd:=by
  exact tdj
 d11' hd:=by
  rw[zAb _ _ zc]at hd;rw[zAb _ _ (show(10:Nat)≠9 by decide)];exact⟨zAr _ _ _,(h.d11' hd).2⟩
 below:=h.below
 size:=h.size
theorem J1.s10(h:J1 w0 B SL n r1 r2 g1 g2 s done vals w)(hi:done 10=false)(cs:Array Value)(hcs:cs.size=6):J1 w0 B SL n r1 r2 g1 g2 w.heap.size (zBp done 10 true) (zBp vals 10 (.pointer (some ⟨w.heap.size,0,none⟩))) (w.alloc (.cells cs 103)) where
 d0 hd:=by
  rw[zAb _ _ zc]at hd;rw[zAb _ _ zc];exact(h.alloc (.cells cs 103)).d0 hd
 d1 hd:=by
  rw[zAb _ _ zc]at hd;rw[zAb _ _ zc];exact(h.alloc (.cells cs 103)).d1 hd
 d2 hd:=by
  rw[zAb _ _ zc]at hd;rw[zAb _ _ zc];exact(h.alloc (.cells cs 103)).d2 hd
 d3 hd:=by
  rw[zAb _ _ zc]at hd;rw[zAb _ _ zc];exact(h.alloc (.cells cs 103)).d3 hd
 d4 hd:=by
  rw[zAb _ _ zc]at hd;rw[zAb _ _ zc];exact(h.alloc (.cells cs 103)).d4 hd
 d5 hd:=by
  rw[zAb _ _ zc]at hd;rw[zAb _ _ zc];exact(h.alloc (.cells cs 103)).d5 hd
 d6 hd:=by
  rw[zAb _ _ zc]at hd;rw[zAb _ _ zc];exact(h.alloc (.cells cs 103)).d6 hd
 d7 hd:=by
  rw[zAb _ _ zc]at hd;rw[zAb _ _ zc];exact(h.alloc (.cells cs 103)).d7 hd
 d8 hd:=by
  rw[zAb _ _ zc]at hd;rw[zAb _ _ zc];exact(h.alloc (.cells cs 103)).d8 hd
 d9 hd:=by
  rw[zAb _ _ zc]at hd;rw[zAb _ _ zc];exact(h.alloc (.cells cs 103)).d9 hd
 d10 _:=⟨zAr _ _ _,⟨cs,hcs,aK _ _⟩,h.size⟩
 d12 hd hd':=by
  exact tdd
 d9' hd:=by
  exact tbf
 d11 hd:=by
  rw[zAb _ _ zc]at hd;have:=(h.d11' hd).2;rw[hi]at this;cases this
 d11' hd:=by
  rw[zAb _ _ zc]at hd;rw[zAb _ _ (show(9:Nat)≠10 by decide)];exact⟨(h.d11' hd).1,zAr _ _ _⟩
 below:=(h.alloc (.cells cs 103)).below
 size:=(h.alloc (.cells cs 103)).size
end
theorem boxOf_size(SL lv:Value)(r1 r2 g1 g2 n:Nat):(boxOf SL lv r1 r2 g1 g2 n).size=6:=rfl
theorem run_store6{w:World}{s:Nat}{cs:Array Value}(hcs:cs.size=6)(hs:w.heap[s]?=some (.cells cs 103 (0,0)))(new:Array Value)(hn:new.size=6)(h1:∀v∈new.toList,v.oneCell'=true): (Instr.storeAt 103 (.pointer (some ⟨s,0,none⟩)) (.agg new)).run Tryz.prog w=.ok () (w.setRow s new):=by
 have hst:=run_storeCells_at Tryz.prog s 0 103 new.toList 0 cs w hs (by simp[hn,hcs]) h1
 have e:(cs.toList.take (0+0)++new.toList++cs.toList.drop (0+0+new.toList.length)).toArray=new:=by
  exact tby
 rw[e]at hst;have hsz:(sizeOf 103).run Tryz.prog w=.ok 6 w:=zb;simp[Instr.storeAt,Instr.sureAddr,storeVar,hsz,Value.cells,hn,hst]
theorem J1.s11{w0 w:World}{B n r1 r2 g1 g2 s:Nat}{SL:Value}{done:Nat->Bool}{vals:Nat->Value}(h:J1 w0 B SL n r1 r2 g1 g2 s done vals w)(h9:done 9=true)(h10:done 10=true)(v:Value): J1 w0 B SL n r1 r2 g1 g2 s (zBp done 11 true) (zBp vals 11 v) (w.setRow s (boxOf SL zAm r1 r2 g1 g2 n)):=by
 obtain⟨hv,⟨cs,hcs,hs⟩,hB⟩:=h.d10 h10;have hne:∀{k:Nat},k≠s->(w.setRow s (boxOf SL zAm r1 r2 g1 g2 n)).heap[k]?=w.heap[k]?:=fun hk=>setRow_other w s _ _ hk
 have hmap:∀{r:Nat}{f:BA->Option Value},zAu Value.string w r f->r≠s:=fun hm e=>by
  obtain⟨es,clk,L,hr,_⟩:=hm;rw[e,hs]at hr;cases hr
 have hcell:∀{g:Nat}{c:Array Value}{t:TypeId},t≠103->w.heap[g]?=some (.cells c t (0,0))->g≠s:=fun ht hg e=>by
  rw[e,hs]at hg
  injection hg with hg
  injection hg with _ hg
  exact ht hg.symm
 exact{
  d0:=fun hd=>by rw[zAb _ _ zc]at hd ⊢;exact h.d0 hd
  d1:=fun hd=>by
   rw[zAb _ _ zc]at hd ⊢;obtain⟨h1,h2,h3⟩:=h.d1 hd;exact⟨h1,h2.keep (hne (hmap h2)),h3⟩
  d2:=fun hd=>by
   rw[zAb _ _ zc]at hd ⊢;obtain⟨h1,h2,h3⟩:=h.d2 hd;exact⟨h1,h2.keep (hne (hmap h2)),h3⟩
  d12:=fun hd hd'=>by rw[zAb _ _ zc]at hd hd';exact h.d12 hd hd'
  d3:=fun hd=>by rw[zAb _ _ zc]at hd ⊢;exact h.d3 hd
  d4:=fun hd=>by rw[zAb _ _ zc]at hd ⊢;exact h.d4 hd
  d5:=fun hd=>by
   rw[zAb _ _ zc]at hd ⊢;obtain⟨h1,h2,h3⟩:=h.d5 hd;exact⟨h1,(hne (hcell zc h2)).trans h2,h3⟩
  d6:=fun hd=>by rw[zAb _ _ zc]at hd ⊢;exact h.d6 hd
  d7:=fun hd=>by rw[zAb _ _ zc]at hd ⊢;exact h.d7 hd
  d8:=fun hd=>by
   rw[zAb _ _ zc]at hd ⊢;obtain⟨h1,h2,h3⟩:=h.d8 hd;exact⟨h1,(hne (hcell zc h2)).trans h2,h3⟩
  d9:=fun hd=>by rw[zAb _ _ zc]at hd ⊢;exact h.d9 hd
  d9':=fun hd=>by
   exact tbf
  d10:=fun hd=>by
   rw[zAb _ _ zc]at hd ⊢;exact⟨(h.d10 hd).1,⟨_,boxOf_size _ _ _ _ _ _ _,setRow_heap w s cs _ _ _ hs⟩,hB⟩
  d11:=fun _=>setRow_heap w s cs _ _ _ hs
  d11':=fun _=>by
   rw[zAb _ _ zc,zAb _ _ zc];exact⟨h9,h10⟩
  below:=⟨h.below.os,h.below.tape,h.below.output,by simpa using h.below.size,fun k hk=>(hne za).trans (h.below.block k hk)⟩
  size:=by simpa using h.size }
theorem region1{ops:Array Oper}{Q:Exit->Act->World->Prop}{a0:Act}{w:World}{id:Nat}{A:Option Addr}{n c:Nat}(hn:n<=200)(hsz:ops.size=12)(hap:apartB ops=true)(hb:backB ops=true)(hk0:notDst ops 0=true)(ha0:a0.eval (.tmp 0)=.slice A n c)(has:22<a0.tmps.size)(o0:∃ty ps af,ops[0]?=some ⟨some 13,.move (.tmp 0),ty,ps,af,none⟩)(o1:∃ty ps af,ops[1]?=some ⟨some 14,.makeMap 100 none,ty,ps,af,none⟩)(o2:∃ty ps af,ops[2]?=some ⟨some 15,.makeMap 100 none,ty,ps,af,none⟩)(o3:∃ty ps af,ops[3]?=some ⟨some 16,.move (.tmp 0),ty,ps,af,none⟩)(o4:∃ty ps af,ops[4]?=some ⟨some 17,.call { callee:=.builtin .len,args:=#[.tmp 16],argTypes:=#[22] },ty,ps,af,none⟩)
  (o5:∃ty ps af,ops[5]?=some ⟨some 18,.makeSlice 68 (.tmp 17) (.tmp 17),ty,ps,af,none⟩)
  (o6:∃ty ps af,ops[6]?=some ⟨some 19,.move (.tmp 0),ty,ps,af,none⟩)
  (o7:∃ty ps af,ops[7]?=some ⟨some 20,.call { callee:=.builtin .len,args:=#[.tmp 19],argTypes:=#[22] },ty,ps,af,none⟩)
  (o8:∃ty ps af,ops[8]?=some ⟨some 21,.makeSlice 101 (.tmp 20) (.tmp 20),ty,ps,af,none⟩)
  (o9:∃ty ps af,ops[9]?=some ⟨some 22,.build 103 #[(0,.tmp 13),(1,.tmp 14),(3,.tmp 15),(4,.tmp 18),(5,.tmp 21)],ty,ps,af,none⟩)
  (o10:∃ty ps af,ops[10]?=some ⟨some 3,.alloc 103,ty,ps,af,none⟩)
  (o11:∃ty ps af,ops[11]?=some ⟨none,.store 103 (.tmp 3) (.tmp 22),ty,ps,af,none⟩)
  (e43:depB ops 4 3=true) (e54:depB ops 5 4=true) (e76:depB ops 7 6=true) (e87:depB ops 8 7=true)
  (e90:depB ops 9 0=true) (e91:depB ops 9 1=true) (e92:depB ops 9 2=true) (e95:depB ops 9 5=true) (e98:depB ops 9 8=true) (e119:depB ops 11 9=true) (e1110:depB ops 11 10=true)
  (hK:∀(r1 r2 g1 g2 s:Nat)(vals:Nat->Value)(w':World),NW w w' w.heap.size (.slice A n c) zAm r1 r2 g1 g2 s n (fun _=>none) (fun _=>none) (Array.replicate n (.int .i64 0)) (Array.replicate n zAm) ->
   vals 0=.slice A n c->vals 1=.map (some r1)->vals 2=.map (some r2)->vals 3=.slice A n c->vals 4=.int .i64 (n:Int)->vals 5=slAt g1 n->vals 6=.slice A n c->vals 7=.int .i64 (n:Int)->vals 8=slAt g2 n ->
   vals 9=.agg (boxOf (.slice A n c) zAm r1 r2 g1 g2 n)->vals 10=.pointer (some ⟨s,0,none⟩)->Q .normal (zAj ops vals (List.range 12) a0) w') :
  (Code.region id ops true).wp Tryz.prog Q a0 w:=by
 have hAp:=apart_of hap;refine zDx zb hAp hb (fun _=>undef) (fun done vals w'=>∃r1 r2 g1 g2 s,J1 w w.heap.size (.slice A n c) n r1 r2 g1 g2 s done vals w') ?_ ?_ ?_
 ·exact⟨0,0,0,0,0,zd,zd,zd,zd,zd,zd,zd,zd,zd,zd,zd,zd,zd,zd,zd,(aJ _ _).drew,aE _⟩
 ·intro i done vals w1 hi ⟨r1,r2,g1,g2,s,hJ⟩ hd hdep
  rw[hsz]at hi;have hlen:∀ty:TypeId,(Builtin.len_ #[22] ty #[.slice A n c]).run Tryz.prog w1=.ok (.int .i64 (n:Int)) w1:=fun _=>zb
  have hev0:(zAj ops vals (zAC ops.size done) a0).eval (.tmp 0)=.slice A n c:=(eval_kept hk0).trans ha0
  match i,hi with
  |0,_ =>
   obtain⟨ty,ps,af,ho⟩:=o0;refine zAq ho rfl (v:=.slice A n c) (w':=w1) (by simp[execOp,hev0]) ⟨_,zo,_,_,_,_,_,hJ.s0⟩
  |1,_ =>
   obtain⟨ty,ps,af,ho⟩:=o1;refine zAq ho rfl (v:=.map (some w1.heap.size)) (w':=w1.alloc (.map #[] 0)) (by simp[execOp,run_makeMap]) ⟨_,zo,_,_,_,_,_,hJ.s1 hd⟩
  |2,_ =>
   obtain⟨ty,ps,af,ho⟩:=o2;refine zAq ho rfl (v:=.map (some w1.heap.size)) (w':=w1.alloc (.map #[] 0)) (by simp[execOp,run_makeMap]) ⟨_,zo,_,_,_,_,_,hJ.s2 hd⟩
  |3,_ =>
   obtain⟨ty,ps,af,ho⟩:=o3;refine zAq ho rfl (v:=.slice A n c) (w':=w1) (by simp[execOp,hev0]) ⟨_,zo,_,_,_,_,_,hJ.s3⟩
  |4,_ =>
   obtain⟨ty,ps,af,ho⟩:=o4;have h3:=zAU e43 hdep
   have hev:(zAj ops vals (zAC ops.size done) a0).eval (.tmp 16)=.slice A n c:=by
    obtain⟨ty',ps',af',ho'⟩:=o3;rw[zAo hAp (a:=a0) (j:=3) (d:=16) za zn h3 (bV (m:=22) zc has),hJ.d3 h3]
   refine zAq ho rfl (v:=.int .i64 (n:Int)) (w':=w1) (by simp[execOp,resolve,invoke,builtin,hev,hlen]) ⟨_,zo,_,_,_,_,_,hJ.s4⟩
  |5,_ =>
   obtain⟨ty,ps,af,ho⟩:=o5;have h4:=zAU e54 hdep
   have hev:(zAj ops vals (zAC ops.size done) a0).eval (.tmp 17)=.int .i64 (n:Int):=by
    obtain⟨ty',ps',af',ho'⟩:=o4;rw[zAo hAp (a:=a0) (j:=4) (d:=17) za zn h4 (bV (m:=22) zc has),hJ.d4 h4]
   refine zAq ho rfl (v:=slAt w1.heap.size n) (w':=w1.alloc (.cells (Array.replicate n (.int .i64 0)) 3)) (by simp[execOp,hev,zCG _ _ elInt n za za rfl]) ⟨_,zo,_,_,_,_,_,hJ.s5 hd⟩
  |6,_ =>
   obtain⟨ty,ps,af,ho⟩:=o6;refine zAq ho rfl (v:=.slice A n c) (w':=w1) (by simp[execOp,hev0]) ⟨_,zo,_,_,_,_,_,hJ.s6⟩
  |7,_ =>
   obtain⟨ty,ps,af,ho⟩:=o7;have h3:=zAU e76 hdep
   have hev:(zAj ops vals (zAC ops.size done) a0).eval (.tmp 19)=.slice A n c:=by
    obtain⟨ty',ps',af',ho'⟩:=o6;rw[zAo hAp (a:=a0) (j:=6) (d:=19) za zn h3 (bV (m:=22) zc has),hJ.d6 h3]
   refine zAq ho rfl (v:=.int .i64 (n:Int)) (w':=w1) (by simp[execOp,resolve,invoke,builtin,hev,hlen]) ⟨_,zo,_,_,_,_,_,hJ.s7⟩
  |8,_ =>
   obtain⟨ty,ps,af,ho⟩:=o8;have h4:=zAU e87 hdep
   have hev:(zAj ops vals (zAC ops.size done) a0).eval (.tmp 20)=.int .i64 (n:Int):=by
    obtain⟨ty',ps',af',ho'⟩:=o7;rw[zAo hAp (a:=a0) (j:=7) (d:=20) za zn h4 (bV (m:=22) zc has),hJ.d7 h4]
   refine zAq ho rfl (v:=slAt w1.heap.size n) (w':=w1.alloc (.cells (Array.replicate n zAm) 68)) (by simp[execOp,hev,zCG _ _ elInts n za za rfl]) ⟨_,zo,_,_,_,_,_,hJ.s8 hd⟩
  |9,_ =>
   obtain⟨ty,ps,af,ho⟩:=o9;have q0:=zAU e90 hdep;have q1:=zAU e91 hdep;have q2:=zAU e92 hdep;have q5:=zAU e95 hdep;have q8:=zAU e98 hdep
   have ev0:(zAj ops vals (zAC ops.size done) a0).eval (.tmp 13)=.slice A n c:=by
    obtain⟨ty',ps',af',ho'⟩:=o0;rw[zAo hAp (a:=a0) (j:=0) (d:=13) za zn q0 (bV (m:=22) zc has),hJ.d0 q0]
   have ev1:(zAj ops vals (zAC ops.size done) a0).eval (.tmp 14)=.map (some r1):=by
    obtain⟨ty',ps',af',ho'⟩:=o1;rw[zAo hAp (a:=a0) (j:=1) (d:=14) za zn q1 (bV (m:=22) zc has),(hJ.d1 q1).1]
   have ev2:(zAj ops vals (zAC ops.size done) a0).eval (.tmp 15)=.map (some r2):=by
    obtain⟨ty',ps',af',ho'⟩:=o2;rw[zAo hAp (a:=a0) (j:=2) (d:=15) za zn q2 (bV (m:=22) zc has),(hJ.d2 q2).1]
   have ev5:(zAj ops vals (zAC ops.size done) a0).eval (.tmp 18)=slAt g1 n:=by
    obtain⟨ty',ps',af',ho'⟩:=o5;rw[zAo hAp (a:=a0) (j:=5) (d:=18) za zn q5 (bV (m:=22) zc has),(hJ.d5 q5).1]
   have ev8:(zAj ops vals (zAC ops.size done) a0).eval (.tmp 21)=slAt g2 n:=by
    obtain⟨ty',ps',af',ho'⟩:=o8;rw[zAo hAp (a:=a0) (j:=8) (d:=21) za zn q8 (bV (m:=22) zc has),(hJ.d8 q8).1]
   have hbuild:(Instr.build 103 #[(0,.slice A n c),(1,.map (some r1)),(3,.map (some r2)),(4,slAt g1 n),(5,slAt g2 n)]).run Tryz.prog w1=.ok (.agg (boxOf (.slice A n c) zAm r1 r2 g1 g2 n)) w1:=zb;refine zAq ho rfl (v:=.agg (boxOf (.slice A n c) zAm r1 r2 g1 g2 n)) (w':=w1) (by simp[execOp,ev0,ev1,ev2,ev5,ev8,hbuild]) ⟨_,zo,_,_,_,_,_,hJ.s9 q1 q2 q5 q8⟩
  |10,_ =>
   obtain⟨ty,ps,af,ho⟩:=o10;have halloc:(Instr.alloc 103 true (.tuple #[])).run Tryz.prog w1=.ok (.pointer (some ⟨w1.heap.size,0,none⟩)) (w1.alloc (.cells #[zAm,.map none,zAm,.map none,zAm,zAm] 103)):=zb;refine zAq ho rfl (v:=.pointer (some ⟨w1.heap.size,0,none⟩)) (w':=w1.alloc (.cells #[zAm,.map none,zAm,.map none,zAm,zAm] 103)) (by simp[execOp,halloc]) ⟨_,zo,_,_,_,_,_,hJ.s10 hd _ rfl⟩
  |11,_ =>
   obtain⟨ty,ps,af,ho⟩:=o11;have q9:=zAU e119 hdep;have q10:=zAU e1110 hdep
   have ev9:(zAj ops vals (zAC ops.size done) a0).eval (.tmp 22)=.agg (boxOf (.slice A n c) zAm r1 r2 g1 g2 n):=by
    obtain⟨ty',ps',af',ho'⟩:=o9;rw[zAo hAp (a:=a0) (j:=9) (d:=22) za zn q9 (bV (m:=22) zc has),hJ.d9 q9]
   have ev10:(zAj ops vals (zAC ops.size done) a0).eval (.tmp 3)=.pointer (some ⟨s,0,none⟩):=by
    obtain⟨ty',ps',af',ho'⟩:=o10;rw[zAo hAp (a:=a0) (j:=10) (d:=3) za zn q10 (bV (m:=22) zc has),(hJ.d10 q10).1]
   obtain⟨_,⟨cs,hcs,hs⟩,_⟩:=hJ.d10 q10;have hst:=run_store6 hcs hs (boxOf (.slice A n c) zAm r1 r2 g1 g2 n) rfl (by simp[boxOf,Value.oneCell']);refine wpOp_skip ho rfl (w':=w1.setRow s (boxOf (.slice A n c) zAm r1 r2 g1 g2 n)) (by simp[execOp,ev9,ev10,hst]) ⟨undef,zo,_,_,_,_,_,hJ.s11 q9 q10 undef⟩
 ·intro done vals w' hall ⟨r1,r2,g1,g2,s,hJ⟩
  rw[hsz]at hall ⊢;have d1:=hJ.d1 (hall 1 za);have d2:=hJ.d2 (hall 2 za);have d5:=hJ.d5 (hall 5 za);have d8:=hJ.d8 (hall 8 za);have d10:=hJ.d10 (hall 10 za)
  exact hK r1 r2 g1 g2 s vals w' ⟨hJ.d11 (hall 11 za),d1.2.1,d2.2.1,d5.2.1,d8.2.1,hJ.d12 (hall 1 za) (hall 2 za),d1.2.2,d2.2.2,d5.2.2,d8.2.2,d10.2.2,hJ.below⟩
   (hJ.d0 (hall 0 za)) d1.1 d2.1 (hJ.d3 (hall 3 za)) (hJ.d4 (hall 4 za)) d5.1 (hJ.d6 (hall 6 za)) (hJ.d7 (hall 7 za)) d8.1 (hJ.d9 (hall 9 za)) d10.1
def gathA(l:List Rg)(p:Nat->Bool)(k:Nat):List Ar:=((List.range k).filter p).map fun i=>⟨zCg l i,false⟩
theorem gathA_yes{l:List Rg}{p:Nat->Bool}{k:Nat}(h:p k=true):gathA l p (k+1)=gathA l p k++[⟨zCg l k,false⟩]:=by
 unfold gathA;rw[zAY,h];simp
theorem gathA_no{l:List Rg}{p:Nat->Bool}{k:Nat}(h:p k=false):gathA l p (k+1)=gathA l p k:=by
 unfold gathA;rw[zAY,h];simp
theorem gathA_le(l:List Rg)(p:Nat->Bool)(k:Nat):(gathA l p k).length<=k:=by
 unfold gathA;rw[dE];have:=dR p (List.range k)
 simpa using this
abbrev encI:Int->List Value:=fun z=>[.int .i64 z]
def zBG(l:List Rg)(k:Nat):List Nat:=(List.range k).filter fun i=>!zAB l i
theorem leafTo_par{l:List Rg}{k:Nat}(h:zAB l k=true):zBG l (k+1)=zBG l k:=by
 unfold zBG;rw[zAY];simp[h]
theorem leafTo_leaf{l:List Rg}{k:Nat}(h:zAB l k=false):zBG l (k+1)=zBG l k++[k]:=by
 unfold zBG;rw[zAY];simp[h]
theorem leafTo_le(l:List Rg)(k:Nat):(zBG l k).length<=k:=by
 unfold zBG;have:=dR (fun i=>!zAB l i) (List.range k)
 simpa using this
def lmF(l:List Rg):Nat->BA->Option Value
 |0,_=>none
 |k+1,s=>if zAB l k then lmF l k s else if s=zCg l k then some (.int .i64 ((zBG l k).length:Int)) else lmF l k s
def zAQ(l:List Rg)(k x:Nat):List Int:=((zBG l k).zipIdx.filter fun p=>under l p.1 x).map fun p=>(p.2:Int)
theorem belowK_par{l:List Rg}{k:Nat}(h:zAB l k=true)(x:Nat):zAQ l (k+1) x=zAQ l k x:=by
 unfold zAQ;rw[leafTo_par h]
theorem belowK_leaf{l:List Rg}{k:Nat}(h:zAB l k=false)(x:Nat):zAQ l (k+1) x=zAQ l k x++if under l k x then [((zBG l k).length:Int)] else []:=by
 unfold zAQ;rw[leafTo_leaf h,List.zipIdx_append,dQ,aA]
 congr 1
 cases hu:under l k x<;>simp[hu]
theorem belowK_le(l:List Rg)(k x:Nat):(zAQ l k x).length<=k:=by
 unfold zAQ;rw[dE];refine dC (dR _ _) ?_;rw[List.length_zipIdx];exact leafTo_le l k
theorem underF_upN{l:List Rg}:∀{f i k:Nat},zBH l f i k=true->∃d,upN l d i=some k
 |0,_,_,h=>by simp[zBH]at h
 |f+1,i,k,h=>by
  rw[zBH]at h
  by_cases e:i=k
  ·exact⟨0,by simp[upN,e]⟩
  ·cases hu:up l i with
   |none=>rw[hu]at h;simp[e]at h
   |some j =>
    rw[hu]at h;have h':zBH l f j k=true:=by simpa[e]using h
    obtain⟨d,hd⟩:=underF_upN h';exact⟨d+1,by rw[upN,hu];exact hd⟩
theorem upN_underF{l:List Rg}:∀{f i k d:Nat},upN l f i=none->upN l d i=some k->zBH l f i k=true
 |0,_,_,_,h,_=>by simp[upN]at h
 |f+1,i,k,0,_,h=>by
  have:i=k:=by simpa[upN]using h
  subst this;simp[zBH]
 |f+1,i,k,d+1,h,hd=>by
  rw[upN]at h hd
  cases hu:up l i with
  |none=>rw[hu]at hd;cases hd
  |some j =>
   rw[hu]at h hd;have:=upN_underF h hd;rw[zBH,hu];simp[this]
theorem not_under_up{l:List Rg}(g:GoodR l){y y' f:Nat}(hy:y<l.length)(hu:up l y=some y'):zBH l f y' y=false:=by
 cases h:zBH l f y' y with
 |false=>rfl
 |true =>
  exfalso;obtain⟨d,hd⟩:=underF_upN h;have e:upN l (d+1) y=some y:=by rw[upN,hu];exact hd
  have h1:=g.ends y hy;have h2:=loop_forever e (l.length+2)
  rw[upN_none_mono h1 (by
   have:1*(l.length+2)<=(d+1)*(l.length+2):=bU _ za;omega)]at h2
  cases h2
structure RowsI (w:World) (B g1 n:Nat) (bl:Array Value) (R:Nat->List Int):Prop where
 size:bl.size=n
 own:∀(x:Nat)(v:Value),bl[x]?=some v->zAs encI 1 w B 3 v (R x)
 ne1:∀(x:Nat)(v:Value),bl[x]?=some v->v.ownBlock≠some g1
 sep:∀(x y:Nat)(v u:Value),x≠y->bl[x]?=some v->bl[y]?=some u->v.ownBlock=none\/v.ownBlock≠u.ownBlock
theorem own_keepT{α:Type}{enc:α->List Value}{k:Nat}{w w':World}{base:Nat}{e:TypeId}{v:Value}{l:List α}(h:zAs enc k w base e v l)(hk:∀(g:Nat)(cs:Array Value),w.heap[g]?=some (.cells cs e (0,0))->w'.heap[g]?=w.heap[g]?):zAs enc k w' base e v l:=by
 refine⟨h.1,?_⟩
 rcases h.2 with hn|⟨g,cap,cur,rfl,hb,hgg,rest⟩
 ·exact .inl hn
 ·exact .inr ⟨g,cap,cur,rfl,hb,(hk g cur hgg).trans hgg,rest⟩
theorem zAM{α:Type}{enc:α->List Value}{k:Nat}{w:World}{base:Nat}{e:TypeId}{v:Value}{l:List α}(h:zAs enc k w base e v l){g:Nat}(hg:v.ownBlock=some g):base<=g/\∃cs,w.heap[g]?=some (.cells cs e (0,0)):=by
 rcases h.2 with ⟨rfl,_⟩|⟨g',cap,cur,rfl,hb,hgg,rest⟩
 ·simp[Value.ownBlock]at hg
 ·have:g'=g:=by simpa[Value.ownBlock]using hg
  subst this;exact⟨hb,cur,hgg⟩
section
variable {w w':World} {B g1 n:Nat} {bl:Array Value} {R:Nat→List Int}
theorem RowsI.nil(w:World)(B g1 n:Nat):RowsI w B g1 n (Array.replicate n zAm) (fun _=>[]) where
 size:=zd
 own x v h:=by
  rw[Array.getElem?_replicate]at h
  split at h
  ·injection h with h;subst h;exact zAs.nil _ _ _ _ _
  ·cases h
 ne1 x v h:=by
  rw[Array.getElem?_replicate]at h
  split at h
  ·injection h with h;subst h;simp[Value.ownBlock]
  ·cases h
 sep x y v u _ h _:=by
  rw[Array.getElem?_replicate]at h
  split at h
  ·injection h with h;subst h;exact .inl rfl
  ·cases h
theorem RowsI.keepT(h:RowsI w B g1 n bl R)(hk:∀(g:Nat)(cs:Array Value),w.heap[g]?=some (.cells cs 3 (0,0))->w'.heap[g]?=w.heap[g]?):RowsI w' B g1 n bl R:=
 ⟨h.size,fun x v hv=>own_keepT (h.own x v hv) hk,h.ne1,h.sep⟩
theorem RowsI.congr{R':Nat->List Int}(h:RowsI w B g1 n bl R)(hR:∀x,x<n->R x=R' x):RowsI w B g1 n bl R':=
 ⟨h.size,fun x v hv=>by
  have hx:x<n:=by rw[<-h.size];exact(Array.getElem?_eq_some_iff.1 hv).1
  rw[<-hR x hx];exact h.own x v hv,h.ne1,h.sep⟩
theorem RowsI.alloc(h:RowsI w B g1 n bl R)(o:Obj):RowsI (w.alloc o) B g1 n bl R:=h.keepT fun _ _ hg=>dT w o _ (Array.getElem?_eq_some_iff.1 hg).1
theorem RowsI.push(h:RowsI w B g1 n bl R){y:Nat}{v v':Value}{m:Int}(hy:bl[y]?=some v)(hg1:g1<w.heap.size)(hg:w.grownBy w' v.ownBlock)(ho:zAs encI 1 w' B 3 v' (R y++[m]))(hat:v'.ownBlock=v.ownBlock\/v'.ownBlock=some w.heap.size): RowsI w' B g1 n (bl.setIfInBounds y v') (fun x=>if x=y then R y++[m] else R x):=by
 have hyl:y<bl.size:=(Array.getElem?_eq_some_iff.1 hy).1
 have hlt:∀(x:Nat)(u:Value),bl[x]?=some u->∀k,u.ownBlock=some k->k<w.heap.size:=fun x u hu k hk=>by
  obtain⟨_,cs,hcs⟩:=zAM (h.own x u hu) hk;exact(Array.getElem?_eq_some_iff.1 hcs).1
 have hget:∀(x:Nat)(u:Value),(bl.setIfInBounds y v')[x]?=some u->(x=y/\u=v')\/(x≠y/\bl[x]?=some u):=fun x u hu=>by
  rw[Array.getElem?_setIfInBounds]at hu
  by_cases e:y=x
  ·rw[aD e,aD hyl]at hu
   injection hu with hu
   exact .inl ⟨e.symm,hu.symm⟩
  ·rw[aW e]at hu
   exact .inr ⟨fun e'=>e e'.symm,hu⟩
 refine⟨by simp[h.size],fun x u hu=>?_,fun x u hu=>?_,fun x z u t hxz hu ht=>?_⟩
 ·rcases hget x u hu with ⟨rfl,rfl⟩|⟨hne,hu'⟩
  ·simpa using ho
  ·simp only[hne,if_false]
   exact(h.own x u hu').grown hg (h.sep x y u v hne hu' hy)
 ·rcases hget x u hu with ⟨rfl,rfl⟩|⟨hne,hu'⟩
  ·rcases hat with e|e
   ·rw[e];exact h.ne1 _ _ hy
   ·rw[e];intro e2;injection e2 with e2;omega
  ·exact h.ne1 x u hu'
 ·rcases hget x u hu with ⟨rfl,rfl⟩|⟨hne,hu'⟩
  ·rcases hget z t ht with ⟨rfl,rfl⟩|⟨hne2,ht'⟩
   ·exact absurd rfl hxz
   ·rcases hat with e|e
    ·rw[e];exact h.sep _ _ _ _ (Ne.symm hne2) hy ht'
    ·right
     rw[e];intro e2;have:=hlt z t ht' _ e2.symm;omega
  ·rcases hget z t ht with ⟨rfl,rfl⟩|⟨hne2,ht'⟩
   ·rcases hat with e|e
    ·rw[e];exact h.sep _ _ _ _ hne hu' hy
    ·right
     rw[e];intro e2;have:=hlt x u hu' _ e2;omega
   ·exact h.sep x z u t hxz hu' ht'
end
structure J2 (w0:World) (B s g2 n y:Nat) (M:Int) (v:Value) (L:List Int) (done:Nat->Bool) (vals:Nat->Value) (w:World):Prop where
 d0:done 0=true->vals 0=.pointer (some ⟨s,5,none⟩)
 d1:done 1=true->vals 1=slAt g2 n
 d2:done 2=true->vals 2=.int .i64 (y:Int)
 d3:done 3=true->vals 3=.pointer (some ⟨s,5,none⟩)
 d4:done 4=true->vals 4=slAt g2 n
 d5:done 5=true->vals 5=.int .i64 (y:Int)
 d6:done 6=true->vals 6=.pointer (some ⟨g2,y,none⟩)
 d7:done 7=true->vals 7=v
 d8:done 8=true->vals 8=.int .i64 M
 d9:done 9=true->vals 9=.slice (some ⟨w0.heap.size,0,none⟩) 1 1
 d11:done 11=true->vals 11=.pointer (some ⟨g2,y,none⟩)
 d10':done 10=true->done 9=true
 d12':done 12=true->∀j,j<12->done j=true
 w9:done 9=false->w=w0.drew
 w10:done 9=true->done 10=false->w=(w0.alloc (.cells #[.int .i64 M] 3)).drew
 w12:done 10=true->∃A' c' wA,vals 10=.slice A' (L.length+1) c'/\zAs encI 1 wA B 3 (.slice A' (L.length+1) c') (L++[M])/\(w0.alloc (.cells #[.int .i64 M] 3)).grownBy wA v.ownBlock /\
  ((Value.slice A' (L.length+1) c').ownBlock=v.ownBlock\/(Value.slice A' (L.length+1) c').ownBlock=some (w0.heap.size+1))/\(done 12=false->w=wA)/\(done 12=true->w=wA.setCell ⟨g2,y,none⟩ (.slice A' (L.length+1) c'))
theorem J2.keep{w0 w:World}{B s g2 n y:Nat}{M:Int}{v:Value}{L:List Int}{done:Nat->Bool}{vals:Nat->Value}(h:J2 w0 B s g2 n y M v L done vals w)(h12:done 12=false){p:Addr}(hp:p.block<w0.heap.size)(hne:v.ownBlock≠some p.block): w.heap[p.block]?=w0.heap[p.block]?/\w0.heap.size<=w.heap.size:=by
 cases h9:done 9 with
 |false=>rw[h.w9 h9];exact⟨rfl,aE _⟩
 |true =>
  cases h10:done 10 with
  |false =>
   rw[h.w10 h9 h10];exact⟨dT w0 _ _ hp,zd⟩
  |true =>
   obtain⟨A',c',wA,_,_,hg,_,hw,_⟩:=h.w12 h10;rw[hw h12];exact⟨(hg.block _ ze (fun e=>hne e.symm)).trans (dT w0 _ _ hp),by have:=hg.size;simp at this;omega⟩
theorem J2.pure{w0 w:World}{B s g2 n y:Nat}{M:Int}{v:Value}{L:List Int}{done:Nat->Bool}{vals:Nat->Value}(h:J2 w0 B s g2 n y M v L done vals w){i:Nat}{u:Value}(hi:i≠9/\i≠10/\i≠12)(hu:(i=0->u=.pointer (some ⟨s,5,none⟩))/\(i=1->u=slAt g2 n)/\(i=2->u=.int .i64 (y:Int))/\(i=3->u=.pointer (some ⟨s,5,none⟩))/\(i=4->u=slAt g2 n)/\(i=5->u=.int .i64 (y:Int))/\(i=6->u=.pointer (some ⟨g2,y,none⟩))/\(i=7->u=v)/\(i=8->u=.int .i64 M)/\(i=11->u=.pointer (some ⟨g2,y,none⟩)))(hd:done i=false): J2 w0 B s g2 n y M v L (zBp done i true) (zBp vals i u) w:=by
 obtain⟨n9,n10,n12⟩:=hi;obtain⟨u0,u1,u2,u3,u4,u5,u6,u7,u8,u11⟩:=hu;have e9:zBp done i true 9=done 9:=zAb _ _ (Ne.symm n9);have e10:zBp done i true 10=done 10:=zAb _ _ (Ne.symm n10);have e12:zBp done i true 12=done 12:=zAb _ _ (Ne.symm n12)
 have step:∀{j:Nat}{c:Value},(done j=true->vals j=c)->(i=j->u=c)->zBp done i true j=true->zBp vals i u j=c:=fun{j c} h1 h2 h3=>by
  by_cases e:j=i
  ·subst e;rw[zAr];exact h2 rfl
  ·rw[zAb _ _ e]at h3 ⊢;exact h1 h3
 exact{
  d0:=step h.d0 u0
  d1:=step h.d1 u1
  d2:=step h.d2 u2
  d3:=step h.d3 u3
  d4:=step h.d4 u4
  d5:=step h.d5 u5
  d6:=step h.d6 u6
  d7:=step h.d7 u7
  d8:=step h.d8 u8
  d9:=fun hh=>by rw[e9]at hh;rw[zAb _ _ (Ne.symm n9)];exact h.d9 hh
  d11:=step h.d11 u11
  d10':=fun hh=>by rw[e10]at hh;rw[e9];exact h.d10' hh
  d12':=fun hh=>by
   rw[e12]at hh;intro j hj
   by_cases e:j=i
   ·subst e;exact zAr _ _ _
   ·rw[zAb _ _ e];exact h.d12' hh j hj
  w9:=fun hh=>by rw[e9]at hh;exact h.w9 hh
  w10:=fun hh hh'=>by rw[e9]at hh;rw[e10]at hh';exact h.w10 hh hh'
  w12:=fun hh=>by
   rw[e10]at hh;obtain⟨A',c',wA,h1,h2,h3,h4,h5,h6⟩:=h.w12 hh;exact⟨A',c',wA,by rw[zAb _ _ (Ne.symm n10)];exact h1,h2,h3,h4,fun hx=>h5 (by rw[e12]at hx;exact hx),fun hx=>h6 (by rw[e12]at hx;exact hx)⟩ }
theorem region26{ops:Array Oper}{Q:Exit->Act->World->Prop}{a0:Act}{w0:World}{id B s g2 n y:Nat}{M:Int}{Av:Option Addr}{cv:Nat}{L:List Int}(hL:L.length<=200)(hy:y<n)(hsz:ops.size=13)(hap:apartB ops=true)(hb:backB ops=true)(hk3:notDst ops 3=true)(hk11:notDst ops 11=true)(hk12:notDst ops 12=true)(ha3:a0.eval (.tmp 3)=.pointer (some ⟨s,0,none⟩))(ha11:a0.eval (.tmp 11)=.int .i64 M)(ha12:a0.eval (.tmp 12)=.int .i64 (y:Int))(has:115<a0.tmps.size)(hcs:w0.cell? ⟨s,5,none⟩=some (slAt g2 n))(hcg:w0.cell? ⟨g2,y,none⟩=some (.slice Av L.length cv))(hfg:w0.frozen? ⟨g2,y,none⟩=false)(hown:zAs encI 1 w0 B 3 (.slice Av L.length cv) L)(hB:B<=w0.heap.size)(hns:(Value.slice Av L.length cv).ownBlock≠some s)(hng:(Value.slice Av L.length cv).ownBlock≠some g2)(o0:∃ty ps af,ops[0]?=some ⟨some 104,.fieldAddr 103 (.tmp 3) 5,ty,ps,af,none⟩)(o1:∃ty ps af,ops[1]?=some ⟨some 105,.load 101 (.tmp 104),ty,ps,af,none⟩)(o2:∃ty ps af,ops[2]?=some ⟨some 106,.move (.tmp 12),ty,ps,af,none⟩)(o3:∃ty ps af,ops[3]?=some ⟨some 107,.fieldAddr 103 (.tmp 3) 5,ty,ps,af,none⟩)(o4:∃ty ps af,ops[4]?=some ⟨some 108,.load 101 (.tmp 107),ty,ps,af,none⟩)(o5:∃ty ps af,ops[5]?=some ⟨some 109,.move (.tmp 12),ty,ps,af,none⟩)(o6:∃ty ps af,ops[6]?=some ⟨some 110,.indexAddr 101 (.tmp 108) (.tmp 109),ty,ps,af,none⟩)(o7:∃ty ps af,ops[7]?=some ⟨some 111,.load 68 (.tmp 110),ty,ps,af,none⟩)(o8:∃ty ps af,ops[8]?=some ⟨some 112,.move (.tmp 11),ty,ps,af,none⟩)(o9:∃ty ps af,ops[9]?=some ⟨some 113,.buildSlice 68 1 #[(0,.tmp 112)],ty,ps,af,none⟩)(o10:∃ty ps af,ops[10]?=some ⟨some 114,.call { callee:=.builtin .append,args:=#[.tmp 111,.tmp 113],argTypes:=#[68,68] },ty,ps,af,none⟩)
  (o11:∃ty ps af,ops[11]?=some ⟨some 115,.indexAddr 101 (.tmp 105) (.tmp 106),ty,ps,af,none⟩)
  (o12:∃ty ps af,ops[12]?=some ⟨none,.store 68 (.tmp 115) (.tmp 114),ty,ps,af,none⟩)
  (e10:depB ops 1 0=true) (e43:depB ops 4 3=true) (e64:depB ops 6 4=true) (e65:depB ops 6 5=true) (e76:depB ops 7 6=true) (e98:depB ops 9 8=true) (e107:depB ops 10 7=true) (e109:depB ops 10 9=true) (e111:depB ops 11 1=true) (e112:depB ops 11 2=true)
  (e12:((List.range 12).all fun j=>depB ops 12 j)=true)
  (hK:∀(A':Option Addr)(c':Nat)(wA:World)(vals:Nat->Value),zAs encI 1 wA B 3 (.slice A' (L.length+1) c') (L++[M])->(w0.alloc (.cells #[.int .i64 M] 3)).grownBy wA (Value.slice Av L.length cv).ownBlock ->
   ((Value.slice A' (L.length+1) c').ownBlock=(Value.slice Av L.length cv).ownBlock\/(Value.slice A' (L.length+1) c').ownBlock=some (w0.heap.size+1)) ->
   vals 0=.pointer (some ⟨s,5,none⟩)->vals 1=slAt g2 n->vals 2=.int .i64 (y:Int)->vals 3=.pointer (some ⟨s,5,none⟩)->vals 4=slAt g2 n->vals 5=.int .i64 (y:Int)->vals 6=.pointer (some ⟨g2,y,none⟩)->vals 7=.slice Av L.length cv->vals 8=.int .i64 M ->
   vals 9=.slice (some ⟨w0.heap.size,0,none⟩) 1 1->vals 10=.slice A' (L.length+1) c'->vals 11=.pointer (some ⟨g2,y,none⟩)->Q .normal (zAj ops vals (List.range 13) a0) (wA.setCell ⟨g2,y,none⟩ (.slice A' (L.length+1) c'))) :
  (Code.region id ops true).wp Tryz.prog Q a0 w0:=by
 have hAp:=apart_of hap;have hsl:s<w0.heap.size:=World.block_lt_of_cell? w0 _ hcs;have hgl:g2<w0.heap.size:=World.block_lt_of_cell? w0 _ hcg;refine zDx zb hAp hb (fun _=>undef) (J2 w0 B s g2 n y M (.slice Av L.length cv) L) ?_ ?_ ?_
 ·exact⟨zd,zd,zd,zd,zd,zd,zd,zd,zd,zd,zd,zd,zd,fun _=>rfl,zd,zd⟩
 ·intro i done vals w1 hi hJ hd hdep
  rw[hsz]at hi
  have h12:i≠12->done 12=false:=fun hne=>by
   cases h:done 12 with
   |false=>rfl
   |true=>rw[hJ.d12' h i za]at hd;cases hd
  have hc5:i≠12->w1.cell? ⟨s,5,none⟩=some (slAt g2 n):=fun hne=>by
   rw[<-hcs];exact World.cell?_of_block (hJ.keep (h12 hne) (p:=⟨s,5,none⟩) hsl hns).1
  have hcy:i≠12->w1.cell? ⟨g2,y,none⟩=some (.slice Av L.length cv):=fun hne=>by
   rw[<-hcg];exact World.cell?_of_block (hJ.keep (h12 hne) (p:=⟨g2,y,none⟩) hgl hng).1
  have hidx:(Instr.indexAt 101 (slAt g2 n) (.int .i64 (y:Int))).run Tryz.prog w1=.ok (.pointer (some ⟨g2,y,none⟩)) w1:=by
   have hi:(0:Int)<=(y:Int)/\(y:Int)<(n:Int):=za;simp[go_sem,hi]
  have hfld:(Instr.fieldAt 103 (.pointer (some ⟨s,0,none⟩)) 5).run Tryz.prog w1=.ok (.pointer (some ⟨s,5,none⟩)) w1:=by
   simp[go_sem]
  have hev3:(zAj ops vals (zAC ops.size done) a0).eval (.tmp 3)=.pointer (some ⟨s,0,none⟩):=(eval_kept hk3).trans ha3;have hev11:(zAj ops vals (zAC ops.size done) a0).eval (.tmp 11)=.int .i64 M:=(eval_kept hk11).trans ha11;have hev12:(zAj ops vals (zAC ops.size done) a0).eval (.tmp 12)=.int .i64 (y:Int):=(eval_kept hk12).trans ha12
  match i,hi with
  |0,_ =>
   obtain⟨ty,ps,af,ho⟩:=o0;exact tbe
  |1,_ =>
   obtain⟨ty,ps,af,ho⟩:=o1;have q:=zAU e10 hdep
   have ev:(zAj ops vals (zAC ops.size done) a0).eval (.tmp 104)=.pointer (some ⟨s,5,none⟩):=by
    obtain⟨ty',ps',af',ho'⟩:=o0;rw[zAo hAp (a:=a0) (j:=0) (d:=104) za zn q (bV (m:=115) zc has),hJ.d0 q]
   exact tav
  |2,_ =>
   obtain⟨ty,ps,af,ho⟩:=o2;exact tbk
  |3,_ =>
   obtain⟨ty,ps,af,ho⟩:=o3;exact tbe
  |4,_ =>
   obtain⟨ty,ps,af,ho⟩:=o4;have q:=zAU e43 hdep
   have ev:(zAj ops vals (zAC ops.size done) a0).eval (.tmp 107)=.pointer (some ⟨s,5,none⟩):=by
    obtain⟨ty',ps',af',ho'⟩:=o3;rw[zAo hAp (a:=a0) (j:=3) (d:=107) za zn q (bV (m:=115) zc has),hJ.d3 q]
   exact tav
  |5,_ =>
   obtain⟨ty,ps,af,ho⟩:=o5;exact tbk
  |6,_ =>
   obtain⟨ty,ps,af,ho⟩:=o6;have q4:=zAU e64 hdep;have q5:=zAU e65 hdep
   have ev4:(zAj ops vals (zAC ops.size done) a0).eval (.tmp 108)=slAt g2 n:=by
    obtain⟨ty',ps',af',ho'⟩:=o4;rw[zAo hAp (a:=a0) (j:=4) (d:=108) za zn q4 (bV (m:=115) zc has),hJ.d4 q4]
   have ev5:(zAj ops vals (zAC ops.size done) a0).eval (.tmp 109)=.int .i64 (y:Int):=by
    obtain⟨ty',ps',af',ho'⟩:=o5;rw[zAo hAp (a:=a0) (j:=5) (d:=109) za zn q5 (bV (m:=115) zc has),hJ.d5 q5]
   exact zAq ho rfl (v:=.pointer (some ⟨g2,y,none⟩)) (w':=w1) (by simp[execOp,ev4,ev5,hidx]) ⟨_,zo,hJ.pure zc zd hd⟩
  |7,_ =>
   obtain⟨ty,ps,af,ho⟩:=o7;have q:=zAU e76 hdep
   have ev:(zAj ops vals (zAC ops.size done) a0).eval (.tmp 110)=.pointer (some ⟨g2,y,none⟩):=by
    obtain⟨ty',ps',af',ho'⟩:=o6;rw[zAo hAp (a:=a0) (j:=6) (d:=110) za zn q (bV (m:=115) zc has),hJ.d6 q]
   have hld:(Instr.loadAt 68 (.pointer (some ⟨g2,y,none⟩))).run Tryz.prog w1=.ok (.slice Av L.length cv) w1:=by simp[go_sem,hcy zc]
   exact zAq ho rfl (v:=.slice Av L.length cv) (w':=w1) (by simp[execOp,ev,hld]) ⟨_,zo,hJ.pure zc zd hd⟩
  |8,_ =>
   obtain⟨ty,ps,af,ho⟩:=o8;exact zAq ho rfl (v:=.int .i64 M) (w':=w1) (by simp[execOp,hev11]) ⟨_,zo,hJ.pure zc zd hd⟩
  |9,_ =>
   obtain⟨ty,ps,af,ho⟩:=o9;have q:=zAU e98 hdep
   have ev:(zAj ops vals (zAC ops.size done) a0).eval (.tmp 112)=.int .i64 M:=by
    obtain⟨ty',ps',af',ho'⟩:=o8;rw[zAo hAp (a:=a0) (j:=8) (d:=112) za zn q (bV (m:=115) zc has),hJ.d8 q]
   have hw:=hJ.w9 hd
   have h10:done 10=false:=by
    cases h:done 10 with
    |false=>rfl
    |true=>rw[hJ.d10' h]at hd;cases hd
   have hbs:(Instr.buildSlice 68 1 #[(0,.int .i64 M)]).run Tryz.prog w1=.ok (.slice (some ⟨w1.heap.size,0,none⟩) 1 1) (w1.alloc (.cells #[.int .i64 M] 3)):=zb;refine zAq ho rfl (v:=.slice (some ⟨w1.heap.size,0,none⟩) 1 1) (w':=w1.alloc (.cells #[.int .i64 M] 3)) (by simp[execOp,ev,hbs]) ⟨_,zo,?_⟩
   subst hw;have ne:∀{j:Nat},j≠9->zBp done 9 true j=done j:=fun hj=>zAb _ _ hj
   have nv:∀{j:Nat}{u:Value},j≠9->zBp vals 9 u j=vals j:=fun hj=>zAb _ _ hj
   exact{
    d0:=fun hh=>yp
    d1:=fun hh=>yq
    d2:=fun hh=>yr
    d3:=fun hh=>yt
    d4:=fun hh=>yu
    d5:=fun hh=>yw
    d6:=fun hh=>yx
    d7:=fun hh=>yy
    d8:=fun hh=>yz
    d9:=fun _=>zAr _ _ _
    d11:=fun hh=>yo
    d10':=fun _=>zAr _ _ _
    d12':=fun hh=>by rw[ne zc,h12 zc]at hh;cases hh
    w9:=fun hh=>by rw[zAr]at hh;cases hh
    w10:=fun _ _=>rfl
    w12:=fun hh=>by rw[ne zc,h10]at hh;cases hh }
  |10,_ =>
   obtain⟨ty,ps,af,ho⟩:=o10;have q7:=zAU e107 hdep;have q9:=zAU e109 hdep
   have ev7:(zAj ops vals (zAC ops.size done) a0).eval (.tmp 111)=.slice Av L.length cv:=by
    obtain⟨ty',ps',af',ho'⟩:=o7;rw[zAo hAp (a:=a0) (j:=7) (d:=111) za zn q7 (bV (m:=115) zc has),hJ.d7 q7]
   have ev9:(zAj ops vals (zAC ops.size done) a0).eval (.tmp 113)=.slice (some ⟨w0.heap.size,0,none⟩) 1 1:=by
    obtain⟨ty',ps',af',ho'⟩:=o9;rw[zAo hAp (a:=a0) (j:=9) (d:=113) za zn q9 (bV (m:=115) zc has),hJ.d9 q9]
   have hw:=hJ.w10 q9 hd;have f12:=h12 zc;obtain⟨i0,hi0,hz0,hz1,hz2⟩:=info_parts elInt.info
   obtain⟨v',wA,hrun,h2,h3,_,h5⟩:=run_append_own_at (P:=Tryz.prog) w1 B 68 ty 3 i0 _ 1 8 elInt.ty hi0 hz0 hz1 hz2 rfl zc (.slice Av L.length cv) L.length (L.flatMap encI) (by rw[hw];exact(hown.alloc _)) ⟨w0.heap.size,0,none⟩ 1 1 [.int .i64 M] rfl
    (by rw[hw];exact World.news_of_block (cs:=#[.int .i64 M]) (t:=3) (fr:=(0,0)) (aK w0 _)) zt zm za (by rw[hw];simp;omega)
   have ho':zAs encI 1 wA B 3 v' (L++[M]):=by
    unfold zAs
    simpa using h2
   obtain⟨A',c',rfl⟩:∃A' c',v'=.slice A' (L.length+1) c':=by
    rcases h2.2 with ⟨rfl,hn⟩|⟨g,cap,cur,rfl,_⟩
    ·omega
    ·exact⟨_,_,rfl⟩
   refine zAq ho rfl (v:=.slice A' (L.length+1) c') (w':=wA) (by simp[execOp,resolve,invoke,builtin,ev7,ev9,hrun]) ⟨_,zo,?_⟩
   have ne:∀{j:Nat},j≠10->zBp done 10 true j=done j:=fun hj=>zAb _ _ hj
   have nv:∀{j:Nat}{u:Value},j≠10->zBp vals 10 u j=vals j:=fun hj=>zAb _ _ hj
   have h3':(w0.alloc (.cells #[.int .i64 M] 3)).grownBy wA (Value.slice Av L.length cv).ownBlock:=by
    rw[hw]at h3;exact⟨h3.os,h3.tape,h3.output,h3.size,h3.block⟩
   have h5':(Value.slice A' (L.length+1) c').ownBlock=(Value.slice Av L.length cv).ownBlock\/(Value.slice A' (L.length+1) c').ownBlock=some (w0.heap.size+1):=by
    rw[hw]at h5
    simpa using h5
   exact{
    d0:=fun hh=>yp
    d1:=fun hh=>yq
    d2:=fun hh=>yr
    d3:=fun hh=>yt
    d4:=fun hh=>yu
    d5:=fun hh=>yw
    d6:=fun hh=>yx
    d7:=fun hh=>yy
    d8:=fun hh=>yz
    d9:=fun hh=>by rw[ne zc]at hh;rw[nv zc];exact hJ.d9 hh
    d11:=fun hh=>yo
    d10':=fun _=>by rw[ne zc];exact q9
    d12':=fun hh=>by rw[ne zc,f12]at hh;cases hh
    w9:=fun hh=>by rw[ne zc,q9]at hh;cases hh
    w10:=fun _ hh=>by rw[zAr]at hh;cases hh
    w12:=fun _=>⟨A',c',wA,zAr _ _ _,ho',h3',h5',fun _=>rfl,fun hh=>by rw[ne zc,f12]at hh;cases hh⟩ }
  |11,_ =>
   obtain⟨ty,ps,af,ho⟩:=o11;have q1:=zAU e111 hdep;have q2:=zAU e112 hdep
   have ev1:(zAj ops vals (zAC ops.size done) a0).eval (.tmp 105)=slAt g2 n:=by
    obtain⟨ty',ps',af',ho'⟩:=o1;rw[zAo hAp (a:=a0) (j:=1) (d:=105) za zn q1 (bV (m:=115) zc has),hJ.d1 q1]
   have ev2:(zAj ops vals (zAC ops.size done) a0).eval (.tmp 106)=.int .i64 (y:Int):=by
    obtain⟨ty',ps',af',ho'⟩:=o2;rw[zAo hAp (a:=a0) (j:=2) (d:=106) za zn q2 (bV (m:=115) zc has),hJ.d2 q2]
   exact zAq ho rfl (v:=.pointer (some ⟨g2,y,none⟩)) (w':=w1) (by simp[execOp,ev1,ev2,hidx]) ⟨_,zo,hJ.pure zc zd hd⟩
  |12,_ =>
   obtain⟨ty,ps,af,ho⟩:=o12;have qa:∀j,j<12->done j=true:=fun j hj=>zAU (List.all_eq_true.1 e12 j (List.mem_range.2 hj)) hdep
   obtain⟨A',c',wA,hv10,hoA,hgA,hat,hwA,_⟩:=hJ.w12 (qa 10 za);have hw:=hwA hd
   have ev11:(zAj ops vals (zAC ops.size done) a0).eval (.tmp 115)=.pointer (some ⟨g2,y,none⟩):=by
    obtain⟨ty',ps',af',ho'⟩:=o11;rw[zAo hAp (a:=a0) (j:=11) (d:=115) za zn (qa 11 za) (bV (m:=115) zc has),hJ.d11 (qa 11 za)]
   have ev10:(zAj ops vals (zAC ops.size done) a0).eval (.tmp 114)=.slice A' (L.length+1) c':=by
    obtain⟨ty',ps',af',ho'⟩:=o10;rw[zAo hAp (a:=a0) (j:=10) (d:=114) za zn (qa 10 za) (bV (m:=115) zc has),hv10]
   have hblk:=hJ.keep hd (p:=⟨g2,y,none⟩) hgl hng
   have hcA:wA.cell? ⟨g2,y,none⟩=some (.slice Av L.length cv):=by
    rw[hw]at hblk;rw[<-hcg];exact World.cell?_of_block hblk.1
   have hfA:wA.frozen? ⟨g2,y,none⟩=false:=by
    rw[hw]at hblk;rw[<-hfg];exact World.frozen?_of_block hblk.1
   have hst:(Instr.storeAt 68 (.pointer (some ⟨g2,y,none⟩)) (.slice A' (L.length+1) c')).run Tryz.prog wA=.ok () (wA.setCell ⟨g2,y,none⟩ (.slice A' (L.length+1) c')):=by
    simp[go_sem,hcA,hfA]
   rw[hw];refine wpOp_skip ho rfl (w':=wA.setCell ⟨g2,y,none⟩ (.slice A' (L.length+1) c')) (by simp[execOp,ev10,ev11,hst]) ⟨undef,zo,?_⟩
   have ne:∀{j:Nat},j≠12->zBp done 12 true j=done j:=fun hj=>zAb _ _ hj
   have nv:∀{j:Nat}{u:Value},j≠12->zBp vals 12 u j=vals j:=fun hj=>zAb _ _ hj
   exact{
    d0:=fun hh=>yp
    d1:=fun hh=>yq
    d2:=fun hh=>yr
    d3:=fun hh=>yt
    d4:=fun hh=>yu
    d5:=fun hh=>yw
    d6:=fun hh=>yx
    d7:=fun hh=>yy
    d8:=fun hh=>yz
    d9:=fun hh=>by rw[ne zc]at hh;rw[nv zc];exact hJ.d9 hh
    d11:=fun hh=>yo
    d10':=fun _=>by rw[ne zc];exact qa 9 za
    d12':=fun _ j hj=>by rw[ne za];exact qa j hj
    w9:=fun hh=>by rw[ne zc,qa 9 za]at hh;cases hh
    w10:=fun _ hh=>by rw[ne zc,qa 10 za]at hh;cases hh
    w12:=fun _=>⟨A',c',wA,by rw[nv zc];exact hv10,hoA,hgA,hat,(fun hh=>by rw[zAr]at hh;cases hh),fun _=>rfl⟩ }
 ·intro done vals w' hall hJ
  rw[hsz]at hall ⊢;obtain⟨A',c',wA,hv10,hoA,hgA,hat,_,hw⟩:=hJ.w12 (hall 10 za);rw[hw (hall 12 za)];exact hK A' c' wA vals hoA hgA hat (hJ.d0 (hall 0 za)) (hJ.d1 (hall 1 za)) (hJ.d2 (hall 2 za)) (hJ.d3 (hall 3 za)) (hJ.d4 (hall 4 za)) (hJ.d5 (hall 5 za)) (hJ.d6 (hall 6 za)) (hJ.d7 (hall 7 za)) (hJ.d8 (hall 8 za)) (hJ.d9 (hall 9 za)) hv10 (hJ.d11 (hall 11 za))
end Go.Proofs.YtbbchlpccgkikaaGreatDoor
