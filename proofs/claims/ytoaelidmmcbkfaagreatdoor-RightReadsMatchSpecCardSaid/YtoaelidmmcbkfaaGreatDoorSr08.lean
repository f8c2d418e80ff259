/- Package right: a reader's names. -/
import Derived.Test.YtoaelidmmcbkfaaGreatDoorSr07
set_option maxRecDepth 100000
set_option maxHeartbeats 8000000
namespace Go.Proofs.YtoaelidmmcbkfaaGreatDoor
open Go.RowKit Dw
abbrev gkB:Nat:=0
structure KeptB (B r:Nat) (w w':World):Prop where
 os:w'.os=w.os
 tape:w'.tape=w.tape
 output:w'.output=w.output
 size:w.heap.size≤w'.heap.size
 block:∀ i,i<B→i≠r→w'.heap[i]?=w.heap[i]?
section
variable {B r:Nat} {w w1 w2:World}
theorem KeptB.refl (B r:Nat) (w:World):KeptB B r w w:=⟨rfl,rfl,rfl,aB _,fun _ _ _=>rfl⟩
theorem KeptB.trans (h:KeptB B r w w1) (k:KeptB B r w1 w2):KeptB B r w w2:=⟨k.os.trans h.os,k.tape.trans h.tape,k.output.trans h.output,cV h.size k.size,fun i hi hn=>(k.block i hi hn).trans (h.block i hi hn)⟩
theorem KeptB.below (h:Below B w w1):KeptB B r w w1:=⟨h.os,h.tape,h.output,h.size,fun i hi _=>h.block i hi⟩
theorem KeptB.grown (h:w.grownBy w1 (some r)) (hB:B≤w.heap.size):KeptB B r w w1:=⟨h.os,h.tape,h.output,h.size,fun i hi hn=>h.block i za fun e=>hn jp⟩
theorem KeptB.to (h:KeptB w.heap.size r w w1):w.grownBy w1 (some r):=⟨h.os,h.tape,h.output,h.size,fun i hi hn=>h.block i hi fun e=>hn (by rw [e])⟩
theorem GOK.kept (hG:GOK w) (h:KeptB B r w w1) (hr:gkB<r) (hB:r<B):GOK w1:=by
 obtain ⟨m,hm⟩:=hG;refine ⟨m,?_⟩
 unfold World.cell? at hm ⊢;rw [h.block _ (show gkB<B by omega) (show gkB≠r by omega)]
 exact hm
theorem RdI.taken {LA:Option Addr} {c:Nat} {L:List Ln} {k:Nat} {bad:Bool} (h:RdI w r LA c L k bad) (hb:Below B w w1) (hr:r<B) (hL:∀ b o,LA=some ⟨b,o,none⟩→b<B):RdI w1 r LA c L k bad:=by
 refine ⟨(hb.block r hr).trans h.bx,fun h0=>?_,h.ne,fun b o e=>cX (h.la b o e) hb.size,h.le,h.many,h.short⟩
 obtain ⟨b,o,hA,hc⟩:=h.ls h0;exact ⟨b,o,hA,fun i hi=>by unfold World.cell?;rw [hb.block b (hL b o hA)];exact hc i hi⟩
end
theorem passX_len:∀ (F M:List Ln),(zDf F M).1.length≤M.length
 | [],M=>aX _
 | s::F,M=>by
  rw [zDf]
  split
  ·next n h =>
   cases M with
   | nil=>cases h
   | cons a t =>
    have:=passX_len F t;simp only [List.tail_cons,aQ];omega
  ·exact passX_len F M
theorem passX_rest:∀ (F M:List Ln),(zDf F M).2=M.drop (zDf F M).1.length
 | [],M=>rfl
 | s::F,M=>by
  rw [zDf]
  split
  ·next n h =>
   simp only [aQ];rw [passX_rest F M.tail,←List.drop_one,bY]
   congr 1
   omega
  ·exact passX_rest F M
theorem zAX (L:List Ln) (k:Nat):(L.drop k).tail=L.drop (k+1):=by rw [←List.drop_one,bY]
def nmsO (bad:Bool) (F M:List Ln):List (Ln×Ln):=if bad=true then [] else (zDW F (M.length+1) M).1
def NmsO (w:World) (B r:Nat) (LA:Option Addr) (c:Nat) (L:List Ln) (k:Nat) (F:List Ln) (all:List (Ln×Ln)) (I:World→List (Ln×Ln)→Prop) (m:Nat) (mv:Value) (wr:World):Prop :=
 ∃ (b:Bool) (T:List (Ln×Ln)),mv = .bool b∧RdI wr r LA c L (k+T.length) false∧I wr T∧KeptB B r w wr∧B≤wr.heap.size ∧
  (b=true→T++(zDW F m (L.drop (k+T.length))).1=all∧(L.drop (k+T.length)).length<m)∧(b=false→T=all)
def NmsI (w:World) (B r:Nat) (LA:Option Addr) (c:Nat) (L:List Ln) (k:Nat) (F:List Ln) (T P:List (Ln×Ln)) (I:World→List (Ln×Ln)→Prop) (m:Nat) (mv iv:Value) (wr:World):Prop :=
 ∃ (j:Nat) (T2:List (Ln×Ln)) (b2:Bool),j+m=F.length∧iv = .int .i64 (j:Nat)∧mv = .bool b2∧b2 = !T2.isEmpty∧RdI wr r LA c L (k+(T++T2).length) false∧I wr (T++T2)∧KeptB B r w wr∧B≤wr.heap.size ∧
  T2++(zDf (F.drop j) (L.drop (k+(T++T2).length))).1=P
theorem names_c (fid:FuncId) (cap:Value) (B r:Nat) (F:List Ln) (FA:Option Addr) (fc:Nat) (I:World→List (Ln×Ln)→Prop)
  (hen:∀ (args:Array Value) (w:World),(callFunc fid args).run Tryz.prog w = .ok (.enter fid args) w)
  (hF:∀ w l,I w l→Strs w FA (F.map ofL)) (hI:∀ w w' l,I w l→w.grownBy w' (some r)→I w' l)
  (hT:∀ w l s n,I w l→s∈F→l.length≤600000→Calls Tryz.prog fid #[.string (ofL s),.string (ofL n),cap] w fun e w'=>e = .returned (.tuple #[])∧I w' (l++[(s,n)])∧Below B w w')
  (LA:Option Addr) (c:Nat) (L:List Ln) (k:Nat) (bad:Bool) (w:World) (h:RdI w r LA c L k bad) (hr:r<B) (hL:∀ b o,LA=some ⟨b,o,none⟩→b<B) (h0:I w []) (hB:B≤w.heap.size) (hG:GOK w) (hg:gkB<r) (hFl:F.length≤2) :
  Calls Tryz.prog 36 #[.pointer (some ⟨r,0,none⟩),.func (.func fid) #[] #[cap],.slice FA F.length fc] w fun e w'=>e = .returned (.tuple #[]) ∧
   RdI w' r LA c L (k+(nmsO bad F (L.drop k)).length) bad∧I w' (nmsO bad F (L.drop k))∧KeptB B r w w':=by
 have HI0:=zq h;have HV0:=zq h0;have HG0:=zq hG;have HF:=zq hF;have HI:=zq hI;have HT:=zq hT
 cases bad with
 | true =>
  have x2:w.cell? ⟨r,2,none⟩=some (.bool true):=h.bx.c 2 rfl;have hrs:=h.bx.lt;clear h h0 hG hF hI hT
  go_enter Tryz.func36,Tryz.ntmps36
  go_wp2_with fail
  go_loopg [6] 1 (fun (m:Nat) (mv:Value) (wr:World)=>mv = .bool true∧wr=w)
  case atStart=>exact ⟨rfl,rfl⟩
  case round =>
   obtain ⟨rfl,rfl⟩:=hrel
   go_wp2_with fail
   go_end0
   exact ⟨rfl,HI0.o,HV0.o,KeptB.refl _ _ _⟩
 | false =>
  have hmany:=h.many;obtain ⟨all,hall⟩:∃ all,all=nmsO false F (L.drop k):=⟨_,rfl⟩;have HALL:Hid (all=(zDW F ((L.drop k).length+1) (L.drop k)).1):=hall;rw [←hall];clear h h0 hG hF hI hT hall
  go_enter Tryz.func36,Tryz.ntmps36
  go_wp2_with fail
  go_loopg [6] ((L.drop k).length+1) (NmsO w B r LA c L k F all I)
  case atStart=>exact ⟨true,[],rfl,HI0.o,HV0.o,KeptB.refl _ _ _,hB,fun _=>⟨HALL.o.symm,bW _⟩,fun h=>zy⟩
  case round =>
   obtain ⟨b,T,rfl,hi,hv,hk,hB1,hb1,hb0⟩:=hrel;have HI1:=zq hi;have HV1:=zq hv;have HK1:=zq hk;have HT1:=zq hb1;have HT0:=zq hb0;have HB1:=zq hB1;have x2:wr.cell? ⟨r,2,none⟩=some (.bool false):=hi.bx.c 2 rfl;have hrs:=hi.bx.lt;clear hi hv hk hb1 hb0 hB1
   cases b with
   | false =>
    go_wp2_with fail
    go_end0
    have hT:=HT0.o zk;rw [←hT];exact ⟨rfl,HI1.o,HV1.o,HK1.o⟩
   | true =>
    obtain ⟨hT2,hlt⟩:=HT1.o rfl;obtain ⟨f,rfl⟩:∃ f,gk=f+1:=⟨gk - 1,za⟩;have HNX:=zq hT2;have HLT:=zq hlt;obtain ⟨P,hP⟩:∃ P,P=(zDf F (L.drop (k+T.length))).1:=⟨_,rfl⟩;have HP:=zq hP;clear hT2 hlt hP HT1 HT0
    go_wp2_with fail
    go_loopg [6,21] F.length (NmsI w B r LA c L k F T P I)
    case atStart=>exact ⟨0,[],false,za,zk,zk,rfl,by rw [aD];exact HI1.o,by rw [aD];exact HV1.o,HK1.o,HB1.o,by rw [aD,cT];exact HP.o.symm⟩
    case round =>
     obtain ⟨j,T2,b2,hjm,rfl,rfl,hb2,hi,hv,hk,hB1,hps⟩:=hrel;have HMO:=zq hb2;clear hb2;have HJ:=zq hjm;have HI2:=zq hi;have HV2:=zq hv;have HK2:=zq hk;have HPS:=zq hps;have HB2:=zq hB1;clear hi hv hk hps hB1 hjm
     by_cases hlt:j<F.length
     ·obtain ⟨bf,of,hFA,hcf⟩:=(HF.o _ _ HV2.o) (by rw [aK];omega)
      have cf:=hcf j (by rw [aK];exact hlt)
      rw [aL] at cf;have hmem:=aI hlt;have HDR:=zq (aF hlt);generalize F[j]=s at *;subst hFA;clear hcf;obtain ⟨k2,hk2⟩:∃ k2,k2=k+(T++T2).length:=⟨_,rfl⟩;have HK2E:=zq hk2;rw [←hk2] at HI2 HPS;clear hk2
      have HW:Hid (Calls Tryz.prog 27 #[.pointer (some ⟨r,0,none⟩),.string ⟨#[32,32]⟩,.string (ofL s),.int .i64 2] wr (zBK (wdO false sp2 s 2 (L.drop k2)) wr)):=by
       have h:=zEt r LA c L k2 false ⟨#[32,32]⟩ (ofL s) 2 wr HI2.o (HG0.o.kept HK2.o hg hr) zc;rw [zAj] at h;exact h
      have HTR:Hid (zDk sp2 s (L.drop k2)=match wdO false sp2 s 2 (L.drop k2) with | some [_,n]=>if rowL n=true then some n else none | _=>none):=rfl
      have HPN:Hid (zDk sp2 s (L.drop k2)=none→T2++(zDf (F.drop (j+1)) (L.drop k2)).1=P):=fun h=>by
       rw [←HPS.o,HDR.o,zDf,h]
      have HPY:Hid (∀ n,zDk sp2 s (L.drop k2)=some n→(T2++[(s,n)])++(zDf (F.drop (j+1)) (L.drop (k2+1))).1=P):=fun n h=>by
       rw [←HPS.o,HDR.o,zDf,h];simp only [cC,dI,zAX]
      have HWT:Hid (∀ W,wdO false sp2 s 2 (L.drop k2)=some W→k2<L.length∧∃ n,W=[s,n]∧n.length≤600000):=fun W hW=>by
       obtain ⟨_,n,hn⟩:=wdO_two hW;refine ⟨zBi (zEs vo),n,hn,?_⟩
       exact zCI (m:=2) HI2.o.drops (show wdF sp2 s 2 (L.drop k2)=some W from hW) vj
      generalize zDk sp2 s (L.drop k2)=ans at *;generalize wdO false sp2 s 2 (L.drop k2)=res at *;have hjl:=HJ.o;clear HDR HPS
      go_wp2_with fail
      with_reducible refine HW.o.mono ?_
      rintro e w1 ⟨A,c1,rfl,hst,hb1⟩;have HI3:=zq (HI2.o.below hb1);have HG3:=zq (zAA hb1 r);have HST:=zq hst;clear hst HW
      cases res with
      | none =>
       have HA:Hid (ans=none):=HTR.o;have HN:=zq (HPN.o HA.o);clear HWT HST HPY HTR HPN hb1 hjl
       go_wp2_with fail
       go_roundg (gk - 1)
       case measure=>have:=HJ.o;omega
       case rel=>exact ⟨j+1,T2,b2,by have:=HJ.o;omega,zn,rfl,HMO.o,by rw [←HK2E.o];exact HI3.o,HI.o _ _ _ HV2.o HG3.o,HK2.o.trans (KeptB.grown HG3.o HB2.o),cV HB2.o HG3.o.size,by rw [←HK2E.o];exact HN.o⟩
      | some W =>
       obtain ⟨hk2l,n,rfl,hnl⟩:=HWT.o W rfl;obtain ⟨hlo,hst⟩:=HST.o _ rfl;obtain ⟨bw,ow,hA2,hc2⟩:=hst zd;subst hA2;have c1':w1.cell? ⟨bw,ow+1,none⟩=some (.string (ofL n)):=hc2 1 zd
       have HNE:Hid (bw≠r):=by
        have h1:=hlo bw ow rfl;have h2:=HI2.o.bx.lt
        show _≠_
        omega
       have HR:=zq (isRow_c (ofL n) w1 zr);rw [zAj] at HR;have HF2:Hid (ans=if rowL n=true then some n else none):=HTR.o
       generalize rowL n=b at *;have HVW:=zq (HI.o _ _ _ HV2.o HG3.o);clear hc2 hst hlo hb1 HST HWT HTR
       go_wp2_with fail
       with_reducible refine HR.o.mono ?_
       rintro e w2 ⟨rfl,hb2⟩;have HI4:=zq (HI3.o.below hb2);have HG4:=zq (HG3.o.trans (zAA hb2 r));have HV4:=zq (HI.o _ _ _ HVW.o (zAA hb2 r));have c2':=zAh hb2 c1';clear hb2 HR HI3 HG3 HVW c1'
       cases b with
       | false =>
        have HA:Hid (ans=none):=HF2.o;have HN:=zq (HPN.o HA.o);clear HPY HPN HF2
        go_wp2_with fail
        go_roundg (gk - 1)
        case measure=>have:=HJ.o;omega
        case rel=>exact ⟨j+1,T2,b2,by have:=HJ.o;omega,zn,rfl,HMO.o,by rw [←HK2E.o];exact HI4.o,HV4.o,HK2.o.trans (KeptB.grown HG4.o HB2.o),cV HB2.o HG4.o.size,by rw [←HK2E.o];exact HN.o⟩
       | true =>
        have HA:Hid (ans=some n):=HF2.o;have HN:=zq (HPY.o n HA.o);have HC:=zq (HT.o w2 (T++T2) s n HV4.o hmem (by have:=HI4.o.le;have:=HK2E.o;omega))
        clear HPY HPN HF2
        go_wp2_with fail
        with_reducible refine HC.o.mono ?_
        rintro e w3 ⟨rfl,hv3,hb3⟩;have HI5:=zq (HI4.o.taken hb3 hr hL);have HK5:=zq ((HK2.o.trans (KeptB.grown HG4.o HB2.o)).trans (KeptB.below hb3));have x1:w3.cell? ⟨r,1,none⟩=some (.int .i64 (k2:Int)):=HI5.o.bx.c 1 rfl;have hrs:=HI5.o.bx.lt;have hrf:=HI5.o.bx.frozen;have HB3:Hid (B≤w3.heap.size):=cV HB2.o (cV HG4.o.size hb3.size);have HK6:=zq (HI5.o.setk (k':=k2+1) hk2l);have HV6:=zq (HI.o _ _ _ hv3 (zAn w3 ⟨r,1,none⟩ (.int .i64 ((k2+1:Nat):Int))));have HKB:Hid (KeptB B r w (w3.setCell ⟨r,1,none⟩ (.int .i64 ((k2+1:Nat):Int)))):=HK5.o.trans (KeptB.grown (zAn _ _ _) HB3.o);have hk2m:k2≤600000:=by have:=HI5.o.many;omega
        clear hv3 hb3 HC HI4 HV4
        go_wp2_with fail
        have ek:((k2:Int)+1)=((k2+1:Nat):Int):=za;rw [ek]
        go_roundg (gk - 1)
        case measure=>have:=HJ.o;omega
        case rel=>exact ⟨j+1,T2++[(s,n)],true,by have:=HJ.o;omega,zn,rfl,zd,by rw [←cC,cY,←bZ,←HK2E.o];exact HK6.o,by rw [←cC];exact HV6.o,HKB.o,by simpa using HB3.o,by rw [←cC T,cY,←bZ,←HK2E.o];exact HN.o⟩
     ·have hje:j=F.length:=by have:=HJ.o;omega
      have hTP:T2=P:=by
       have h:=HPS.o;rw [hje,List.drop_length,zDf,aD] at h;exact h
      have HNF:Hid ((b2=true→(T++T2)++(zDW F f (L.drop (k+(T++T2).length))).1=all∧(L.drop (k+(T++T2).length)).length<f)∧(b2=false→T++T2=all)):=by
       have h1:=HNX.o;have h2:=HLT.o;have h3:=passX_len F (L.drop (k+T.length));have h4:=passX_rest F (L.drop (k+T.length));rw [←HP.o,←hTP] at h3 h4;rw [zDW,←HP.o,h4,bY,←hTP] at h1;rw [bK] at h2 h3;refine ⟨fun hb=>?_,fun hb=>?_⟩
       ·rw [HMO.o] at hb
        have hne:T2≠[]:=by
         rintro rfl
         cases hb
        have hpos:=List.length_pos_iff.2 hne;rw [aC hne] at h1;simp only at h1;rw [cY,bK,←bZ,cC];exact ⟨h1,za⟩
       ·rw [HMO.o] at hb
        have he:T2=[]:=by
         cases T2 with
         | nil=>rfl
         | cons _ _=>cases hb
        rw [aE he] at h1;rw [he];exact h1
      clear hje hTP HPS
      go_wp2_with fail
      go_roundg f
      case measure=>omega
      case rel=>exact ⟨b2,T++T2,rfl,HI2.o,HV2.o,HK2.o,HB2.o,HNF.o.1,HNF.o.2⟩
end Go.Proofs.YtoaelidmmcbkfaaGreatDoor
