/- Parts of the proof, joined: Walks over the reference of chapter 7 (places): CheckRegions. Walks ov. -/
import Derived.Test.YtbbchlpccgkikaaGreatDoorSb01
import Derived.Shelf.Small.Wraps
import Derived.Shelf.Small.Strs
import Derived.Shelf.Strings.SlTrimAscii
set_option maxRecDepth 100000
set_option maxHeartbeats 8000000
namespace Go.Proofs.YtbbchlpccgkikaaGreatDoor
open Go.RowKit Dw
def ChkR1(w:World)(l:List Rg)(m:Nat)(i:Value)(wr:World):Prop:=
 ∃n,wr=w.drewN n/\∃k:Nat,k+m=l.length/\i=.int .i64 k/\∀j,j<k->zAY l j=none
def ChkR2(w:World)(l:List Rg)(m:Nat)(i:Value)(wr:World):Prop:=
 ∃n,wr=w.drewN n/\∃k:Nat,k+m=l.length/\i=.int .i64 k/\∀j (h:j<l.length),j<k->zBO l l[j]=false
def ChkR3(w:World)(l:List Rg)(m:Nat)(i:Value)(wr:World):Prop:=
 ∃n,wr=w.drewN n/\∃k:Nat,k+m=l.length/\i=.int .i64 k/\∀j,j<k->∀d,0<d->d<=l.length+1->upN l d j≠some j
def ChkR4(w:World)(l:List Rg)(i:Nat)(m:Nat)(at_ n:Value)(wr:World):Prop:=
 wr=w/\∃k:Nat,k+m=l.length+1/\n=.int .i64 k/\∃j,j<l.length/\at_=.int .i64 j/\upN l k i=some j/\∀d,0<d->d<=k->upN l d i≠some i
theorem parBad_false{l:List Rg}(h:∀j (h:j<l.length),zBO l l[j]=false){i:Nat}(hi:i<l.length)(hp:(l[i]).par≠emp):∃j,idx l (l[i]).par=some j:=by
 have:=h i hi;unfold zBO at this
 cases hx:idx l (l[i]).par with
 |some j=>exact⟨j,rfl⟩
 |none=>rw[hx]at this;simp[hp]at this
theorem chkR_head{l:List Rg}(h1:l≠[])(h2:¬200<l.length):zDM l=match (List.range l.length).findSome? (zAY l)with
 |some f=>f
 |none=>if l.any (zBO l)=true then 5 else if EndsR l then 0 else 14:=by
 unfold zDM;rw[aO h1,aO h2]<;>rfl
theorem chkR_first{l:List Rg}(h1:l≠[])(h2:¬200<l.length){k:Nat}{x:Int}(hk:k<l.length)(hpre:∀j,j<k->zAY l j=none)(h:zAY l k=some x):zDM l=x:=by
 rw[chkR_head h1 h2,zAN hk hpre h]
theorem chkR_par{l:List Rg}(h1:l≠[])(h2:¬200<l.length)(hpre:∀j,j<l.length->zAY l j=none){k:Nat}(hk:k<l.length)(h:zBO l l[k]=true):zDM l=5:=by
 rw[chkR_head h1 h2,zBi hpre];simp only[];rw[aF (List.any_eq_true.2 ⟨l[k],aH hk,h⟩)]
theorem chkR_last{l:List Rg}(h1:l≠[])(h2:¬200<l.length)(hpre:∀j,j<l.length->zAY l j=none)(h:∀j (h:j<l.length),zBO l l[j]=false):zDM l=if EndsR l then 0 else 14:=by
 rw[chkR_head h1 h2,zBi hpre];simp only[];rw[aO];intro hh;obtain⟨x,hx,I⟩:=List.any_eq_true.1 hh;obtain⟨j,hj,rfl⟩:=bD hx;rw[h j hj]at I;cases I
theorem CheckRegionsR_c(A:OA)(c:Nat)(l:List Rg)(w:World)(h:Rgs w A l)(hz:∀i (h:i<l.length),(l[i]).nm.size<=9223372036854775807): Calls Tryz.prog 110 #[.slice A l.length c] w (GivesQ (.int .i64 (zDM l)) w):=by
 generalize C:zDM l=res;have HR:=zq C;clear C
 by_cases h1:l=[]
 ·subst h1
  go_enter Tryz.func110,Tryz.ntmps110;go_wp2;go_ret
  refine GivesQ.mk (zBF ?_) ⟨0,rfl⟩;rw[<-HR.o];rfl
 have h1':0<l.length:=List.length_pos_iff.2 h1;have hl0:((l.length:Int) == 0)=false:=by rw[bW];omega
 by_cases hlen:200<l.length
 ·go_enter Tryz.func110,Tryz.ntmps110
  go_wp2;go_ret
  refine GivesQ.mk (zBF ?_) ⟨0,rfl⟩;rw[<-HR.o];unfold zDM;rw[aO h1,aF hlen]
 have J:l.length<=200:=za;obtain⟨b,o,rfl,I,hc⟩:=h.at_ h1';have HC:=zq hc;have HZ:=zq hz;have H1:=zq h1;clear hc hz h1
 go_enter Tryz.func110,Tryz.ntmps110;go_wp2
 go_loopg[3] l.length (ChkR1 w l)
 case atStart=>exact⟨0,rfl,0,za,rfl,fun j hj=>absurd hj za⟩
 case round =>
  obtain⟨n,hw,k,hk,rfl,hpre⟩:=hrel;subst hw;have HK:=zq hk;have HP:=zq hpre;have hk1:k<=l.length:=za;clear hk hpre
  by_cases Y:k<l.length
  ·have hc0:=(HC.o k Y).1
   have hr0:=zBp Y;have hzk:=HZ.o k Y
   by_cases hq:zBw (l[k]).nm=true
   ·by_cases hk0:0<k
    ·have hd:decide ((0:Int)<(k:Int))=true:=by simp;omega
     have hcp:=(HC.o (k-1) za).1;have hr1:=zBp (l:=l) (i:=k-1) za
     by_cases hle:sle (l[k]).nm (l[k-1]).nm=true
     ·have hleb:=hle
      unfold sle at hleb
      have C:res=8:=by
       rw[<-HR.o,chkR_first H1.o hlen Y HP.o (x:=8) (by unfold zAY;rw[hr0,hr1,aO (by rw[hq];simp),aF ⟨hk0,hle⟩])]
      have HS:=zq C;have HQ:=zq hq;clear hr0 hr1 C hle hq;(go_wp2_with fail);refine(zBr _ _ hzk).mono ?_;rintro e w' ⟨rfl,rfl⟩;rw[HQ.o];exact tdo
     ·have hle':sle (l[k]).nm (l[k-1]).nm=false:=by simpa using hle
      have hleb:=hle';unfold sle at hleb
      have HF:Hid (zAY l k=none):=by
       show zAY l k=none
       unfold zAY;rw[hr0,hr1,aO (by rw[hq];simp),aO (fun hh=>hle hh.2)]
      have HQ:=zq hq;clear hr0 hr1 hle hle' hq;exact ta0
    ·have hd:decide ((0:Int)<(k:Int))=false:=by simp;omega
     have HF:Hid (zAY l k=none):=by
      exact teg
     have HQ:=zq hq;clear hr0 hq;exact ta0
   ·have hq':zBw (l[k]).nm=false:=by simpa using hq
    have C:res=5:=by
     rw[<-HR.o,chkR_first H1.o hlen Y HP.o (x:=5) (by unfold zAY;rw[hr0,aF hq'])]
    have HS:=zq C;have HQ:=zq hq';clear hr0 C hq hq';(go_wp2_with fail);refine(zBr _ _ hzk).mono ?_;rintro e w' ⟨rfl,rfl⟩;rw[HQ.o];exact tgk
  ·have hF0:∀j,j<l.length->zAY l j=none:=fun j hj=>HP.o j za
   have HF0:=zq hF0;clear hF0;go_wp2;clear HK HP hk1 Y
   go_loopg[4] l.length (ChkR2 w l)
   case atStart=>exact⟨_,rfl,0,za,rfl,fun j _ hj=>absurd hj za⟩
   case round =>
    obtain⟨n2,hw,k,hk,rfl,hpre⟩:=hrel;subst hw;have HK:=zq hk;have HP:=zq hpre;have hk1:k<=l.length:=za;clear hk hpre
    by_cases Y:k<l.length
    ·have hc0:=(HC.o k Y).2
     by_cases hp:(l[k]).par=emp
     ·have he:=zAr hp
      have HF:Hid (zBO l l[k]=false):=by
       show zBO l l[k]=false
       simp[zBO,hp]
      clear hp;exact tbq
     ·have he:=zAq hp
      cases hix:idx l (l[k]).par with
      |none =>
       have hi0:idxI l (l[k]).par=-1:=by unfold idxI;rw[hix]
       have C:res=5:=by
        rw[<-HR.o];exact chkR_par H1.o hlen HF0.o Y (by simp[zBO,hp,hix])
       have HS:=zq C;have HX:=zq hi0;clear C hi0 hix hp;exact tce
      |some x =>
       have hi0:idxI l (l[k]).par=(x:Int):=by unfold idxI;rw[hix]
       have HF:Hid (zBO l l[k]=false):=by
        show zBO l l[k]=false
        simp[zBO,hix]
       have HX:=zq hi0;clear hi0 hix hp;(go_wp2_with fail);refine(zDF _ _ _ _ _ J (h.drewN _)).mono ?_;rintro e w' ⟨rfl,rfl⟩;rw[HX.o];exact tbq
    ·have hP0:∀j (h:j<l.length),zBO l l[j]=false:=fun j hj=>HP.o j hj za
     have HP0:=zq hP0;clear hP0;go_wp2;clear HK HP hk1 Y
     go_loopg[5] l.length (ChkR3 w l)
     case atStart=>exact⟨_,rfl,0,za,rfl,fun j hj=>absurd hj za⟩
     case round =>
      obtain⟨n3,hw,i,hk,rfl,hpre⟩:=hrel;subst hw;have HK:=zq hk;have HP:=zq hpre;have hk1:i<=l.length:=za;clear hk hpre;obtain⟨g1,hg1⟩:∃g1,g1=gk:=⟨_,rfl⟩;subst hg1
      by_cases Y:i<l.length
      ·go_wp2
       go_loopg[6,7] (l.length+1) (ChkR4 (w.drewN n3) l i)
       case atStart=>exact⟨rfl,0,za,rfl,i,Y,rfl,rfl,fun d h1 h2=>absurd h1 za⟩
       case round =>
        obtain⟨hw,k,hk,rfl,j,hj,rfl,hup,hno⟩:=hrel;subst hw;have HK4:=zq hk;have HU:=zq hup;have HN:=zq hno;have hk2:k<=l.length+1:=za;clear hk hup hno
        by_cases hlt2:k<=l.length
        ·have hc1:=(HC.o j hj).2
         by_cases hp:(l[j]).par=emp
         ·have he:=zAr hp
          have hstop:∀d,0<d->d<=l.length+1->upN l d i≠some i:=fun d h1 h2=>by
           rcases aI k d with h3|h3
           ·have:upN l (k+1) i=none:=by rw[zEp,HU.o];simp[upN,up_none hj hp]
            rw[zBK this h3];simp
           ·exact HN.o d h1 h3
          have HS:=zq hstop;clear hstop hp;go_wp2
          go_roundg (g1-1)
          case measure=>have:=HK.o;omega
          case rel =>
           refine⟨_,rfl,i+1,zh,zi,fun t ht d h1 h2=>?_⟩
           rcases aI t i with h3|h3
           ·exact HP.o t h3 d h1 h2
           ·obtain rfl:t=i:=by omega
            exact HS.o d h1 h2
         ·have he:=zAq hp
          obtain⟨j',hx⟩:=parBad_false HP0.o hj hp;obtain⟨hj',hnm⟩:=idx_some hx;have hi0:idxI l (l[j]).par=(j':Int):=by unfold idxI;rw[hx]
          have hup':upN l (k+1) i=some j':=by
           rw[zEp,HU.o];simp[upN,up_of hj,hp,hx]
          have HX:=zq hi0;have HU':=zq hup';clear hi0 hup' hx hnm hp
          by_cases hji:j'=i
          ·have hji':((j':Int) == (i:Int))=true:=by rw[beq_iff_eq];omega
           have C:res=14:=by
            rw[<-HR.o,chkR_last H1.o hlen HF0.o HP0.o,aO];rw[not_ends_iff];refine twice_of_long Y (fun hnn=>?_);have e:upN l (k+1) i=some i:=by rw[HU'.o,hji]
            have h3:=zDE e l.length
            rw[zBK hnn (by
             have:l.length*1<=(k+1)*l.length:=by rw[cV];exact cC _ za
             omega)]at h3
            cases h3
           have HS:=zq C;have HJ:=zq hji;clear C hji;exact tce
          ·have hji':((j':Int) == (i:Int))=false:=by rw[bW];omega
           have HJ:=zq hji;clear hji;(go_wp2_with fail);refine(zDF _ _ _ _ _ J (h.drewN _)).mono ?_;rintro e w' ⟨rfl,rfl⟩;rw[HX.o];go_wp2
           go_roundg (gk-1)
           case measure=>have:=HK4.o;omega
           case rel =>
            refine⟨rfl,k+1,by have:=HK4.o;omega,zi,j',hj',rfl,HU'.o,fun d h1 h2=>?_⟩
            rcases aI k d with h3|h3
            ·obtain rfl:d=k+1:=by omega
             rw[HU'.o];intro e
             injection e with e
             exact HJ.o e
            ·exact HN.o d h1 h3
        ·have hke:k=l.length+1:=by omega
         have HKE:=zq hke;clear hke;go_wp2
         go_roundg (g1-1)
         case measure=>have:=HK.o;omega
         case rel =>
          refine⟨_,rfl,i+1,zh,zi,fun t ht d h1 h2=>?_⟩
          rcases aI t i with h3|h3
          ·exact HP.o t h3 d h1 h2
          ·obtain rfl:t=i:=by omega
           exact HN.o d h1 (by rw[HKE.o];exact h2)
      ·have C:res=0:=by
        rw[<-HR.o,chkR_last H1.o hlen HF0.o HP0.o,aF];refine bY fun hh=>?_
        obtain⟨t,m,ht,hm,hml,e⟩:=not_ends_iff.1 hh;exact HP.o t za m hm za e
       exact tef
theorem elStr:ElemT Tryz.prog 23 9 (.string ⟨#[]⟩) 1 16:=⟨Tryz.underlying23,zc,rfl,zd⟩
abbrev encS:BA->List Value:=fun s=>[.string s]
def GivesS(l:List BA)(w:World)(e:Ending)(w':World):Prop:=
 ∃A c,e=.returned (.slice A l.length c)/\Strs w' A l/\Below w.heap.size w w'
def zAf(v:Value)(w:World)(e:Ending)(w':World):Prop:=e=.returned v/\Below w.heap.size w w'
theorem zAf.mk{v v':Value}{w w':World}(h:v=v')(hw:Below w.heap.size w w'):zAf v' w (.returned v) w':=⟨by rw[h],hw⟩
theorem zCf{p:Nat->Bool}(k:Nat):(List.range (k+1)).filter p=(List.range k).filter p++(if p k then [k] else []):=by
 rw[eF,eG]
 cases h:p k<;>simp[h]
def allS(l:List Rg):List BA:=(zAh l).map (nmAt l)
def zBW(l:List Rg)(p:Nat->Bool)(k:Nat):List BA:=((List.range k).filter p).map (nmAt l)
theorem gath_yes{l:List Rg}{p:Nat->Bool}{k:Nat}(h:p k=true):zBW l p (k+1)=zBW l p k++[nmAt l k]:=by
 unfold zBW;rw[zCf,h];simp
theorem gath_no{l:List Rg}{p:Nat->Bool}{k:Nat}(h:p k=false):zBW l p (k+1)=zBW l p k:=by
 unfold zBW;rw[zCf,h];simp
theorem gath_le(l:List Rg)(p:Nat->Bool)(k:Nat):(zBW l p k).length<=k:=by
 unfold zBW;rw[bZ];have:=eH p (List.range k)
 simpa using this
def GathRel(w:World)(l:List Rg)(p:Nat->Bool)(m:Nat)(out i:Value)(wr:World):Prop:=
 ∃k:Nat,k+m=l.length/\i=.int .i64 k/\zAv encS 1 wr w.heap.size 9 out (zBW l p k)/\Below w.heap.size w wr
theorem all_c(A:OA)(c:Nat)(l:List Rg)(w:World)(g:GoodR l)(h:Rgs w A l): Calls Tryz.prog 57 #[.slice A l.length c] w (GivesS (allS l) w):=by
 have J:=g.len;obtain⟨b,o,rfl,I,hc⟩:=h.at_ (List.length_pos_iff.2 g.ne);have HC:=zq hc;clear hc
 go_enter Tryz.func57,Tryz.ntmps57;go_wp2
 go_loopg[3,4] l.length (GathRel w l (fun i=>!M l i))
 case atStart=>exact⟨0,za,rfl,zAv.nil _ _ _ _ _,aR _ _⟩
 case round =>
  obtain⟨k,hk,rfl,hown,N⟩:=hrel;have HK:=zq hk;have hk1:k<=l.length:=za;clear hk
  by_cases Y:k<l.length
  ·have hc0:wr.cell? ⟨b,o+k*2,none⟩=some (.string (l[k]).nm):=(N.cell I).trans (HC.o k Y).1
   have hwr:w.heap.size<=wr.heap.size:=N.size;have hbr:b<wr.heap.size:=za;have hle:=gath_le l (fun i=>!M l i) k;have hlf:=leafB_at g Y
   by_cases hq:M l k=true
   ·have hl2:leafB l (l[k]).nm=false:=by rw[hlf,hq];rfl
    have HL:=zq hl2;have HQ:=zq hq;clear hlf hl2 hq;(go_wp2_with fail);refine(IsLeaf_c _ _ _ _ _ J (h.below N)).mono ?_;rintro e w' ⟨rfl,rfl⟩;rw[HL.o];go_wp2
    go_roundg (gk-1)
    case measure=>have:=HK.o;omega
    case rel=>exact⟨k+1,zh,zi,by rw[gath_no (by simp[HQ.o])];exact hown,N⟩
   ·have hl2:leafB l (l[k]).nm=true:=by rw[hlf];simp[hq]
    have HL:=zq hl2;have HQ:=zq hq;clear hlf hl2 hq;(go_wp2_with fail);refine(IsLeaf_c _ _ _ _ _ J (h.below N)).mono ?_;rintro e w' ⟨rfl,rfl⟩;rw[HL.o]
    go_wp2_with (at_builtin;refine zAT _ _ _ elStr rfl rfl w.heap.size _ (zBW l (fun i=>!M l i) k) rfl (hown.alloc _) wr.heap.size 1 (nmAt l k) rfl (by rw[zBp Y];exact aJ _ _) rfl zr zn za zg ?_;intro v1 w1 hown1 hg1 hb1)
    have HO:=zq hown1;have hbel1:=(N.alloc hwr _).trans hb1;have HB:=zq hbel1;clear hown hown1 hg1 hb1 N hbel1;go_wp2
    go_roundg (gk-1)
    case measure=>have:=HK.o;omega
    case rel=>exact⟨k+1,zh,zi,by rw[gath_yes (by simp[HQ.o])];exact HO.o,HB.o⟩
  ·have hke:k=l.length:=by omega
   have HKE:=zq hke;clear hke;obtain⟨A',c',rfl,hrd⟩:=hown.rd1;go_wp2;go_ret
   have e:zBW l (fun i=>!M l i) k=allS l:=by rw[HKE.o];rfl
   rw[e]at hrd ⊢;exact⟨A',c',rfl,hrd,N⟩
def leafP(l:List Rg)(a:List Ar)(i:Nat):Bool:=!M l i&&zCE l a i
theorem gath_leaves(l:List Rg)(a:List Ar):zBW l (leafP l a) l.length=zBv l a:=by
 unfold zBW zBv zAh;rw[List.filter_filter]
 congr 1
 apply List.filter_congr
 intro x _;unfold leafP;rw[Bool.and_comm]
theorem leaves_c(A Z:OA)(c c2:Nat)(l:List Rg)(a:List Ar)(w:World)(g:GoodR l)(h:Rgs w A l)(h2:Ars w Z a)(hn2:a.length<=100): Calls Tryz.prog 136 #[.slice A l.length c,.slice Z a.length c2] w (GivesS (zBv l a) w):=by
 have J:=g.len;obtain⟨b,o,rfl,I,hc⟩:=h.at_ (List.length_pos_iff.2 g.ne);have HC:=zq hc;clear hc
 go_enter Tryz.func136,Tryz.ntmps136;go_wp2
 go_loopg[5,6] l.length (GathRel w l (leafP l a))
 case atStart=>exact⟨0,za,rfl,zAv.nil _ _ _ _ _,aR _ _⟩
 case round =>
  obtain⟨k,hk,rfl,hown,N⟩:=hrel;have HK:=zq hk;have hk1:k<=l.length:=za;clear hk
  by_cases Y:k<l.length
  ·have hc0:wr.cell? ⟨b,o+k*2,none⟩=some (.string (l[k]).nm):=(N.cell I).trans (HC.o k Y).1
   have hwr:w.heap.size<=wr.heap.size:=N.size;have hbr:b<wr.heap.size:=za;have hle:=gath_le l (leafP l a) k;have hlf:=leafB_at g Y
   by_cases hq:M l k=true
   ·have hl2:leafB l (l[k]).nm=false:=by rw[hlf,hq];rfl
    have HL:=zq hl2;have HQ:Hid (leafP l a k=false):=by show leafP l a k=false;simp[leafP,hq]
    clear hlf hl2 hq;(go_wp2_with fail);refine(IsLeaf_c _ _ _ _ _ J (h.below N)).mono ?_;rintro e w' ⟨rfl,rfl⟩;rw[HL.o];go_wp2
    go_roundg (gk-1)
    case measure=>have:=HK.o;omega
    case rel=>exact⟨k+1,zh,zi,by rw[gath_no HQ.o];exact hown,N⟩
   ·have hl2:leafB l (l[k]).nm=true:=by rw[hlf];simp[hq]
    have HL:=zq hl2;have HQ:=zq hq;clear hlf hl2 hq
    cases hli:zCE l a k with
    |false =>
     have HP:Hid (leafP l a k=false):=by show leafP l a k=false;simp[leafP,hli]
     have HI:=zq hli;clear hli;(go_wp2_with fail);refine(IsLeaf_c _ _ _ _ _ J (h.below N)).mono ?_;rintro e w' ⟨rfl,rfl⟩;rw[HL.o];(go_wp2_with fail);refine(lies_c _ _ _ _ _ _ _ g (h.below N) (h2.below N) hn2 k Y).mono ?_;rintro e w' ⟨rfl,rfl⟩;rw[HI.o];go_wp2
     go_roundg (gk-1)
     case measure=>have:=HK.o;omega
     case rel=>exact⟨k+1,zh,zi,by rw[gath_no HP.o];exact hown,N⟩
    |true =>
     have HP:Hid (leafP l a k=true):=by show leafP l a k=true;simp[leafP,hli,HQ.o]
     have HI:=zq hli;clear hli;(go_wp2_with fail);refine(IsLeaf_c _ _ _ _ _ J (h.below N)).mono ?_;rintro e w' ⟨rfl,rfl⟩;rw[HL.o];(go_wp2_with fail);refine(lies_c _ _ _ _ _ _ _ g (h.below N) (h2.below N) hn2 k Y).mono ?_;rintro e w' ⟨rfl,rfl⟩;rw[HI.o]
     go_wp2_with (at_builtin;refine zAT _ _ _ elStr rfl rfl w.heap.size _ (zBW l (leafP l a) k) rfl (hown.alloc _) wr.heap.size 1 (nmAt l k) rfl (by rw[zBp Y];exact aJ _ _) rfl zr zn za zg ?_;intro v1 w1 hown1 hg1 hb1)
     have HO:=zq hown1;have hbel1:=(N.alloc hwr _).trans hb1;have HB:=zq hbel1;clear hown hown1 hg1 hb1 N hbel1;go_wp2
     go_roundg (gk-1)
     case measure=>have:=HK.o;omega
     case rel=>exact⟨k+1,zh,zi,by rw[gath_yes HP.o];exact HO.o,HB.o⟩
  ·have hke:k=l.length:=by omega
   have HKE:=zq hke;clear hke;obtain⟨A',c',rfl,hrd⟩:=hown.rd1;go_wp2;go_ret
   have e:zBW l (leafP l a) k=zBv l a:=by rw[HKE.o,gath_leaves]
   rw[e]at hrd ⊢;exact⟨A',c',rfl,hrd,N⟩
theorem leafIdx_lt{l:List Rg}{t:Nat}(h:t<(zAh l).length):(zAh l)[t]<l.length:=by
 have:=aH h;unfold zAh at this;rw[List.mem_filter,List.mem_range]at this;exact this.1
theorem leafIdx_le(l:List Rg):(zAh l).length<=l.length:=by
 unfold zAh;have:=eH (fun i=>!M l i) (List.range l.length)
 simpa using this
abbrev inV(ng:Bool)(A:OA)(c n:Nat):Value:=.agg #[.bool ng,.slice A (zAc H n).length c]
abbrev raV(ng:Bool)(A:OA)(c n:Nat)(Z:OA)(c2 d:Nat):Value:=.agg #[.bool ng,.slice A (zAc H n).length c,.slice Z (zAc H d).length c2]
def GivesI(ng:Bool)(n:Nat)(w:World)(e:Ending)(w':World):Prop:=∃A c,e=.returned (inV ng A c n)/\Nt w' A c n/\Below w.heap.size w w'
def zCz(ng:Bool)(n d:Nat)(w:World)(e:Ending)(w':World):Prop:=
 ∃A c Z c2,e=.returned (raV ng A c n Z c2 d)/\Nt w' A c n/\Nt w' Z c2 d/\Below w.heap.size w w'
theorem bcellK{W w1:World}(I:Below W.heap.size W w1):(∀b o,b<W.heap.size->w1.cell? ⟨b,o,none⟩=W.cell? ⟨b,o,none⟩)/\(∀b o,b<W.heap.size->w1.frozen? ⟨b,o,none⟩=W.frozen? ⟨b,o,none⟩):=
 ⟨fun b o h=>I.cell (p:=⟨b,o,none⟩) h,fun b o h=>I.frozen (p:=⟨b,o,none⟩) h⟩
theorem Nt.alloc{w:World}{A:OA}{c n:Nat}(h:Nt w A c n)(o:Obj):Nt (w.alloc o) A c n:=⟨h.rd.alloc o,h.cap⟩
theorem Nt.drew{w:World}{A:OA}{c n:Nat}(h:Nt w A c n):Nt w.drew A c n:=⟨h.rd,h.cap⟩
theorem Nt.set{w:World}{A:OA}{c n:Nat}{p:Addr}{v:Value}(h:Nt w A c n)(hp:w.cell? p=some v)(hv:∀x:Nat,v≠u32V x)(u:Value):Nt (w.setCell p u) A c n:=by
 refine⟨fun hl=>?_,h.cap⟩
 obtain⟨b,o,rfl,hc⟩:=h.rd hl;refine⟨b,o,rfl,fun i hi=>?_⟩;rw[World.cell?_setCell_other _ _ _ _ (fun e=>?_)]
 ·exact hc i hi
 ·have h1:=hc i hi
  rw[<-e]at h1;rw[hp]at h1
  injection h1 with h1
  exact hv _ h1
theorem Nt.set2{w:World}{A:OA}{c n R:Nat}{v0 v1:Value}(h:Nt w A c n)(h0:w.cell? ⟨R,0,none⟩=some v0)(h1:w.cell? ⟨R,1,none⟩=some v1)(n0:∀x:Nat,v0≠u32V x)(n1:∀x:Nat,v1≠u32V x)(u0 u1:Value): Nt ((w.setCell ⟨R,0,none⟩ u0).setCell ⟨R,1,none⟩ u1) A c n:=
 (h.set h0 n0 u0).set (by rw[World.cell?_setCell_other _ _ _ _ (fun e=>jh)];exact h1) n1 u1
theorem Nt.set3{w:World}{A:OA}{c n R:Nat}{v0 v1 v2:Value}(h:Nt w A c n)(h0:w.cell? ⟨R,0,none⟩=some v0)(h1:w.cell? ⟨R,1,none⟩=some v1)(h2:w.cell? ⟨R,2,none⟩=some v2)(n0:∀x:Nat,v0≠u32V x)(n1:∀x:Nat,v1≠u32V x)(n2:∀x:Nat,v2≠u32V x)(u0 u1 u2:Value): Nt (((w.setCell ⟨R,0,none⟩ u0).setCell ⟨R,1,none⟩ u1).setCell ⟨R,2,none⟩ u2) A c n:=
 (h.set2 h0 h1 n0 n1 u0 u1).set (by
  rw[World.cell?_setCell_other _ _ _ _ (fun e=>jh),World.cell?_setCell_other _ _ _ _ (fun e=>jh)];exact h2) n2 u2
theorem nb_(b:Bool)(x:Nat):Value.bool b≠u32V x:=fun e=>by cases e
theorem ns_(A:OA)(n c x:Nat):Value.slice A n c≠u32V x:=fun e=>by cases e
theorem IMul_c(A Z:OA)(c c2 a b:Nat)(w:World)(h:Nt w A c a)(h2:Nt w Z c2 b)(J:(zAc H a).length<=400000000)(hm:(zAc H b).length<=400000000): Calls Tryz.prog 101 #[inV false A c a,inV false Z c2 b] w (GivesI false (a*b) w):=by
 go_enter Tryz.func101,Tryz.ntmps101;(go_wp2_with fail);(with_reducible refine(Mul_c A Z c c2 a b _ (((h.alloc _).alloc _).alloc _) (((h2.alloc _).alloc _).alloc _) J hm).mono ?_);rintro e w1⟨A5,c5,rfl,h5,I⟩;obtain⟨hc,hf⟩:=bcellK I;have hz:w.heap.size+2<w1.heap.size:=qx;have c0:w1.cell? ⟨w.heap.size+1+1,0,none⟩=some (.bool false):=zt;have c1:w1.cell? ⟨w.heap.size+1+1,1,none⟩=some (.slice none 0 0):=zt;have HB:Hid (Below w.heap.size w w1):=((((aR w.heap.size w).alloc (aK _) _).alloc ze _).alloc zg _).trans (I.mono zg);go_wp2;refine aC (v:=inV false A5 c5 (a*b)) (by simp[results,Tryz.results101,go_sem,hc]) rfl ⟨A5,c5,rfl,?_,?_⟩
 ·exact h5.set2 c0 c1 (nb_ _) (ns_ _ _ _) _ _
 ·exact te6
theorem ICmp_c(A Z:OA)(c c2 a b:Nat)(w:World)(h:Nt w A c a)(h2:Nt w Z c2 b)(J:(zAc H a).length<=400000000): Calls Tryz.prog 102 #[inV false A c a,inV false Z c2 b] w (zAf (.int .i64 (zDj a b)) w):=by
 go_enter Tryz.func102,Tryz.ntmps102;(go_wp2_with fail);(with_reducible refine(Cmp_c A Z c c2 a b _ ((h.alloc _).alloc _) ((h2.alloc _).alloc _) za).mono ?_);rintro e w1⟨rfl,nd,rfl⟩;go_wp2;go_ret
 exact zAf.mk rfl (zAb (((aR w.heap.size w).alloc (aK _) _).alloc ze _) nd)
theorem IAdd_c(A Z:OA)(c c2 a b:Nat)(w:World)(h:Nt w A c a)(h2:Nt w Z c2 b)(J:(zAc H a).length<=400000000)(hm:(zAc H b).length<=400000000): Calls Tryz.prog 165 #[inV false A c a,inV false Z c2 b] w (GivesI false (a+b) w):=by
 have HA:=zq (fun W (q:Nt W A c a) (q2:Nt W Z c2 b)=>Add_c A Z c c2 a b W q q2 za za)
 go_enter Tryz.func165,Tryz.ntmps165;go_wp2
 go_region_held3 (fun w'=>w'.cell? ⟨w.heap.size,0,none⟩=some (.bool false)/\w'.cell? ⟨w.heap.size,1,none⟩=some (.slice A (zAc H a).length c)/\w'.cell? ⟨w.heap.size+1,1,none⟩=some (.slice Z (zAc H b).length c2)) ((refine⟨?_,?_,?_⟩<;>go_simp))
  (first
   |((go_at_call 222;(with_reducible refine(HA.o _ (Nt.drew (((h.alloc _).alloc _).alloc _)) (Nt.drew (((h2.alloc _).alloc _).alloc _))).mono ?_);rintro e w1⟨A5,c5,rfl,h5,I⟩;obtain⟨hc,hf⟩:=bcellK I;have hz:w.heap.size+2<w1.heap.size:=by(have:=I.size;simp at this;omega))))
 have c0:w1.cell? ⟨w.heap.size+1+1,0,none⟩=some (.bool false):=zt;have c1:w1.cell? ⟨w.heap.size+1+1,1,none⟩=some (.slice none 0 0):=zt;have HB:Hid (Below w.heap.size w w1):=(zAb ((((aR w.heap.size w).alloc (aK _) _).alloc ze _).alloc zg _) 1).trans (I.mono zg);go_wp2;refine aC (v:=inV false A5 c5 (a+b)) (by simp[results,Tryz.results165,go_sem,hc]) rfl ⟨A5,c5,rfl,?_,?_⟩
 ·exact h5.set2 c0 c1 (nb_ _) (ns_ _ _ _) _ _
 ·exact te6
def sgnI(ng:Bool)(n:Nat):Int:=if ng=true then -1 else if n=0 then 0 else 1
theorem ISign_c(ng:Bool)(A:OA)(c n:Nat)(w:World):Calls Tryz.prog 191 #[inV ng A c n] w (zAf (.int .i64 (sgnI ng n)) w):=by
 cases ng with
 |true =>
  exact tdc
 |false =>
  by_cases h0:n=0
  ·subst h0
   exact tdc
  ·have hl:0<(zAc H n).length:=by
    rcases bI (zAc H n).length with e|e
    ·exact absurd ((zCC zAC (n:=n)).1 (eB e)) h0
    ·exact e
   have hr:sgnI false n=1:=by simp[sgnI,h0]
   rw[hr];have HR:=zq hr;clear hr h0;exact tdc
theorem RSign_c(ng:Bool)(A Z:OA)(c c2 n d:Nat)(w:World):Calls Tryz.prog 141 #[raV ng A c n Z c2 d] w (zAf (.int .i64 (sgnI ng n)) w):=by
 go_enter Tryz.func141,Tryz.ntmps141;(go_wp2_with fail);(with_reducible refine(ISign_c ng A c n _).mono ?_);rintro e w1⟨rfl,I⟩;go_wp2;go_ret
 exact zAf.mk rfl (((aR w.heap.size w).alloc (aK _) _).trans (I.mono ze))
theorem one_cases{w:World}{A:OA}{c m:Nat}(h:Nt w A c m)(hm:0<m): (m=1/\(zAc H m).length=1/\∃b o,A=some ⟨b,o,none⟩/\b<w.heap.size/\w.cell? ⟨b,o,none⟩=some (.int .u32 1)) \/ (m≠1/\(zAc H m).length≠1)\/(m≠1/\(zAc H m).length=1/\∃b o,A=some ⟨b,o,none⟩/\b<w.heap.size/\w.cell? ⟨b,o,none⟩=some (.int .u32 (m:Int))):=by
 by_cases hl:(zAc H m).length=1
 ·have hw:=words_one hl
  have hr:=h.rd;rw[hw]at hr;obtain⟨b,o,hA,I,hc⟩:=hr.at_ ze;have hc0:=hc 0 ze;rw[zBU]at hc0;simp only[dS,dT]at hc0
  by_cases h1:m=1
  ·subst h1
   exact .inl ⟨rfl,hl,b,o,hA,I,hc0⟩
  ·exact .inr (.inr ⟨h1,hl,b,o,hA,I,hc0⟩)
 ·refine .inr (.inl ⟨fun e=>?_,hl⟩)
  rw[e,one_words]at hl;exact hl rfl
theorem lowP_zero(d:Nat)(h:0<d):zBX 0 d=(0,1):=by
 unfold zBX;rw[Nat.gcd_zero_left,Nat.zero_div,Nat.div_self h]
theorem lowP_one(n d:Nat)(h:Nat.gcd n d=1):zBX n d=(n,d):=by
 unfold zBX;rw[h,Nat.div_one,Nat.div_one]
theorem Over_zero(A Z:OA)(c c2 d:Nat)(ng:Bool)(w:World):Calls Tryz.prog 164 #[inV ng A c 0,ntV Z c2 d] w (zCz false 0 1 w):=by
 go_enter Tryz.func164,Tryz.ntmps164;(go_wp2_with fail);(with_reducible refine(One_c _).mono ?_);rintro e w1⟨A5,c5,rfl,h5,I⟩;obtain⟨hc,hf⟩:=bcellK I;have hz:w.heap.size+1<w1.heap.size:=qx;have c0:w1.cell? ⟨w.heap.size+1,0,none⟩=some (.bool false):=zt;have c1:w1.cell? ⟨w.heap.size+1,1,none⟩=some (.slice none 0 0):=zt;have c2:w1.cell? ⟨w.heap.size+1,2,none⟩=some (.slice none 0 0):=zt;have HB:Hid (Below w.heap.size w w1):=(((aR w.heap.size w).alloc (aK _) _).alloc ze _).trans (I.mono zg);go_wp2;refine aC (v:=raV false none 0 0 A5 c5 1) (by simp[results,Tryz.results164,go_sem,hc];rfl) rfl ⟨none,0,A5,c5,rfl,Nt.zero _,?_,?_⟩
 ·exact h5.set3 c0 c1 c2 (nb_ _) (ns_ _ _ _) (ns_ _ _ _) _ _ _
 ·exact te2
theorem pos_len{n:Nat}(h:0<n):0<(zAc H n).length:=by
 rcases bI (zAc H n).length with e|e
 ·have:=(zCC zAC (n:=n)).1 (eB e)
  omega
 ·exact e
theorem Over_same(A Z:OA)(c c2 n:Nat)(ng:Bool)(w:World)(h:Nt w A c n)(h2:Nt w Z c2 1)(h0:0<n):Calls Tryz.prog 164 #[inV ng A c n,ntV Z c2 1] w (zCz ng n 1 w):=by
 have hl:=pos_len h0;have hlb:(((zAc H n).length:Int) == 0)=false:=by simp;intro e;rw[e]at hl;simp at hl
 rcases one_cases h2 za with ⟨_,hl1,b,o,rfl,I,hcell⟩|⟨e,_⟩|⟨e,_⟩
 ·have e2:ntV (some ⟨b,o,none⟩) c2 1=.slice (some ⟨b,o,none⟩) 1 c2:=by
   show Value.slice _ (zAc H 1).length c2=_
   rw[hl1]
  have HL1:=zq hl1;clear hl1;rw[e2];have E2:=zq e2;clear e2 hl
  go_enter Tryz.func164,Tryz.ntmps164;go_wp2;refine aC (v:=raV ng A c n (some ⟨b,o,none⟩) c2 1) (by simp[results,Tryz.results164,go_sem];rfl) rfl ⟨A,c,_,c2,rfl,?_,?_,?_⟩
  ·exact(h.alloc _).alloc _
  ·exact(h2.alloc _).alloc _
  ·exact te3
 ·exact absurd rfl e
 ·exact absurd rfl e
theorem Over_gen(A Z:OA)(c c2 n d:Nat)(ng:Bool)(w:World)(h:Nt w A c n)(h2:Nt w Z c2 d)(h0:0<n)(hd0:0<d)(hd:d≠1)(J:(zAc H n).length<=400000000)(hm:(zAc H d).length<=400000000): Calls Tryz.prog 164 #[inV ng A c n,ntV Z c2 d] w (zCz ng (zBX n d).1 (zBX n d).2 w):=by
 have hl:=pos_len h0;have hl2:=pos_len hd0;have hlb:(((zAc H n).length:Int) == 0)=false:=by simp;intro e;rw[e]at hl;simp at hl
 have HGB:Hid (Nat.gcd n d<=d):=Nat.gcd_le_right n hd0;have hg0:0<Nat.gcd n d:=eI n hd0;have hgl:(zAc H (Nat.gcd n d)).length<=400000000:=dX (zAw zAC HGB.o) hm;have HLP:Hid (zBX n d=(n/Nat.gcd n d,d/Nat.gcd n d)):=rfl;rw[HLP.o];obtain⟨G,hG⟩:∃G,Nat.gcd n d=G:=⟨_,rfl⟩;rw[hG]at hg0 hgl ⊢;have HG:=zq hG;clear hG;have HQ1:=zq (fun W A5 c5 (q:Nt W A c n) (q2:Nt W A5 c5 G)=>Div_c A A5 c c5 n G W q q2 J hg0);have HQ2:=zq (fun W A5 c5 (q:Nt W Z c2 d) (q2:Nt W A5 c5 G)=>Div_c Z A5 c2 c5 d G W q q2 hm hg0);have hgc:=fun W (q:Nt W A c n) (q2:Nt W Z c2 d)=>gcd_c A Z c c2 n d W q q2 J hm
 rw[HG.o]at hgc;have HGC:=zq hgc;clear hgc
 have CS:Hid ((((zAc H d).length:Int) == 1)=false\/((((zAc H d).length:Int) == 1)=true/\((d:Int) == 1)=false/\∃b o,Z=some ⟨b,o,none⟩/\b<w.heap.size/\w.cell? ⟨b,o,none⟩=some (.int .u32 (d:Int)))):=by
  rcases one_cases h2 hd0 with ⟨e,_⟩|⟨_,e⟩|⟨e,hl1,b,o,hA,I,hc⟩
  ·exact absurd e hd
  ·exact .inl zg
  ·exact .inr ⟨zg,zg,b,o,hA,I,hc⟩
 clear hd
 rcases CS.out with hc1|⟨hc1,hc2,b,o,rfl,I,hcell⟩
 all_goals
  go_enter Tryz.func164,Tryz.ntmps164;(go_wp2_with fail);(with_reducible refine(HGC.o _ ((h.alloc _).alloc _) ((h2.alloc _).alloc _)).mono ?_);rintro e w1⟨A5,c5,rfl,h5,hb5⟩;obtain⟨hc,hf⟩:=bcellK hb5;have hz:w.heap.size+1<w1.heap.size:=by have:=hb5.size;simp at this;omega
  have k0:w1.cell? ⟨w.heap.size+1,0,none⟩=some (.bool false):=zt;have k1:w1.cell? ⟨w.heap.size+1,1,none⟩=some (.slice none 0 0):=zt;have k2:w1.cell? ⟨w.heap.size+1,2,none⟩=some (.slice none 0 0):=zt;have HB:Hid (Below w.heap.size w w1):=(((aR w.heap.size w).alloc (aK _) _).alloc ze _).trans (hb5.mono zg);have hn1:=((h.alloc _).alloc _).below hb5;have hd1:=((h2.alloc _).alloc _).below hb5
  have CS2:Hid ((G=1/\(((zAc H G).length:Int) == 1)=true/\0<(zAc H G).length/\∃b o,A5=some ⟨b,o,none⟩/\b<w1.heap.size/\w1.cell? ⟨b,o,none⟩=some (.int .u32 1))\/(((zAc H G).length:Int) == 1)=false \/
    ((((zAc H G).length:Int) == 1)=true/\0<(zAc H G).length/\((G:Int) == 1)=false/\∃b o,A5=some ⟨b,o,none⟩/\b<w1.heap.size/\w1.cell? ⟨b,o,none⟩=some (.int .u32 (G:Int)))):=by
   rcases one_cases h5 hg0 with ⟨e,hl1,b,o,hA,I,hc⟩|⟨_,e⟩|⟨e,hl1,b,o,hA,I,hc⟩
   ·exact .inl ⟨e,zg,za,b,o,hA,I,hc⟩
   ·exact .inr (.inl zg)
   ·exact .inr (.inr ⟨zg,za,zg,b,o,hA,I,hc⟩)
  clear hb5
  rcases CS2.out with ⟨hG1,hg1,hg2,b2,o2,hA5,D,hcell2⟩|hg1|⟨hg1,hg2,hg3,b2,o2,hA5,D,hcell2⟩
  ·subst hA5
   have HG1:=zq hG1;clear hG1 hc1;go_wp2;rw[HG1.o,Nat.div_one,Nat.div_one];refine aC (v:=raV ng A c n _ c2 d) (by simp[results,Tryz.results164,go_sem,hc]) rfl ⟨A,c,_,c2,rfl,hn1.set3 k0 k1 k2 (nb_ _) (ns_ _ _ _) (ns_ _ _ _) _ _ _,hd1.set3 k0 k1 k2 (nb_ _) (ns_ _ _ _) (ns_ _ _ _) _ _ _,?_⟩
   exact te2
  ·exact tab
  ·subst hA5
   exact tab
theorem Over_c(A Z:OA)(c c2 n d:Nat)(ng:Bool)(w:World)(h:Nt w A c n)(h2:Nt w Z c2 d)(hd0:0<d)(J:(zAc H n).length<=400000000)(hm:(zAc H d).length<=400000000): Calls Tryz.prog 164 #[inV ng A c n,ntV Z c2 d] w (zCz (ng&&decide (n≠0)) (zBX n d).1 (zBX n d).2 w):=by
 by_cases h0:n=0
 ·subst h0
  rw[lowP_zero d hd0];have:=Over_zero A Z c c2 d ng w
  simpa using this
 ·have e:(ng&&decide (n≠0))=ng:=by simp[h0]
  rw[e]
  by_cases h1:d=1
  ·subst h1
   rw[lowP_one n 1 (Nat.gcd_one_right n)];exact Over_same A Z c c2 n ng w h h2 za
  ·exact Over_gen A Z c c2 n d ng w h h2 za hd0 h1 J hm
end Go.Proofs.YtbbchlpccgkikaaGreatDoor
namespace Go.Proofs
open Go.Shelf
def Tryz.lays160_ren:Go.Shelf.Ren:=⟨fun|160=>154|232=>202|231=>201|227=>203|234=>205|233=>204|236=>207|235=>206|228=>268|271=>271|151=>270|197=>269|120=>304|152=>303|260=>302|137=>326|119=>327|224=>328|225=>329|217=>339|266=>344|n=>n,fun|9=>9|4=>4|3=>3|5=>5|117=>286|116=>285|0=>0|124=>289|21=>21|105=>330|46=>248|119=>380|139=>383|138=>382|n=>n,fun|3=>2|4=>3|n=>n⟩
theorem Tryz.lays160:Go.Proofs.Lays.n160 Tryz.prog Tryz.lays160_ren:={
 mixed:=zc
 f119:=Tryz.func327.trans (bE some zc)
 f120:=Tryz.func304.trans (bE some zc)
 f137:=Tryz.func326.trans (bE some zc)
 f151:=Tryz.func270.trans (bE some zc)
 f152:=Tryz.func303.trans (bE some zc)
 f160:=Tryz.func154.trans (bE some zc)
 f197:=Tryz.func269.trans (bE some zc)
 f217:=Tryz.func339.trans (bE some zc)
 f224:=Tryz.func328.trans (bE some zc)
 f225:=Tryz.func329.trans (bE some zc)
 f227:=Tryz.func203.trans (bE some zc)
 f228:=Tryz.func268.trans (bE some zc)
 f231:=Tryz.func201.trans (bE some zc)
 f232:=Tryz.func202.trans (bE some zc)
 f233:=Tryz.func204.trans (bE some zc)
 f234:=Tryz.func205.trans (bE some zc)
 f235:=Tryz.func206.trans (bE some zc)
 f236:=Tryz.func207.trans (bE some zc)
 f260:=Tryz.func302.trans (bE some zc)
 f266:=Tryz.func344.trans (bE some zc)
 f271:=Tryz.func271.trans (bE some zc)
 t0:=Tryz.underlying0
 a0:=Tryz.isAgg0
 z0:=Tryz.sizeOf0
 v0:=Tryz.zeroValue0
 t3:=Tryz.underlying3
 a3:=Tryz.isAgg3
 z3:=Tryz.sizeOf3
 v3:=Tryz.zeroValue3
 t4:=Tryz.underlying4
 a4:=Tryz.isAgg4
 z4:=Tryz.sizeOf4
 v4:=Tryz.zeroValue4
 t5:=Tryz.underlying5
 a5:=Tryz.isAgg5
 z5:=Tryz.sizeOf5
 v5:=Tryz.zeroValue5
 t9:=Tryz.underlying9
 a9:=Tryz.isAgg9
 z9:=Tryz.sizeOf9
 v9:=Tryz.zeroValue9
 t21:=Tryz.underlying21
 a21:=Tryz.isAgg21
 z21:=Tryz.sizeOf21
 v21:=Tryz.zeroValue21
 t46:=Tryz.underlying248
 a46:=Tryz.isAgg248
 z46:=Tryz.sizeOf248
 v46:=Tryz.zeroValue248
 t105:=Tryz.underlying330
 a105:=Tryz.isAgg330
 z105:=Tryz.sizeOf330
 v105:=Tryz.zeroValue330
 t116:=Tryz.underlying285
 a116:=Tryz.isAgg285
 z116:=Tryz.sizeOf285
 t117:=Tryz.underlying286
 a117:=Tryz.isAgg286
 z117:=Tryz.sizeOf286
 v117:=Tryz.zeroValue286
 t119:=Tryz.underlying380
 a119:=Tryz.isAgg380
 z119:=Tryz.sizeOf380
 t124:=Tryz.underlying289
 a124:=Tryz.isAgg289
 z124:=Tryz.sizeOf289
 v124:=Tryz.zeroValue289
 t138:=Tryz.underlying382
 a138:=Tryz.isAgg382
 z138:=Tryz.sizeOf382
 v138:=Tryz.zeroValue382
 t139:=Tryz.underlying383
 a139:=Tryz.isAgg383
 z139:=Tryz.sizeOf383
 v139:=Tryz.zeroValue383
 g3:=zc
 g4:=by kernel_rfl }
def Tryz.lays103_ren:Go.Shelf.Ren:=⟨fun|103=>193|210=>261|206=>299|n=>n,fun|9=>9|4=>4|24=>274|3=>3|n=>n,fun|n=>n⟩
theorem Tryz.lays103:Go.Proofs.Lays.n103 Tryz.prog Tryz.lays103_ren:={
 mixed:=zc
 f103:=Tryz.func193.trans (bE some zc)
 f206:=Tryz.func299.trans (bE some zc)
 f210:=Tryz.func261.trans (bE some zc)
 t3:=Tryz.underlying3
 a3:=Tryz.isAgg3
 z3:=Tryz.sizeOf3
 v3:=Tryz.zeroValue3
 t4:=Tryz.underlying4
 a4:=Tryz.isAgg4
 z4:=Tryz.sizeOf4
 v4:=Tryz.zeroValue4
 t9:=Tryz.underlying9
 a9:=Tryz.isAgg9
 z9:=Tryz.sizeOf9
 v9:=Tryz.zeroValue9
 t24:=Tryz.underlying274
 a24:=Tryz.isAgg274
 z24:=Tryz.sizeOf274
 v24:=Tryz.zeroValue274 }
def Tryz.lays106_ren:Go.Shelf.Ren:=⟨fun|106=>99|213=>162|265=>219|n=>n,fun|9=>9|3=>3|n=>n,fun|n=>n⟩
theorem Tryz.lays106:Go.Proofs.Lays.n106 Tryz.prog Tryz.lays106_ren:={
 mixed:=zc
 f106:=Tryz.func99.trans (bE some zc)
 f213:=Tryz.func162.trans (bE some zc)
 f265:=Tryz.func219.trans (bE some zc)
 t3:=Tryz.underlying3
 a3:=Tryz.isAgg3
 z3:=Tryz.sizeOf3
 v3:=Tryz.zeroValue3
 t9:=Tryz.underlying9
 a9:=Tryz.isAgg9
 z9:=Tryz.sizeOf9
 v9:=Tryz.zeroValue9 }
end Go.Proofs
namespace Go.Proofs.YtbbchlpccgkikaaGreatDoor
open Go.RowKit Dw
theorem Of_c(n:Nat)(w:World)(h:n<=1000000000):Calls Tryz.prog 103 #[.int .i64 (n:Int)] w (GivesI false n w):=by
 go_enter Tryz.func103,Tryz.ntmps103;(go_wp2_with fail);(with_reducible refine(natOf_c n _ za).mono ?_);rintro e w1⟨A5,c5,rfl,h5,I⟩;obtain⟨hc,hf⟩:=bcellK I;have hz:w.heap.size<w1.heap.size:=qx;have k0:w1.cell? ⟨w.heap.size,0,none⟩=some (.bool false):=zt;have k1:w1.cell? ⟨w.heap.size,1,none⟩=some (.slice none 0 0):=zt;have HB:Hid (Below w.heap.size w w1):=((aR w.heap.size w).alloc (aK _) _).trans (I.mono ze);go_wp2;refine aC (v:=inV false A5 c5 n) (by simp[results,Tryz.results103,go_sem,hc]) rfl ⟨A5,c5,rfl,?_,?_⟩
 ·exact h5.set2 k0 k1 (nb_ _) (ns_ _ _ _) _ _
 ·exact(HB.o.setCell ze _).setCell ze _
theorem Whole_c(n:Nat)(w:World)(h:n<=1000000000):Calls Tryz.prog 49 #[.int .i64 (n:Int)] w (zCz false n 1 w):=by
 go_enter Tryz.func49,Tryz.ntmps49;(go_wp2_with fail);(with_reducible refine(Of_c n _ h).mono ?_);rintro e w1⟨A5,c5,rfl,h5,I⟩;(go_wp2_with fail);(with_reducible refine(One_c _).mono ?_);rintro e w2⟨A6,c6,rfl,h6,hb6⟩;have h56:=h5.below hb6;have hb7:=zAa I hb6;obtain⟨hc,hf⟩:=bcellK hb7;have hz:w.heap.size<w2.heap.size:=by have:=hb7.size;simp at this;omega
 have k0:w2.cell? ⟨w.heap.size,0,none⟩=some (.bool false):=zt;have k1:w2.cell? ⟨w.heap.size,1,none⟩=some (.slice none 0 0):=zt;have k2:w2.cell? ⟨w.heap.size,2,none⟩=some (.slice none 0 0):=zt;have HB:Hid (Below w.heap.size w w2):=((aR w.heap.size w).alloc (aK _) _).trans (hb7.mono ze);go_wp2;refine aC (v:=raV false A5 c5 n A6 c6 1) (by simp[results,Tryz.results49,go_sem,hc]) rfl ⟨A5,c5,A6,c6,rfl,?_,?_,?_⟩
 ·exact h56.set3 k0 k1 k2 (nb_ _) (ns_ _ _ _) (ns_ _ _ _) _ _ _
 ·exact h6.set3 k0 k1 k2 (nb_ _) (ns_ _ _ _) (ns_ _ _ _) _ _ _
 ·exact te2
theorem byte45(c:UInt8):(45 == c)=decide (c.toNat=45):=by
 have h:∀n:Nat,n<256->((45:UInt8) == UInt8.ofNat n)=decide ((UInt8.ofNat n).toNat=45):=qb;have:=h c.toNat c.toNat_lt
 simpa using this
theorem cut_c(s:BA)(w:World):Calls Tryz.prog 193 #[.string s,.string ⟨#[45]⟩] w (zAG (.tuple #[.string (zAU s),.bool (zDf s)]) w):=by
 have h:=Any.strings_CutPrefix Tryz.lays103 s ⟨#[45]⟩ w;change Calls Tryz.prog 193 _ _ _ at h
 have e1:Lib.hasPrefix s.data.toList [45]=zDf s:=by
  unfold Lib.hasPrefix zDf;rw[Lib.size_eq]
  cases s.data.toList with
  |nil=>rfl
  |cons a l =>
   have:(45 == a)=decide (a.toNat=45):=byte45 a;simp[List.isPrefixOf,this]
 have e2:(⟨(Lib.trimPrefix s.data.toList [45]).toArray⟩:BA)=zAU s:=by
  unfold Lib.trimPrefix zAU absL;rw[e1]
  cases zDf s<;>simp
 refine h.mono fun _ _ ⟨he,hw⟩=>⟨?_,hw.symm⟩
 rw[he];show Ending.returned (.tuple #[.string ⟨(Lib.trimPrefix s.data.toList [45]).toArray⟩,.bool (Lib.hasPrefix s.data.toList [45])])=_
 rw[e1,e2]
def Bx(w:World)(g:Nat)(cs:Array Value)(T:TypeId):Prop:=w.heap[g]?=some (.cells cs T (0,0))
section
variable {w w':World} {g:Nat} {cs:Array Value} {T:TypeId}
theorem Bx.lt(h:Bx w g cs T):g<w.heap.size:=(Array.getElem?_eq_some_iff.1 h).1
theorem Bx.cell(h:Bx w g cs T){i:Nat}{v:Value}(hi:cs[i]?=some v):w.cell? ⟨g,i,none⟩=some v:=by
 rw[bK w g i _ _ _ h];exact hi
theorem Bx.c(h:Bx w g cs T)(i:Nat){v:Value}(hi:cs[i]?=some v):w.cell? ⟨g,i,none⟩=some v:=h.cell hi
theorem Bx.t{w:World}{g:Nat}{T:TypeId}{a b c:Value}(h:Bx w g #[a,b,c] T):w.cell? ⟨g,0,none⟩=some a/\w.cell? ⟨g,1,none⟩=some b/\w.cell? ⟨g,2,none⟩=some c:=⟨h.c 0 rfl,h.c 1 rfl,h.c 2 rfl⟩
theorem Bx.frozen(h:Bx w g cs T)(i:Nat):w.frozen? ⟨g,i,none⟩=false:=dO w g i _ _ h
theorem Bx.below(h:Bx w g cs T)(I:Below w.heap.size w w'):Bx w' g cs T:=(I.block g h.lt).trans h
theorem Bx.drew(h:Bx w g cs T):Bx w.drew g cs T:=h
theorem Bx.drewN(h:Bx w g cs T)(n:Nat):Bx (w.drewN n) g cs T:=h
theorem Bx.alloc(h:Bx w g cs T)(o:Obj):Bx (w.alloc o) g cs T:=(eJ w o g h.lt).trans h
theorem Bx.new(w:World)(cs:Array Value)(T:TypeId):Bx (w.alloc (.cells cs T)) w.heap.size cs T:=aJ w _
theorem Bx.new1(w:World)(o:Obj)(cs:Array Value)(T:TypeId):Bx ((w.alloc o).alloc (.cells cs T)) (w.heap.size+1) cs T:=by
 have:=Bx.new (w.alloc o) cs T
 rwa [show(w.alloc o).heap.size=w.heap.size+1 by simp]at this
theorem Bx.new2(w:World)(o o2:Obj)(cs:Array Value)(T:TypeId):Bx (((w.alloc o).alloc o2).alloc (.cells cs T)) (w.heap.size+1+1) cs T:=by
 have:=Bx.new1 (w.alloc o) o2 cs T
 rwa [show(w.alloc o).heap.size=w.heap.size+1 by simp]at this
end
abbrev zCc:Array Value:=#[.bool false,.slice none 0 0,.slice none 0 0]
theorem Nt.setR{w:World}{A:OA}{c n R:Nat}{T:TypeId}(h:Nt w A c n)(I:Bx w R zCc T)(u0 u1 u2:Value):Nt (((w.setCell ⟨R,0,none⟩ u0).setCell ⟨R,1,none⟩ u1).setCell ⟨R,2,none⟩ u2) A c n:=
 h.set3 (I.c 0 rfl) (I.c 1 rfl) (I.c 2 rfl) (nb_ _) (ns_ _ _ _) (ns_ _ _ _) _ _ _
def sgB(s:BA):Bool:=zDf s&&decide (zAy (zAU s)≠0)
theorem Parse_c(s:BA)(w:World)(hd:(zAU s).data.toList.all dgB=true)(hs:(zAU s).size<=2000):Calls Tryz.prog 146 #[.string s] w (GivesI (sgB s) (zAy (zAU s)) w):=by
 have HS:Hid ((zAy (zAU s)=0/\sgB s=false)\/(0<(zAc H (zAy (zAU s))).length/\sgB s=zDf s)):=by
  by_cases h0:zAy (zAU s)=0
  ·exact .inl ⟨h0,by simp[sgB,h0]⟩
  ·exact .inr ⟨pos_len za,by simp[sgB,h0]⟩
 have HN:=zq (fun W=>natText_c (zAU s) W hd hs);have HC:=zq (fun W=>cut_c s W);clear hd hs;generalize zAU s=t at *;generalize zAy t=n at *;generalize sgB s=sg at *;generalize zDf s=ng at *
 rcases HS.o with ⟨rfl,rfl⟩|⟨hl,rfl⟩
 case' inr=>cases sg
 case' inl=>cases ng
 all_goals
  clear HS
  go_enter Tryz.func146,Tryz.ntmps146;(go_wp2_with fail);(with_reducible refine(HC.o _).mono ?_);rintro e w1⟨rfl,rfl⟩;(go_wp2_with fail);(with_reducible refine(HN.o _).mono ?_);rintro e w2⟨A5,c5,rfl,h5,I⟩;obtain⟨hc,hf⟩:=bcellK I;have hz:w.heap.size<w2.heap.size:=qx;have k0:w2.cell? ⟨w.heap.size,0,none⟩=some (.bool false):=zt;have k1:w2.cell? ⟨w.heap.size,1,none⟩=some (.slice none 0 0):=zt;have HB:Hid (Below w.heap.size w w2):=((aR w.heap.size w).alloc (aK _) _).trans (I.mono ze);clear HC HN;go_wp2;refine aC (v:=inV _ A5 c5 _) (by first|(simp[results,Tryz.results146,go_sem,hc];done)|(simp[results,Tryz.results146,go_sem,hc];rfl)) rfl ⟨A5,c5,rfl,?_,?_⟩
  ·exact h5.set2 k0 k1 (nb_ _) (ns_ _ _ _) _ _
  ·exact(HB.o.setCell ze _).setCell ze _
theorem From_c(nu de:BA)(w:World)(hd:(zAU nu).data.toList.all dgB=true)(hs:(zAU nu).size<=2000)(hd2:de.data.toList.all dgB=true)(hs2:de.size<=2000): Calls Tryz.prog 80 #[.agg #[.string nu,.string de]] w (zCz (sgB nu) (zAy (zAU nu)) (zAy de) w):=by
 have HP:=zq (fun W=>Parse_c nu W hd hs);have HN:=zq (fun W=>natText_c de W hd2 hs2);clear hd hs hd2 hs2;generalize zAy (zAU nu)=n at *;generalize sgB nu=sg at *;generalize zAy de=d at *
 go_enter Tryz.func80,Tryz.ntmps80;go_wp2;have HX:Hid (Bx ((w.alloc (.cells #[.string nu,.string de] 36)).alloc (.cells zCc 86)) w.heap.size #[.string nu,.string de] 36):=(Bx.new _ _ _).alloc _;have HR:Hid (Bx ((w.alloc (.cells #[.string nu,.string de] 36)).alloc (.cells zCc 86)) (w.heap.size+1) zCc 86):=Bx.new1 _ _ _ _;have HB:Hid (Below w.heap.size w ((w.alloc (.cells #[.string nu,.string de] 36)).alloc (.cells zCc 86))):=((aR w.heap.size w).alloc (aK _) _).alloc ze _
 go_region_held3 (fun w'=>w'.cell? ⟨w.heap.size,0,none⟩=some (.string nu)/\w'.cell? ⟨w.heap.size,1,none⟩=some (.string de)) ((refine⟨?_,?_⟩<;>first|with_reducible assumption|go_simp))
  (first
   |((go_at_call 146;(with_reducible refine(HP.o _).mono ?_);rintro e w1⟨A5,c5,rfl,h5,I⟩;have X:=zq (HX.o.drew.below I);have HR1:=zq (HR.o.drew.below I);have HB1:=zq ((zAb HB.o 1).trans (I.mono HB.o.size));have a0:=X.o.c 0 rfl;have a1:=X.o.c 1 rfl;clear I))
   |((go_at_call 147;(with_reducible refine(HN.o _).mono ?_);rintro e w2⟨A6,c6,rfl,h6,hb6⟩;have h56:=h5.below hb6;have HX2:=zq (X.o.below hb6);have HR2:=zq (HR1.o.below hb6);have HB2:=zq (zAa HB1.o hb6);have a2:=HX2.o.c 0 rfl;have a3:=HX2.o.c 1 rfl;obtain⟨r0,r1,r2⟩:=HR2.o.t;have fr:=HR2.o.frozen;have rl:=HR2.o.lt;clear hb6)))
 clear HX HR HB X HR1 HB1 a0 a1 h5;go_wp2;refine aC (v:=raV sg A5 c5 n A6 c6 d) (by simp[results,Tryz.results80,go_sem,r0,r1,r2]) rfl ⟨A5,c5,A6,c6,rfl,h56.setR HR2.o _ _ _,h6.setR HR2.o _ _ _,?_⟩
 exact((HB2.o.setCell ze _).setCell ze _).setCell ze _
def lowB(n d:Nat):Bool:=decide (Nat.gcd n d=1)
theorem low_cmp{n d:Nat}(hd:0<d):(zDj (zBX n d).2 d == 0)=lowB n d:=by
 unfold lowB zBX;show(zDj (d/Nat.gcd n d) d == 0)=_
 have hg:=eI n hd
 by_cases h:Nat.gcd n d=1
 ·have e:d/Nat.gcd n d=d:=by rw[h];exact Nat.div_one d
  rw[e,zCL rfl];simp[h]
 ·have Y:d/Nat.gcd n d<d:=Nat.div_lt_self hd za
  rw[zBJ Y];simp[h]
theorem fldDen(W:World)(ng:Bool)(A Z:OA)(n c m c2:Nat):(Instr.field 86 (.agg #[.bool ng,.slice A n c,.slice Z m c2]) 1).run Tryz.prog W=.ok (.slice Z m c2) W:=zc
theorem Lowest_c(ng:Bool)(A Z:OA)(c c2 n d:Nat)(w:World)(h:Nt w A c n)(h2:Nt w Z c2 d)(hd:0<d)(J:(zAc H n).length<=400000000)(hm:(zAc H d).length<=400000000): Calls Tryz.prog 264 #[raV ng A c n Z c2 d] w (zAf (.bool (lowB n d)) w):=by
 have hlc:=low_cmp (n:=n) hd;have HL2:Hid ((zAc H (zBX n d).2).length<=400000000):=dX (zAw zAC (Nat.div_le_self d _)) hm;have HO:=zq (fun W (q:Nt W A c n) (q2:Nt W Z c2 d)=>Over_c A Z c c2 n d ng W q q2 hd J hm);generalize (ng&&decide (n≠0))=ng2 at *;generalize (zBX n d).1=p1 at *;generalize (zBX n d).2=p2 at *;generalize lowB n d=lb at *;have HLC:=zq hlc;clear hlc hd;have HXX:Hid (Bx (w.alloc (.cells #[.bool ng,.slice A (zAc H n).length c,.slice Z (zAc H d).length c2] 86)) w.heap.size #[.bool ng,.slice A (zAc H n).length c,.slice Z (zAc H d).length c2] 86):=Bx.new _ _ _;have HB:Hid (Below w.heap.size w (w.alloc (.cells #[.bool ng,.slice A (zAc H n).length c,.slice Z (zAc H d).length c2] 86))):=(aR w.heap.size w).alloc (aK _) _
 go_enter Tryz.func264,Tryz.ntmps264;go_wp2;have hfd:=fldDen
 go_region_held3 (fun w'=>w'.cell? ⟨w.heap.size,0,none⟩=some (.bool ng)/\w'.cell? ⟨w.heap.size,1,none⟩=some (.slice A (zAc H n).length c)/\w'.cell? ⟨w.heap.size,2,none⟩=some (.slice Z (zAc H d).length c2)) ((refine⟨?_,?_,?_⟩<;>first|with_reducible assumption|go_simp))
  (first
   |((go_at_call 164;(with_reducible refine(HO.o _ (Nt.drew (h.alloc _)) (Nt.drew (h2.alloc _))).mono ?_);rintro e w1⟨A5,c5,A6,c6,rfl,h5,h6,I⟩;have X:=zq (HXX.o.drew.below I);have HB1:=zq ((zAb HB.o 1).trans (I.mono HB.o.size));obtain⟨a0,a1,a2⟩:=X.o.t;have h21:=(Nt.drew (h2.alloc _)).below I;clear I))
   |((go_at_call 163;(with_reducible refine(Cmp_c A6 Z c6 c2 p2 d _ h6 h21 (dX HL2.o za)).mono ?_);rintro e w2⟨rfl,nd,rfl⟩)))
 clear HXX HB X a0 a1 a2 h5 h6 h21 hfd;go_wp2;go_ret
 exact zAf.mk (zBy HLC.o) (zAb HB1.o nd)
theorem lowP_scale{k x y:Nat}(h:0<k):zBX (k*x) (k*y)=zBX x y:=by
 unfold zBX;rw[Nat.gcd_mul_left,Nat.mul_div_mul_left _ _ h,Nat.mul_div_mul_left _ _ h]
theorem addP_same(n m d:Nat)(h:0<d):addP (n,d) (m,d)=zBX (n+m) d:=by
 unfold addP;show zBX (n*d+m*d) (d*d)=_
 rw[<-cX,cV,lowP_scale h]
theorem zDb(a b:Nat):(zAc H (a*b)).length<=(zAc H a).length+(zAc H b).length:=by
 refine zBa zAC ?_;rw[dV];have h1:=zBu zAC a;have h2:=zBu zAC b;exact cY (dC a (dD h2)) (dY h1 (Nat.pow_pos zCq))
theorem len_add(a b:Nat):(zAc H (a+b)).length<=max (zAc H a).length (zAc H b).length+1:=by
 refine zBa zAC ?_;have h1:=zBu zAC a;have h2:=zBu zAC b;have h3:H^(zAc H a).length<=H^max (zAc H a).length (zAc H b).length:=dI zCq (Nat.le_max_left _ _);have h4:H^(zAc H b).length<=H^max (zAc H a).length (zAc H b).length:=dI zCq (Nat.le_max_right _ _);rw[cT];have h5:=dC (H^max (zAc H a).length (zAc H b).length) (show 2<=H by decide);omega
abbrev raC(A:OA)(c n:Nat)(Z:OA)(c2 d:Nat):Array Value:=#[.bool false,.slice A (zAc H n).length c,.slice Z (zAc H d).length c2]
theorem RCmp_c(A Z A3 A4:OA)(c c2 c3 c4 n d m e:Nat)(w:World)(h:Nt w A c n)(h2:Nt w Z c2 d)(h3:Nt w A3 c3 m)(h4:Nt w A4 c4 e)(J:(zAc H n).length<=100000000)(hd:(zAc H d).length<=100000000)(hm:(zAc H m).length<=100000000)(he:(zAc H e).length<=100000000): Calls Tryz.prog 48 #[raV false A c n Z c2 d,raV false A3 c3 m A4 c4 e] w (zAf (.int .i64 (zDj (n*e) (m*d))) w):=by
 have HM1:=zq (fun W (q:Nt W A c n) (q2:Nt W A4 c4 e)=>IMul_c A A4 c c4 n e W q q2 za za);have HM2:=zq (fun W (q:Nt W A3 c3 m) (q2:Nt W Z c2 d)=>IMul_c A3 Z c3 c2 m d W q q2 za za);have HL:Hid ((zAc H (n*e)).length<=400000000):=dX (zDb n e) za;obtain⟨p,hp⟩:∃p,n*e=p:=⟨_,rfl⟩;obtain⟨q,hq⟩:∃q,m*d=q:=⟨_,rfl⟩;rw[hp]at HM1 HL ⊢;rw[hq]at HM2 ⊢;clear hp hq;have HK:=zq (fun(A5:OA) c5 (A6:OA) c6 W (x:Nt W A5 c5 p) (y:Nt W A6 c6 q)=>ICmp_c A5 A6 c5 c6 p q W x y HL.o);have HX:Hid (Bx ((w.alloc (.cells (raC A c n Z c2 d) 86)).alloc (.cells (raC A3 c3 m A4 c4 e) 86)) w.heap.size (raC A c n Z c2 d) 86):=(Bx.new _ _ _).alloc _;have HY:Hid (Bx ((w.alloc (.cells (raC A c n Z c2 d) 86)).alloc (.cells (raC A3 c3 m A4 c4 e) 86)) (w.heap.size+1) (raC A3 c3 m A4 c4 e) 86):=Bx.new1 _ _ _ _;have HB:Hid (Below w.heap.size w ((w.alloc (.cells (raC A c n Z c2 d) 86)).alloc (.cells (raC A3 c3 m A4 c4 e) 86))):=((aR w.heap.size w).alloc (aK _) _).alloc ze _;clear J hd hm he
 go_enter Tryz.func48,Tryz.ntmps48;go_wp2
 go_region_held3 (fun w'=>(w'.cell? ⟨w.heap.size,0,none⟩=some (.bool false)/\w'.cell? ⟨w.heap.size,1,none⟩=some (.slice A (zAc H n).length c)/\w'.cell? ⟨w.heap.size,2,none⟩=some (.slice Z (zAc H d).length c2))/\(w'.cell? ⟨w.heap.size+1,0,none⟩=some (.bool false)/\w'.cell? ⟨w.heap.size+1,1,none⟩=some (.slice A3 (zAc H m).length c3)/\w'.cell? ⟨w.heap.size+1,2,none⟩=some (.slice A4 (zAc H e).length c4)))
  ((refine⟨⟨?_,?_,?_⟩,?_,?_,?_⟩<;>first|with_reducible assumption|go_simp))
  (first
   |((go_at_call 101;(with_reducible refine(HM1.o _ (Nt.drew ((h.alloc _).alloc _)) (Nt.drew ((h4.alloc _).alloc _))).mono ?_);rintro e1 w1⟨A5,c5,rfl,h5,I⟩;have X:=zq (HX.o.drew.below I);have HY1:=zq (HY.o.drew.below I);have HB1:=zq ((zAb HB.o 1).trans (I.mono HB.o.size));obtain⟨a0,a1,a2⟩:=X.o.t;obtain⟨b0,b1,b2⟩:=HY1.o.t;have h31:=(Nt.drew ((h3.alloc _).alloc _)).below I;have h21:=(Nt.drew ((h2.alloc _).alloc _)).below I;clear I))
   |((go_at_call 101;(with_reducible refine(HM2.o _ h31 h21).mono ?_);rintro e2 w2⟨A6,c6,rfl,h6,hb6⟩;have h52:=h5.below hb6;have HX2:=zq (X.o.below hb6);have HY2:=zq (HY1.o.below hb6);have HB2:=zq (zAa HB1.o hb6);clear a0 a1 a2 b0 b1 b2;obtain⟨a0,a1,a2⟩:=HX2.o.t;obtain⟨b0,b1,b2⟩:=HY2.o.t;clear hb6))
   |((go_at_call 102;(with_reducible refine(HK.o _ _ _ _ _ h52 h6).mono ?_);rintro e3 w3⟨rfl,hb7⟩;have HB3:=zq (zAa HB2.o hb7);have HX3:=zq (HX2.o.below hb7);have HY3:=zq (HY2.o.below hb7);clear a0 a1 a2 b0 b1 b2;obtain⟨a0,a1,a2⟩:=HX3.o.t;obtain⟨b0,b1,b2⟩:=HY3.o.t;clear hb7)))
 go_wp2;go_ret
 exact zAf.mk rfl HB3.o
theorem RAdd_same(A Z A3 A4:OA)(c c2 c3 c4 n d m e:Nat)(w:World)(h:Nt w A c n)(h2:Nt w Z c2 d)(h3:Nt w A3 c3 m)(h4:Nt w A4 c4 e)(J:(zAc H n).length<=100000000)(hd:(zAc H d).length<=100000000)(hm:(zAc H m).length<=100000000)(he:(zAc H e).length<=100000000)(hd0:0<d)(he0:0<e)(hde:d=e): Calls Tryz.prog 100 #[raV false A c n Z c2 d,raV false A3 c3 m A4 c4 e] w (zCz false (addP (n,d) (m,e)).1 (addP (n,d) (m,e)).2 w):=by
 subst hde;rw[addP_same n m d hd0];have HC:=zq (fun W (x:Nt W Z c2 d) (y:Nt W A4 c4 d)=>Cmp_c Z A4 c2 c4 d d W x y za);have HA:=zq (fun W (x:Nt W A c n) (y:Nt W A3 c3 m)=>IAdd_c A A3 c c3 n m W x y za za);have HO:=zq (fun A5 c5 W (x:Nt W A5 c5 (n+m)) (y:Nt W Z c2 d)=>Over_c A5 Z c5 c2 (n+m) d false W x y hd0 (by have:=len_add n m;omega) za);rw[zCL rfl]at HC;simp only[eK]at HO;generalize (zBX (n+m) d).1=pp at *;generalize (zBX (n+m) d).2=pq at *;generalize n+m=nm at *;have G:Hid (Bx (((w.alloc (.cells (raC A c n Z c2 d) 86)).alloc (.cells (raC A3 c3 m A4 c4 d) 86)).alloc (.cells zCc 86)) w.heap.size (raC A c n Z c2 d) 86):=((Bx.new _ _ _).alloc _).alloc _;have Q:Hid (Bx (((w.alloc (.cells (raC A c n Z c2 d) 86)).alloc (.cells (raC A3 c3 m A4 c4 d) 86)).alloc (.cells zCc 86)) (w.heap.size+1) (raC A3 c3 m A4 c4 d) 86):=(Bx.new1 _ _ _ _).alloc _;have HZ0:Hid (Bx (((w.alloc (.cells (raC A c n Z c2 d) 86)).alloc (.cells (raC A3 c3 m A4 c4 d) 86)).alloc (.cells zCc 86)) (w.heap.size+1+1) zCc 86):=Bx.new2 _ _ _ _ _;have HB0:Hid (Below w.heap.size w (((w.alloc (.cells (raC A c n Z c2 d) 86)).alloc (.cells (raC A3 c3 m A4 c4 d) 86)).alloc (.cells zCc 86))):=(((aR w.heap.size w).alloc (aK _) _).alloc ze _).alloc zg _;obtain⟨W,hW⟩:∃W,W=(((w.alloc (.cells (raC A c n Z c2 d) 86)).alloc (.cells (raC A3 c3 m A4 c4 d) 86)).alloc (.cells zCc 86)):=⟨_,rfl⟩;have g1:Nt W A c n:=ym;have g2:Nt W Z c2 d:=yi;have g3:Nt W A3 c3 m:=yj;have g4:Nt W A4 c4 d:=yk;rw[<-hW]at G Q HZ0 HB0;clear J hd hm he hd0 he0
 go_enter Tryz.func100,Tryz.ntmps100;(go_wp2_with fail);rw[<-hW];clear hW;obtain⟨x0,x1,x2⟩:=G.o.t;obtain⟨y0,y1,y2⟩:=Q.o.t;have z0:=HZ0.o.frozen;have z1:=HZ0.o.lt;(go_wp2_with fail);(with_reducible refine(HC.o _ g2 g4).mono ?_);rintro e0 w0⟨rfl,nd,rfl⟩;clear x0 x1 x2 y0 y1 y2 z0 z1;have HX:=zq (G.o.drewN (nd+1));have HY:=zq (Q.o.drewN (nd+1));have HZ:=zq (HZ0.o.drewN (nd+1));have HB:=zq (zAb HB0.o (nd+1));obtain⟨x0,x1,x2⟩:=HX.o.t;obtain⟨y0,y1,y2⟩:=HY.o.t;clear G Q HZ0 HB0;go_wp2
 go_region_held3 (fun w'=>(w'.cell? ⟨w.heap.size,0,none⟩=some (.bool false)/\w'.cell? ⟨w.heap.size,1,none⟩=some (.slice A (zAc H n).length c)/\w'.cell? ⟨w.heap.size,2,none⟩=some (.slice Z (zAc H d).length c2))/\(w'.cell? ⟨w.heap.size+1,0,none⟩=some (.bool false)/\w'.cell? ⟨w.heap.size+1,1,none⟩=some (.slice A3 (zAc H m).length c3)/\w'.cell? ⟨w.heap.size+1,2,none⟩=some (.slice A4 (zAc H d).length c4)))
  ((refine⟨⟨?_,?_,?_⟩,?_,?_,?_⟩<;>first|with_reducible assumption|go_simp))
  (first
   |((go_at_call 165;(with_reducible refine(HA.o _ (g1.drewN (nd+1)) (g3.drewN (nd+1))).mono ?_);rintro e1 w1⟨A5,c5,rfl,h5,hb1⟩;have X:=zq (HX.o.below hb1);have HY1:=zq (HY.o.below hb1);have HZ1:=zq (HZ.o.below hb1);have HB1:=zq (HB.o.trans (hb1.mono HB.o.size));have g21:=(g2.drewN (nd+1)).below hb1;obtain⟨a0,a1,a2⟩:=X.o.t;obtain⟨b0,b1,b2⟩:=HY1.o.t;clear hb1))
   |((go_at_call 164;(with_reducible refine(HO.o _ _ _ h5 g21).mono ?_);rintro e2 w2⟨A6,c6,A7,c7,rfl,h6,h7,D⟩;have HX2:=zq (X.o.below D);have HY2:=zq (HY1.o.below D);have HZ2:=zq (HZ1.o.below D);have HB2:=zq (zAa HB1.o D);clear a0 a1 a2 b0 b1 b2;obtain⟨a0,a1,a2⟩:=HX2.o.t;obtain⟨b0,b1,b2⟩:=HY2.o.t;obtain⟨r0,r1,r2⟩:=HZ2.o.t;have fr:=HZ2.o.frozen;have rl:=HZ2.o.lt;clear D)))
 clear HX HY HZ HB;go_wp2;refine aC (v:=raV false A6 c6 pp A7 c7 pq) qg rfl ⟨A6,c6,A7,c7,rfl,h6.setR HZ2.o _ _ _,h7.setR HZ2.o _ _ _,?_⟩
 exact((HB2.o.setCell zg _).setCell zg _).setCell zg _
theorem RAdd_diff(A Z A3 A4:OA)(c c2 c3 c4 n d m e:Nat)(w:World)(h:Nt w A c n)(h2:Nt w Z c2 d)(h3:Nt w A3 c3 m)(h4:Nt w A4 c4 e)(J:(zAc H n).length<=100000000)(hd:(zAc H d).length<=100000000)(hm:(zAc H m).length<=100000000)(he:(zAc H e).length<=100000000)(hd0:0<d)(he0:0<e)(hde:d≠e): Calls Tryz.prog 100 #[raV false A c n Z c2 d,raV false A3 c3 m A4 c4 e] w (zCz false (addP (n,d) (m,e)).1 (addP (n,d) (m,e)).2 w):=by
 have HC:=zq (fun W (x:Nt W Z c2 d) (y:Nt W A4 c4 e)=>Cmp_c Z A4 c2 c4 d e W x y za)
 have hk:(zDj d e == 0)=false:=by
  exact tei
 have l1:=zDb n e;have l2:=zDb m d;have l3:=zDb d e;have l4:=len_add (n*e) (m*d);have HM1:=zq (fun W (x:Nt W A c n) (y:Nt W A4 c4 e)=>IMul_c A A4 c c4 n e W x y za za);have HM2:=zq (fun W (x:Nt W A3 c3 m) (y:Nt W Z c2 d)=>IMul_c A3 Z c3 c2 m d W x y za za);have HM3:=zq (fun W (x:Nt W Z c2 d) (y:Nt W A4 c4 e)=>Mul_c Z A4 c2 c4 d e W x y za za);have HA:=zq (fun A5 c5 A6 c6 W (x:Nt W A5 c5 (n*e)) (y:Nt W A6 c6 (m*d))=>IAdd_c A5 A6 c5 c6 (n*e) (m*d) W x y za za);have HO:=zq (fun A5 c5 A6 c6 W (x:Nt W A5 c5 (n*e+m*d)) (y:Nt W A6 c6 (d*e))=>Over_c A5 A6 c5 c6 (n*e+m*d) (d*e) false W x y (dZ hd0 he0) za za);simp only[eK]at HO;have hap:addP (n,d) (m,e)=zBX (n*e+m*d) (d*e):=rfl;rw[hap];clear hap l1 l2 l3 l4;generalize (zBX (n*e+m*d) (d*e)).1=pp at *;generalize (zBX (n*e+m*d) (d*e)).2=pq at *;generalize n*e=p1 at *;generalize m*d=p2 at *;generalize d*e=p3 at *;generalize p1+p2=p4 at *;generalize zDj d e=cz at *;have G:Hid (Bx (((w.alloc (.cells (raC A c n Z c2 d) 86)).alloc (.cells (raC A3 c3 m A4 c4 e) 86)).alloc (.cells zCc 86)) w.heap.size (raC A c n Z c2 d) 86):=((Bx.new _ _ _).alloc _).alloc _;have Q:Hid (Bx (((w.alloc (.cells (raC A c n Z c2 d) 86)).alloc (.cells (raC A3 c3 m A4 c4 e) 86)).alloc (.cells zCc 86)) (w.heap.size+1) (raC A3 c3 m A4 c4 e) 86):=(Bx.new1 _ _ _ _).alloc _;have HZ0:Hid (Bx (((w.alloc (.cells (raC A c n Z c2 d) 86)).alloc (.cells (raC A3 c3 m A4 c4 e) 86)).alloc (.cells zCc 86)) (w.heap.size+1+1) zCc 86):=Bx.new2 _ _ _ _ _;have HB0:Hid (Below w.heap.size w (((w.alloc (.cells (raC A c n Z c2 d) 86)).alloc (.cells (raC A3 c3 m A4 c4 e) 86)).alloc (.cells zCc 86))):=(((aR w.heap.size w).alloc (aK _) _).alloc ze _).alloc zg _;obtain⟨W,hW⟩:∃W,W=(((w.alloc (.cells (raC A c n Z c2 d) 86)).alloc (.cells (raC A3 c3 m A4 c4 e) 86)).alloc (.cells zCc 86)):=⟨_,rfl⟩;have g1:Nt W A c n:=ym;have g2:Nt W Z c2 d:=yi;have g3:Nt W A3 c3 m:=yj;have g4:Nt W A4 c4 e:=yk;rw[<-hW]at G Q HZ0 HB0;clear J hd hm he hd0 he0 hde
 go_enter Tryz.func100,Tryz.ntmps100;(go_wp2_with fail);rw[<-hW];clear hW;obtain⟨x0,x1,x2⟩:=G.o.t;obtain⟨y0,y1,y2⟩:=Q.o.t;have z0:=HZ0.o.frozen;have z1:=HZ0.o.lt;(go_wp2_with fail);(with_reducible refine(HC.o _ g2 g4).mono ?_);rintro e0 w0⟨rfl,nd,rfl⟩;clear x0 x1 x2 y0 y1 y2 z0 z1;have HX:=zq (G.o.drewN (nd+1));have HY:=zq (Q.o.drewN (nd+1));have HZ:=zq (HZ0.o.drewN (nd+1));have HB:=zq (zAb HB0.o (nd+1));obtain⟨x0,x1,x2⟩:=HX.o.t;obtain⟨y0,y1,y2⟩:=HY.o.t;clear G Q HZ0 HB0;go_wp2
 go_region_held3 (fun w'=>(w'.cell? ⟨w.heap.size,0,none⟩=some (.bool false)/\w'.cell? ⟨w.heap.size,1,none⟩=some (.slice A (zAc H n).length c)/\w'.cell? ⟨w.heap.size,2,none⟩=some (.slice Z (zAc H d).length c2))/\(w'.cell? ⟨w.heap.size+1,0,none⟩=some (.bool false)/\w'.cell? ⟨w.heap.size+1,1,none⟩=some (.slice A3 (zAc H m).length c3)/\w'.cell? ⟨w.heap.size+1,2,none⟩=some (.slice A4 (zAc H e).length c4)))
  ((refine⟨⟨?_,?_,?_⟩,?_,?_,?_⟩<;>first|with_reducible assumption|go_simp))
  (first
   |((go_at_call 101;(with_reducible refine(HM1.o _ (g1.drewN (nd+1)) (g4.drewN (nd+1))).mono ?_);rintro e1 w1⟨A5,c5,rfl,h5,hb1⟩;have X:=zq (HX.o.below hb1);have HY1:=zq (HY.o.below hb1);have HZ1:=zq (HZ.o.below hb1);have HB1:=zq (HB.o.trans (hb1.mono HB.o.size));have g21:=(g2.drewN (nd+1)).below hb1;have g31:=(g3.drewN (nd+1)).below hb1;have g41:=(g4.drewN (nd+1)).below hb1;obtain⟨a0,a1,a2⟩:=X.o.t;obtain⟨b0,b1,b2⟩:=HY1.o.t;clear hb1))
   |((go_at_call 101;(with_reducible refine(HM2.o _ g31 g21).mono ?_);rintro e2 w2⟨A6,c6,rfl,h6,D⟩;have HX2:=zq (X.o.below D);have HY2:=zq (HY1.o.below D);have HZ2:=zq (HZ1.o.below D);have HB2:=zq (zAa HB1.o D);have h52:=h5.below D;have g22:=g21.below D;have g42:=g41.below D;clear a0 a1 a2 b0 b1 b2;obtain⟨a0,a1,a2⟩:=HX2.o.t;obtain⟨b0,b1,b2⟩:=HY2.o.t;clear D))
   |((go_at_call 165;(with_reducible refine(HA.o _ _ _ _ _ h52 h6).mono ?_);rintro e3 w3⟨A7,c7,rfl,h7,hb3⟩;have HX3:=zq (HX2.o.below hb3);have HY3:=zq (HY2.o.below hb3);have HZ3:=zq (HZ2.o.below hb3);have HB3:=zq (zAa HB2.o hb3);have g23:=g22.below hb3;have g43:=g42.below hb3;clear a0 a1 a2 b0 b1 b2;obtain⟨a0,a1,a2⟩:=HX3.o.t;obtain⟨b0,b1,b2⟩:=HY3.o.t;clear hb3))
   |((go_at_call 166;(with_reducible refine(HM3.o _ g23 g43).mono ?_);rintro e4 w4⟨A8,c8,rfl,h8,hb4⟩;have HX4:=zq (HX3.o.below hb4);have HY4:=zq (HY3.o.below hb4);have HZ4:=zq (HZ3.o.below hb4);have HB4:=zq (zAa HB3.o hb4);have h74:=h7.below hb4;clear a0 a1 a2 b0 b1 b2;obtain⟨a0,a1,a2⟩:=HX4.o.t;obtain⟨b0,b1,b2⟩:=HY4.o.t;clear hb4))
   |((go_at_call 164;(with_reducible refine(HO.o _ _ _ _ _ h74 h8).mono ?_);rintro e5 w5⟨A9,c9,AD,cE,rfl,h9,hF,hb5⟩;have HX5:=zq (HX4.o.below hb5);have HY5:=zq (HY4.o.below hb5);have HZ5:=zq (HZ4.o.below hb5);have HB5:=zq (zAa HB4.o hb5);clear a0 a1 a2 b0 b1 b2;obtain⟨a0,a1,a2⟩:=HX5.o.t;obtain⟨b0,b1,b2⟩:=HY5.o.t;obtain⟨r0,r1,r2⟩:=HZ5.o.t;have fr:=HZ5.o.frozen;have rl:=HZ5.o.lt;clear hb5)))
 clear HX HY HZ HB;go_wp2;refine aC (v:=raV false A9 c9 pp AD cE pq) qg rfl ⟨A9,c9,AD,cE,rfl,h9.setR HZ5.o _ _ _,hF.setR HZ5.o _ _ _,?_⟩
 exact((HB5.o.setCell zg _).setCell zg _).setCell zg _
theorem RAdd_c(A Z A3 A4:OA)(c c2 c3 c4 n d m e:Nat)(w:World)(h:Nt w A c n)(h2:Nt w Z c2 d)(h3:Nt w A3 c3 m)(h4:Nt w A4 c4 e)(J:(zAc H n).length<=100000000)(hd:(zAc H d).length<=100000000)(hm:(zAc H m).length<=100000000)(he:(zAc H e).length<=100000000)(hd0:0<d)(he0:0<e): Calls Tryz.prog 100 #[raV false A c n Z c2 d,raV false A3 c3 m A4 c4 e] w (zCz false (addP (n,d) (m,e)).1 (addP (n,d) (m,e)).2 w):=by
 by_cases hde:d=e
 ·exact RAdd_same A Z A3 A4 c c2 c3 c4 n d m e w h h2 h3 h4 J hd hm he hd0 he0 hde
 ·exact RAdd_diff A Z A3 A4 c c2 c3 c4 n d m e w h h2 h3 h4 J hd hm he hd0 he0 hde
theorem zDy:(⟨#[48]⟩:BA).toList=[48]:=by rw[Dw.toList_eq]
theorem zAQ{s:BA}(h:zCG s=true):s.data.toList.all dgB=true/\1<=s.size:=by
 unfold zCG at h;simp only[eE,Bool.or_eq_true,bX]at h;refine⟨h.1,?_⟩
 rcases h.2 with h2|h2<;>omega
def DigRel(w:World)(s:BA)(m:Nat)(iv:Value)(wr:World):Prop:=
 wr=w/\∃k:Nat,k+m=s.size/\iv=.int .i64 k/\(s.data.toList.take k).all dgB=true
theorem all_take_succ{s:BA}{k:Nat}(hk:k<s.size)(h:(s.data.toList.take k).all dgB=true)(h2:dgB s[k]=true):(s.data.toList.take (k+1)).all dgB=true:=by
 rw[aG (by simpa using hk),eD,h,zCR s k hk];simp[h2]
theorem not_all{s:BA}{k:Nat}(hk:k<s.size)(h2:dgB s[k]=false):s.data.toList.all dgB=false:=by
 rw[List.all_eq_false];exact⟨s[k],by rw[<-zCR s k hk];exact aH _,by simp[h2]⟩
theorem digits_c(s:BA)(w:World)(hs:s.size<=9223372036854775807):Calls Tryz.prog 263 #[.string s] w (zAG (.bool (zCG s)) w):=by
 go_enter Tryz.func263,Tryz.ntmps263;go_wp2
 go_loopg[6] s.size (DigRel w s)
 case atStart=>exact⟨rfl,0,za,rfl,rfl⟩
 case round =>
  obtain⟨hw,k,hkm,rfl,F⟩:=hrel;subst hw;have HM:=zq hkm;have HA:=zq F;clear hkm F
  by_cases Y:k<s.size
  ·by_cases h1:s[k].toNat<48
   ·have HD:=zq (not_all Y (show dgB s[k]=false by unfold dgB;simp;omega))
    go_wp2;go_ret
    refine zAG.mk (zBy ?_) rfl;unfold zCG;rw[HD.o];rfl
   ·by_cases h2:57<s[k].toNat
    ·have HD:=zq (not_all Y (show dgB s[k]=false by unfold dgB;simp;omega))
     have h1b:(48:Int)<=(s[k].toNat:Int):=za;go_wp2;go_ret
     refine zAG.mk (zBy ?_) rfl;unfold zCG;rw[HD.o];rfl
    ·have HD:=zq (all_take_succ Y HA.o (show dgB s[k]=true by unfold dgB;simp;omega))
     have h1b:(48:Int)<=(s[k].toNat:Int):=za;have h2b:(s[k].toNat:Int)<=57:=za;go_wp2
     go_roundg (gk-1)
     case measure=>have:=HM.o;omega
     case rel=>exact⟨rfl,k+1,yg,zi,HD.o⟩
  ·obtain rfl:k=s.size:=by have:=HM.o;omega
   have HALL:Hid (s.data.toList.all dgB=true):=by
    show _=_
    have:=HA.o
    rwa [bT ze]at this
   have hr:zCG s=(decide (s.size=1) || decide (1<s.size)&&decide ((s.data.toList.headD 0).toNat≠48)):=by
    unfold zCG;rw[HALL.o];rfl
   rcases bI s.size with h0|h0
   ·have he:s=emp:=by
     apply Dw.toList_inj
     rw[Dw.toList_eq,Dw.toList_eq,eB (l:=s.data.toList) (by simpa using h0)]
     rfl
    have hv:zCG s=false:=by rw[hr,h0];rfl
    rw[hv];have q1:=zAr he;have q2:(s.toList == [48])=false:=by rw[<-zDy];exact zAp (by rw[he];decide)
    have HV:=zq hv;clear hr hv he;exact tfv
   ·have hne:s≠emp:=fun e=>by rw[e]at h0;exact absurd h0 zd
    have q1:=zAq hne
    by_cases hz:s=zCH
    ·have hv:zCG s=true:=by rw[hz];decide +kernel
     rw[hv];have q2:(s.toList == [48])=true:=by rw[<-zDy];exact zAn hz
     have HV:=zq hv;clear hr hv hz hne;exact tfv
    ·have q2:(s.toList == [48])=false:=by rw[<-zDy];exact zAp hz
     have hd0:s.data.toList.headD 0=s[0]:=zDp s h0
     by_cases hh:s[0].toNat=48
     ·have h1:s.size≠1:=fun e=>hz (by
       apply Dw.toList_inj
       rw[Dw.toList_eq,Dw.toList_eq]
       apply List.ext_getElem
       ·simp[zCH,e]
       ·intro i hi1 hi2
        obtain rfl:i=0:=by simp[e]at hi1;omega
        rw[zCR s 0 h0];have:s[0]=48:=UInt8.toNat_inj.1 (by simpa using hh);rw[this];rfl)
      have hv:zCG s=false:=by rw[hr,hd0,hh];simp[h1]
      have q3:((s[0].toNat:Int) != 48)=false:=by simp[hh]
      rw[hv];have HV:=zq hv;clear hr hv hz hne hh hd0 h1;exact tfv
     ·have hv:zCG s=true:=by
       rw[hr,hd0]
       rcases aI 1 s.size with h|h
       ·simp[h,hh]
       ·have:s.size=1:=by omega
        simp[this]
      have q3:((s[0].toNat:Int) != 48)=true:=zg;rw[hv];have HV:=zq hv;clear hr hv hz hne hh hd0;exact tfv
theorem len_val{s:BA}(h:s.data.toList.all dgB=true)(hs:s.size<=2000):(zAc H (zAy s)).length<=2000:=by
 have h1:=decV_dg h;have h2:10^s.data.toList.length<=H^s.data.toList.length:=Nat.pow_le_pow_left zd _;have h3:=zBa zAC (aB h1 h2);have h4:s.data.toList.length=s.size:=ze;unfold zAy;omega
theorem den_pos{s:BA}(h:zCG s=true)(hz:s≠zCH):0<zAy s:=by
 obtain⟨h1,h2⟩:=zAQ h;unfold zCG at h;rw[h1]at h;simp only[eL,Bool.or_eq_true,bX,eE]at h;have hd0:s.data.toList.headD 0=s[0]:=zDp s za
 have hne:s[0].toNat≠48:=by
  rcases h with h|⟨_,h⟩
  ·intro e
   apply hz
   apply Dw.toList_inj
   rw[Dw.toList_eq,Dw.toList_eq]
   apply List.ext_getElem
   ·simp[zCH,h]
   ·intro i hi1 hi2
    obtain rfl:i=0:=by simp[h]at hi1;omega
    rw[zCR s 0 za];have:s[0]=48:=UInt8.toNat_inj.1 (by simpa using e);rw[this];rfl
  ·rwa [hd0]at h
 have hdg:=dgB_of (List.all_eq_true.1 h1 s[0] (by rw[<-zCR s 0 za];exact aH _));unfold zAy;rw[decV_cut s.data.toList 1]
 have e1:s.data.toList.take 1=[s[0]]:=by
  rw[aG zg,zCR s 0 za];rfl
 have e2:zBL [s[0]]=s[0].toNat-48:=by simp[zBL]
 rw[e1,e2];have h3:1*10^(s.data.toList.length-1)<=(s[0].toNat-48)*10^(s.data.toList.length-1):=cC _ za;have h4:0<10^(s.data.toList.length-1):=Nat.pow_pos za;omega
theorem CheckRatio_c(nu de:BA)(w:World)(hs:(zAU nu).size<=9223372036854775807)(hs2:de.size<=9223372036854775807): Calls Tryz.prog 198 #[.agg #[.string nu,.string de]] w (zAf (.int .i64 (zDg nu de)) w):=by
 generalize C:zDg nu de=res;have HR:=zq C;clear C;unfold zDg at HR;have HB0:Hid (Below w.heap.size w (w.alloc (.cells #[.string nu,.string de] 36))):=(aR w.heap.size w).alloc (aK _) _;have HC:=zq (fun W=>cut_c nu W);have m:=zq (fun W=>digits_c (zAU nu) W hs);have HD2:=zq (fun W=>digits_c de W hs2);have HF:=zq (fun(h1:zCG (zAU nu)=true)(h2:zCG de=true)(h3:(zAU nu).size<=2000)(h4:de.size<=2000) W=>From_c nu de W (zAQ h1).1 h3 (zAQ h2).1 h4)
 have HL:=zq (fun(h1:zCG (zAU nu)=true)(h2:zCG de=true)(hz:de≠zCH)(h3:(zAU nu).size<=2000)(h4:de.size<=2000) A c Z c2 W (x:Nt W A c (zAy (zAU nu))) (y:Nt W Z c2 (zAy de)) =>
  Lowest_c (sgB nu) A Z c c2 (zAy (zAU nu)) (zAy de) W x y (den_pos h2 hz) (dX (len_val (zAQ h1).1 h3) za) (dX (len_val (zAQ h2).1 h4) za))
 go_enter Tryz.func198,Tryz.ntmps198;(go_wp2_with fail);(with_reducible refine(HC.o _).mono ?_);rintro e w1⟨rfl,rfl⟩;(go_wp2_with fail);(with_reducible refine(m.o _).mono ?_);rintro e w1⟨rfl,rfl⟩
 cases h1:zCG (zAU nu)with
 |false =>
  have HS:Hid (res=3):=by show _=_;rw[<-HR.o,aF (.inl h1)]
  clear h1;exact tfp
 |true =>
  by_cases h2:zDf nu=true/\zAU nu=zCH
  ·have HS:Hid (res=3):=by show _=_;rw[<-HR.o,aF (.inr (.inl h2))]
   have q1:=h2.1;have q2:((zAU nu).toList == [48])=true:=by rw[<-zDy];exact zAn h2.2
   rw[q1];clear h1 h2 q1;exact tfp
  ·have HQ:Hid (zDf nu=false\/((zAU nu).toList == [48])=false):=by
    show _\/_
    by_cases h3:zDf nu=true
    ·exact .inr (by rw[<-zDy];exact zAp fun e=>h2 ⟨h3,e⟩)
    ·exact .inl jk
   have hr1:=HR.o
   have HR1:Hid ((if zCG de=false\/de=zCH then 3 else if 2000<(zAU nu).size\/2000<de.size then 2 else if Nat.gcd (zAy (zAU nu)) (zAy de)=1 then 0 else 3)=res):=by
    show _=_
    rw[<-hr1]
    by_cases h4:zCG de=false\/de=zCH
    ·rw[aF h4,aF (.inr (.inr h4))]
    ·have hno:¬(zCG (zAU nu)=false\/(zDf nu=true/\zAU nu=zCH)\/zCG de=false\/de=zCH):=by
      rintro(h|h|h)
      ·rw[h1]at h;cases h
      ·exact h2 h
      ·exact h4 h
     rw[aO h4,aO hno]
   have H1:=zq h1;clear hr1 HR h2 h1 m HC
   rcases HQ.o with q|q
   case' inr=>cases hng:zDf nu
   case' inl=>rw[q]
   all_goals
    clear HQ;(go_wp2_with fail);(with_reducible refine(HD2.o _).mono ?_);rintro e w1⟨rfl,rfl⟩
    cases h3:zCG de with
    |false =>
     have HS:Hid (res=3):=by show _=_;rw[<-HR1.o,aF (.inl h3)]
     clear h3;exact tfp
    |true =>
     by_cases h4:de=zCH
     ·have HS:Hid (res=3):=by show _=_;rw[<-HR1.o,aF (.inr h4)]
      have q2:(de.toList == [48])=true:=by rw[<-zDy];exact zAn h4
      exact te5
     ·have q2:(de.toList == [48])=false:=by rw[<-zDy];exact zAp h4
      have HR2:Hid ((if 2000<(zAU nu).size\/2000<de.size then 2 else if Nat.gcd (zAy (zAU nu)) (zAy de)=1 then 0 else 3)=res):=by
       show _=_
       have hno:¬(zCG de=false\/de=zCH):=by
        rintro(h|h)
        ·rw[h3]at h;cases h
        ·exact h4 h
       rw[<-HR1.o,aO hno]
      by_cases h5:2000<(zAU nu).size
      ·have HS:Hid (res=2):=by show _=_;rw[<-HR2.o,aF (.inl h5)]
       exact te5
      ·by_cases h6:2000<de.size
       ·have HS:Hid (res=2):=by show _=_;rw[<-HR2.o,aF (.inr h6)]
        exact te5
       ·have HR3:Hid ((if Nat.gcd (zAy (zAU nu)) (zAy de)=1 then (0:Int) else 3)=res):=by
         show _=_
         rw[<-HR2.o,aO (show ¬(2000<(zAU nu).size\/2000<de.size) by omega)]
        have HF2:=zq (HF.o H1.o h3 za za);have HL2:=zq (HL.o H1.o h3 h4 za za);clear h3 h4;(go_wp2_with fail);(with_reducible refine(HF2.o _).mono ?_);rintro e w2⟨A5,c5,A6,c6,rfl,h7,h8,D⟩;have HB2:=zq (HB0.o.trans (D.mono HB0.o.size));clear D;(go_wp2_with fail);(with_reducible refine(HL2.o A5 c5 A6 c6 _ h7 h8).mono ?_);rintro e w3⟨rfl,hb3⟩;have HB3:=zq (zAa HB2.o hb3);clear hb3 HF HL HF2 HL2 HB2
        by_cases h9:Nat.gcd (zAy (zAU nu)) (zAy de)=1
        ·have HS:Hid (res=0):=by show _=_;rw[<-HR3.o,aF h9]
         have hlb:lowB (zAy (zAU nu)) (zAy de)=true:=by unfold lowB;exact aD h9
         rw[hlb];clear h9 hlb;go_wp2;go_ret
         exact zAf.mk (zBF HS.o.symm) HB3.o
        ·have HS:Hid (res=3):=by show _=_;rw[<-HR3.o,aO h9]
         have hlb:lowB (zAy (zAU nu)) (zAy de)=false:=by unfold lowB;exact aE h9
         rw[hlb];clear h9 hlb;go_wp2;go_ret
         exact zAf.mk (zBF HS.o.symm) HB3.o
def posS(l:List BA)(s:BA):Int:=match l.findIdx? fun x=>decide (x=s)with
 |some i=>i
 |none=>-1
theorem posS_mem(l:List BA)(s:BA):decide ((0:Int)<=posS l s)=zCU l s:=by
 unfold posS zCU
 cases h:l.findIdx? fun x=>decide (x=s)with
 |none =>
  have:(l.any fun x=>decide (x=s))=false:=by
   rw[bC];intro x hx;have:=List.findIdx?_eq_none_iff.1 h x hx
   simpa using this
  rw[this];rfl
 |some i =>
  obtain⟨hi,hp,_⟩:=List.findIdx?_eq_some_iff_getElem.1 h;have:(l.any fun x=>decide (x=s))=true:=List.any_eq_true.2 ⟨l[i],aH hi,hp⟩;rw[this];simp
def PosIRel(w:World)(l:List BA)(s:BA)(m:Nat)(i:Value)(wr:World):Prop:=
 w=wr/\∃k:Nat,k+m=l.length/\i=.int .i64 k/\∀j (h:j<l.length),j<k->l[j]≠s
theorem indexS_c(A:OA)(c:Nat)(l:List BA)(s:BA)(w:World)(J:l.length<=1000000)(h:Strs w A l): Calls Tryz.prog 39 #[.slice A l.length c,.string s] w (zAG (.int .i64 (posS l s)) w):=by
 generalize C:posS l s=res;have HR:=zq C;clear C
 go_enter Tryz.func39,Tryz.ntmps39;go_wp2
 go_loopg[8] l.length (PosIRel w l s)
 case atStart=>exact⟨rfl,0,za,rfl,fun j _ hj=>absurd hj za⟩
 case round =>
  obtain⟨hw,k,hk,rfl,hpre⟩:=hrel;subst hw;have HK:=zq hk;have HP:=zq hpre;have hk1:k<=l.length:=za;clear hk hpre
  by_cases Y:k<l.length
  ·obtain⟨b,o,rfl,I,hc⟩:=h.at_ za
   have hc0:=hc k Y;clear hc
   by_cases hq:s=l[k]
   ·have hqb:=zAn hq
    have HQ:=zq hq;clear hq;go_wp2;go_ret
    refine zAG.mk (zBF ?_) rfl;rw[<-HR.o];unfold posS;rw[List.findIdx?_eq_some_iff_getElem.2 ⟨Y,by simp[HQ.o],fun j hj=>by simpa using HP.o j za hj⟩]
   ·have hqb:=zAp hq
    have HQ:=zq hq;clear hq;go_wp2
    go_roundg (gk-1)
    case measure=>have:=HK.o;omega
    case rel =>
     refine⟨rfl,k+1,zh,zi,fun j hj hjk=>?_⟩
     rcases aI j k with h1|h1
     ·exact HP.o j hj h1
     ·obtain rfl:j=k:=by omega
      exact fun e=>HQ.o e.symm
  ·go_wp2
   go_ret
   refine zAG.mk (zBF ?_) rfl;rw[<-HR.o];unfold posS
   rw[List.findIdx?_eq_none_iff.2 fun x hx=>by
    obtain⟨j,hj,rfl⟩:=bD hx
    simpa using HP.o j hj za]
theorem containsS_c(A:OA)(c:Nat)(l:List BA)(s:BA)(w:World)(J:l.length<=1000000)(h:Strs w A l): Calls Tryz.prog 12 #[.slice A l.length c,.string s] w (zAG (.bool (zCU l s)) w):=by
 have hm:=posS_mem l s;generalize zCU l s=res at *;have HM:=zq hm;clear hm
 go_enter Tryz.func12,Tryz.ntmps12
 go_wp2_with (go_at_call 39;refine(indexS_c _ _ _ _ _ J h).mono ?_;rintro e w' ⟨rfl,rfl⟩)
 go_ret
 exact zAG.mk (zBy HM.o) rfl
abbrev Ints:=Rd1 (fun n:Int=>Value.int .i64 n)
def cmpI(a b:Int):Int:=if a<b then -1 else if b<a then 1 else 0
theorem isNaN_c(a:Int)(w:World):Calls Tryz.prog 262 #[.int .i64 a] w (zAG (.bool false) w):=by
 have I:(a != a)=false:=ze
 go_enter Tryz.func262,Tryz.ntmps262;go_wp2;go_ret
 exact zAG.mk rfl rfl
theorem cmpI_c(a b:Int)(w:World):Calls Tryz.prog 197 #[.int .i64 a,.int .i64 b] w (zAG (.int .i64 (cmpI a b)) w):=by
 generalize C:cmpI a b=res;have HR:=zq C;clear C
 by_cases h1:a<b
 ·have HS:Hid (res=-1):=by
   show res=-1
   rw[<-HR.o];unfold cmpI;rw[aF h1]
  exact tcg
 ·by_cases h2:b<a
  ·have HS:Hid (res=1):=by
    show res=1
    rw[<-HR.o];unfold cmpI;rw[aO h1,aF h2]
   exact tcg
  ·have HS:Hid (res=0):=by
    show res=0
    rw[<-HR.o];unfold cmpI;rw[aO h1,aO h2]
   exact tcg
def orI:List Int->Int
 |[]=>0
 |a::l=>if a=0 then orI l else a
theorem orI_at{l:List Int}{k:Nat}(hk:k<l.length)(hp:∀j (h:j<l.length),j<k->l[j]=0)(h:l[k]≠0):orI l=l[k]:=by
 induction l generalizing k with
 |nil=>simp at hk
 |cons a t ih =>
  cases k with
  |zero=>simp at h;simp[orI,h]
  |succ k =>
   have h0:a=0:=hp 0 ze za;rw[orI,aF h0];exact ih (by simpa using hk) (fun j hj hjk=>hp (j+1) yh za) zu
theorem orI_none{l:List Int}(hp:∀j (h:j<l.length),l[j]=0):orI l=0:=by
 induction l with
 |nil=>rfl
 |cons a t ih =>
  have h0:a=0:=hp 0 ze;rw[orI,aF h0];exact ih fun j hj=>hp (j+1) yh
def OrRel(w:World)(l:List Int)(m:Nat)(i:Value)(wr:World):Prop:=
 w=wr/\∃k:Nat,k+m=l.length/\i=.int .i64 k/\∀j (h:j<l.length),j<k->l[j]=0
theorem cmpOr_c(A:OA)(c:Nat)(l:List Int)(w:World)(J:l.length<=1000000)(h:Ints w A l): Calls Tryz.prog 196 #[.slice A l.length c] w (zAG (.int .i64 (orI l)) w):=by
 generalize C:orI l=res;have HR:=zq C;clear C
 go_enter Tryz.func196,Tryz.ntmps196;go_wp2
 go_loopg[8] l.length (OrRel w l)
 case atStart=>exact⟨rfl,0,za,rfl,fun j _ hj=>absurd hj za⟩
 case round =>
  obtain⟨hw,k,hk,rfl,hpre⟩:=hrel;subst hw;have HK:=zq hk;have HP:=zq hpre;have hk1:k<=l.length:=za;clear hk hpre
  by_cases Y:k<l.length
  ·obtain⟨b,o,rfl,I,hc⟩:=h.at_ za
   have hc0:=hc k Y;clear hc
   by_cases hq:l[k]=0
   ·have hqb:(l[k] != 0)=false:=by simpa using hq
    exact tfz
   ·have hqb:(l[k] != 0)=true:=by simpa using hq
    have HQ:=zq hq;clear hq;go_wp2;go_ret
    exact zAG.mk (zBF (by rw[<-HR.o,orI_at Y HP.o HQ.o])) rfl
  ·go_wp2
   go_ret
   exact zAG.mk (zBF (by rw[<-HR.o,orI_none fun j hj=>HP.o j hj za])) rfl
def cfS(x y:BA):Int:=Lib.compareBytes x.data.toList y.data.toList
theorem compare_less:∀(a b:List UInt8),decide (Lib.compareBytes a b<0)=Op.bytesLess a b
 |[],[]=>by simp[Lib.compareBytes,Op.bytesLess]
 |[],_::_=>by simp[Lib.compareBytes,Op.bytesLess]
 |_::_,[]=>by simp[Lib.compareBytes,Op.bytesLess]
 |a::x,b::y=>by
  have ih:=compare_less x y;rw[Lib.compareBytes,Op.bytesLess]
  by_cases h1:a<b
  ·simp[h1]
  ·by_cases h2:b<a
   ·have h3:¬a=b:=fun e=>by subst e;exact h1 h2
    simp[h1,h2,h3]
   ·have h3:a=b:=UInt8.le_antisymm (UInt8.not_lt.1 h2) (UInt8.not_lt.1 h1)
    subst h3;simp only[h1,aL];rw[ih];simp
theorem cfS_lt(x y:BA):decide (cfS x y<0)=slt x y:=by
 unfold cfS slt;rw[compare_less,Dw.toList_eq,Dw.toList_eq]
theorem compareS_c(x y:BA)(w:World):Calls Tryz.prog 99 #[.string x,.string y] w (zAG (.int .i64 (cfS x y)) w):=by
 have h:=Any.strings_Compare Tryz.lays106 x y w;change Calls Tryz.prog 99 _ _ _ at h;exact h.mono fun _ _ ⟨he,hw⟩=>⟨he,hw.symm⟩
def Shs(w:World)(A:OA)(l:List Sh):Prop:=
 0<l.length->∃b o:Nat,A=some ⟨b,o,none⟩/\∀i (h:i<l.length),w.cell? ⟨b,o+i*3,none⟩=some (.string (l[i]).pt)/\w.cell? ⟨b,o+i*3+1,none⟩=some (.string (l[i]).nu)/\w.cell? ⟨b,o+i*3+2,none⟩=some (.string (l[i]).de)
theorem Shs.at_{w:World}{A:OA}{l:List Sh}(h:Shs w A l)(hl:0<l.length):∃b o:Nat,A=some ⟨b,o,none⟩/\b<w.heap.size/\∀i (h:i<l.length),w.cell? ⟨b,o+i*3,none⟩=some (.string (l[i]).pt)/\w.cell? ⟨b,o+i*3+1,none⟩=some (.string (l[i]).nu)/\w.cell? ⟨b,o+i*3+2,none⟩=some (.string (l[i]).de):=by
 exact td5
theorem Shs.below{w w':World}{A:OA}{l:List Sh}(h:Shs w A l)(I:Below w.heap.size w w'):Shs w' A l:=fun hl=>by
 obtain⟨b,o,rfl,Y,hc⟩:=h.at_ hl;refine⟨b,o,rfl,fun i hi=>?_⟩;rw[I.cell Y,I.cell Y,I.cell Y];exact hc i hi
abbrev deC(d:De):Array Value:=#[.string d.id,.int .i64 d.day,.int .i64 d.kd,.string d.th,.string d.fr,.string d.to_,.string d.nu,.string d.de,.bool d.ex,.bool d.sb,.slice d.arA d.ar.length d.arc,.slice d.usA d.us.length d.usc,.int .i64 d.bg,.int .i64 d.en,.slice d.shA d.sh.length d.shc,.string d.ot]
abbrev deV(d:De):Value:=.agg (deC d)
structure DeOk (w:World) (d:De):Prop where
 ars:Ars w d.arA d.ar
 uses:Strs w d.usA d.us
 shs:Shs w d.shA d.sh
 lens:d.ar.length<=140737488355328/\d.us.length<=140737488355328/\d.sh.length<=140737488355328
 strs:d.id.size<=9223372036854775807/\d.th.size<=9223372036854775807/\d.fr.size<=9223372036854775807/\d.to_.size<=9223372036854775807/\d.nu.size<=9223372036854775807/\d.de.size<=9223372036854775807
 shz:∀s∈d.sh,s.pt.size<=9223372036854775807/\s.nu.size<=9223372036854775807/\s.de.size<=9223372036854775807
theorem DeOk.below{w w':World}{d:De}(h:DeOk w d)(I:Below w.heap.size w w'):DeOk w' d:=⟨h.ars.below I,h.uses.below I,h.shs.below I,h.lens,h.strs,h.shz⟩
theorem isDay_c(n:Int)(w:World):Calls Tryz.prog 78 #[.int .i64 n] w (zAG (.bool (zCm n)) w):=by
 by_cases h1:0<=n
 ·by_cases h2:n<=200000
  ·have hv:zCm n=true:=by simp[zCm,h1,h2]
   rw[hv];have HV:=zq hv;clear hv
   go_enter Tryz.func78,Tryz.ntmps78;go_wp2;go_ret
   exact zAG.mk rfl rfl
  ·have hv:zCm n=false:=by simp[zCm,h2]
   rw[hv];have HV:=zq hv;have h2':200000<n:=za;clear hv h2
   go_enter Tryz.func78,Tryz.ntmps78;exact te4
 ·have hv:zCm n=false:=by simp[zCm,h1]
  rw[hv];have HV:=zq hv;have h1':n<0:=za;clear hv h1
  go_enter Tryz.func78,Tryz.ntmps78;go_wp2;go_ret
  exact zAG.mk rfl rfl
def kindB(n:Int):Bool:=decide (1<=n)&&decide (n<=5)
theorem isKindD_c(n:Int)(w:World):Calls Tryz.prog 151 #[.int .i64 n] w (zAG (.bool (kindB n)) w):=by
 by_cases h1:1<=n
 ·by_cases h2:n<=5
  ·have hv:kindB n=true:=by simp[kindB,h1,h2]
   rw[hv];have HV:=zq hv;clear hv
   go_enter Tryz.func151,Tryz.ntmps151;go_wp2;go_ret
   exact zAG.mk rfl rfl
  ·have hv:kindB n=false:=by simp[kindB,h2]
   rw[hv];have HV:=zq hv;have h2':5<n:=za;clear hv h2
   go_enter Tryz.func151,Tryz.ntmps151;exact te4
 ·have hv:kindB n=false:=by simp[kindB,h1]
  rw[hv];have HV:=zq hv;have h1':n<1:=za;clear hv h1
  go_enter Tryz.func151,Tryz.ntmps151;go_wp2;go_ret
  exact zAG.mk rfl rfl
def deCmp(a b:De):Int:=orI [cmpI a.day b.day,cfS a.id b.id]
theorem deCmp_lt(a b:De):decide (deCmp a b<0)=deLt a b:=by
 unfold deCmp deLt cmpI
 rcases Int.lt_trichotomy a.day b.day with h|h|h
 ·simp[h,orI]
 ·rw[h]
  have e1:=cfS_lt a.id b.id;rw[<-e1]
  by_cases hz:cfS a.id b.id=0
  ·simp[orI,hz]
  ·simp[orI,hz]
 ·have h1:¬a.day<b.day:=by omega
  have h2:¬a.day=b.day:=za;simp[orI,h,h1,h2]
theorem ints_twoR(w:World)(a b:Int)(t:TypeId):Ints (w.alloc (.cells #[.int .i64 a,.int .i64 b] t)) (some ⟨w.heap.size,0,none⟩) [a,b]:=fun _=>by
 refine⟨w.heap.size,0,rfl,fun i hi=>?_⟩;have h2:i=0\/i=1:=by simp at hi;omega
 rcases h2 with rfl|rfl
 ·exact(Bx.new w _ t).cell rfl
 ·exact(Bx.new w _ t).cell rfl
theorem compareDeeds_c(a b:De)(w:World):Calls Tryz.prog 150 #[deV a,deV b] w (zAf (.int .i64 (deCmp a b)) w):=by
 have HX:Hid (Bx ((w.alloc (.cells (deC a) 126)).alloc (.cells (deC b) 126)) w.heap.size (deC a) 126):=(Bx.new _ _ _).alloc _;have HY:Hid (Bx ((w.alloc (.cells (deC a) 126)).alloc (.cells (deC b) 126)) (w.heap.size+1) (deC b) 126):=Bx.new1 _ _ _ _;have HB:Hid (Below w.heap.size w ((w.alloc (.cells (deC a) 126)).alloc (.cells (deC b) 126))):=((aR w.heap.size w).alloc (aK _) _).alloc ze _;obtain⟨W,hW⟩:∃W,W=(w.alloc (.cells (deC a) 126)).alloc (.cells (deC b) 126):=⟨_,rfl⟩;rw[<-hW]at HX HY HB;unfold deCmp;have HC:=zq (fun W'=>cmpI_c a.day b.day W');have HS:=zq (fun W'=>compareS_c a.id b.id W')
 go_enter Tryz.func150,Tryz.ntmps150;(go_wp2_with fail);rw[<-hW];clear hW;have x0:=HX.o.c 0 rfl;have x1:=HX.o.c 1 rfl;have y0:=HY.o.c 0 rfl;have y1:=HY.o.c 1 rfl;generalize cmpI a.day b.day=z1 at *;generalize cfS a.id b.id=z2 at *
 have ho:∀W':World,Calls Tryz.prog 196 #[.slice (some ⟨W'.heap.size,0,none⟩) 2 2] (W'.alloc (.cells #[.int .i64 z1,.int .i64 z2] 3)).drew (zAG (.int .i64 (orI [z1,z2])) (W'.alloc (.cells #[.int .i64 z1,.int .i64 z2] 3)).drew):=
  fun W'=>cmpOr_c (some ⟨W'.heap.size,0,none⟩) 2 [z1,z2] _ ze (Rd1.drew (ints_twoR W' z1 z2 _))
 have HO:=zq ho;clear ho;refine wp_region_still_tail 10 zc zc ?_;simp only[aU,aV,aW,aX];iterate 4 still_step
 still_call ((HC.o _).mono (fun _ _ h=>⟨h.1,h.2.symm⟩))
 iterate 4 still_step
 still_call ((HS.o _).mono (fun _ _ h=>⟨h.1,h.2.symm⟩))
 refine wpStill_nil ?_;change wpList _ _ _ _ _ W.drew;clear x0 x1 y0 y1 HC HS;(go_wp2_with fail);(with_reducible refine(HO.o W).mono ?_);rintro e w3⟨rfl,rfl⟩;have HB3:Hid (Below w.heap.size w (W.alloc (.cells #[.int .i64 z1,.int .i64 z2] 3)).drew):=zAb (HB.o.alloc HB.o.size _) 1;go_wp2;go_ret
 exact zAf.mk rfl HB3.o
def fldC(k:Int):Array Value:=
 if k=1 then #[.bool true,.bool false,.bool false,.bool false,.bool false,.bool false,.bool false,.bool true,.bool false]
 else if k=2 then #[.bool true,.bool true,.bool true,.bool true,.bool false,.bool true,.bool true,.bool false,.bool false]
 else if k=3 then #[.bool true,.bool true,.bool true,.bool false,.bool true,.bool true,.bool true,.bool false,.bool false]
 else if k=4 then #[.bool false,.bool false,.bool false,.bool false,.bool false,.bool false,.bool false,.bool false,.bool true]
 else #[.bool false,.bool true,.bool false,.bool false,.bool false,.bool false,.bool false,.bool true,.bool false]
theorem zCd(k:Int)(w:World)(hk:1<=k/\k<=5):Calls Tryz.prog 52 #[.int .i64 k] w (zAf (.agg (fldC k)) w):=by
 have h5:k=1\/k=2\/k=3\/k=4\/k=5:=za
 rcases h5 with rfl|rfl|rfl|rfl|rfl
 all_goals
  clear hk
  go_enter Tryz.func52,Tryz.ntmps52;go_wp2;refine aC (v:=.agg (fldC _)) (by simp[results,Tryz.results52,go_sem];rfl) rfl ⟨rfl,?_⟩
  exact(aR w.heap.size w).alloc (aK _) _
def GivesEq(same:Prop)(w:World)(e:Ending)(w':World):Prop:=∃r:Bool,e=.returned (.bool r)/\(r=true↔same)/\∃n,w'=w.drewN n
theorem GivesEq.no{same:Prop}{w w':World}(h:¬same)(hw:∃n,w'=w.drewN n):GivesEq same w (.returned (.bool false)) w':=⟨false,rfl,⟨(fun e=>by cases e),fun e=>absurd e h⟩,hw⟩
theorem GivesEq.yes{same:Prop}{w w':World}(h:same)(hw:∃n,w'=w.drewN n):GivesEq same w (.returned (.bool true)) w':=⟨true,rfl,⟨fun _=>h,fun _=>rfl⟩,hw⟩
def EqRel2{α:Type}(w:World)(L M:List α)(m:Nat)(i:Value)(wr:World):Prop:=
 ∃q,wr=w.drewN q/\∃k:Nat,k+m=L.length/\i=.int .i64 k/\∀j,j<k->L[j]?=M[j]?
theorem same_of{α:Type}{L M:List α}(hl:L.length=M.length){k:Nat}(hk:L.length<=k)(h:∀j,j<k->L[j]?=M[j]?):L=M:=by
 apply List.ext_getElem?
 intro i
 by_cases hi:i<k
 ·exact h i hi
 ·rw[List.getElem?_eq_none za,List.getElem?_eq_none za]
theorem equalS_c(A Z:OA)(c c2:Nat)(L M:List BA)(w:World)(J:L.length<=140737488355328)(hn2:M.length<=140737488355328)(h:Strs w A L)(h2:Strs w Z M): Calls Tryz.prog 20 #[.slice A L.length c,.slice Z M.length c2] w (GivesEq (L=M) w):=by
 by_cases hl:L.length=M.length
 ·rw[<-hl]
  have HL:=zq hl;clear hl
  go_enter Tryz.func20,Tryz.ntmps20;go_wp2
  go_loopg[13] L.length (EqRel2 w L M)
  case atStart=>exact⟨0,rfl,0,za,rfl,fun j hj=>absurd hj za⟩
  case round =>
   obtain⟨q,hw,k,hk,rfl,hpre⟩:=hrel;subst hw;have HK:=zq hk;have HP:=zq hpre;have hk1:k<=L.length:=za;clear hk hpre
   by_cases Y:k<L.length
   ·have hlt2:k<M.length:=by have:=HL.o;omega
    obtain⟨b,o,rfl,I,hc⟩:=h.at_ za;obtain⟨b2,o2,rfl,D,hcm⟩:=h2.at_ za;have hc0:=hc k Y;have hd0:=hcm k hlt2;clear hc hcm
    by_cases he:L[k]=M[k]
    ·have heb:=zAn he
     have HE:=zq he;clear he;go_wp2;go_quiet(fail);go_wp2
     go_roundg (gk-1)
     case measure=>have:=HK.o;omega
     case rel =>
      refine⟨_,rfl,k+1,zh,zi,fun j hj=>?_⟩
      rcases aI j k with h1|h1
      ·exact HP.o j h1
      ·obtain rfl:j=k:=by omega
       rw[List.getElem?_eq_getElem Y,List.getElem?_eq_getElem ji,HE.o]
    ·have heb:=zAp he
     have HE:Hid (¬L=M):=by
      show ¬L=M
      intro e;subst e;exact he rfl
     clear he;go_wp2;go_quiet(fail);go_wp2;go_ret
     exact GivesEq.no HE.o ⟨_,World.drewN_drewN _ _ _⟩
   ·go_wp2
    go_ret
    exact GivesEq.yes (same_of HL.o za HP.o) ⟨_,rfl⟩
 ·have HE:Hid (¬L=M):=by
   show ¬L=M
   intro e;subst e;exact hl rfl
  have hlb:((L.length:Int) != (M.length:Int))=true:=zg
  go_enter Tryz.func20,Tryz.ntmps20;go_wp2;go_ret
  exact GivesEq.no HE.o ⟨0,rfl⟩
end Go.Proofs.YtbbchlpccgkikaaGreatDoor
