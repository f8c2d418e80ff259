/- Parts of the proof, joined: Package num: natText. Walks over the reference of chapter 7 (places): . -/
import Derived.Test.YtieoifkdobcpiaaGreatDoorSm03
import Derived.Lib.Strings
import Derived.Shelf.Small.Wraps
import Derived.Shelf.Small.Strs
import Derived.Shelf.Strings.SlTrimAscii
set_option maxRecDepth 100000
set_option maxHeartbeats 8000000
namespace Go.Proofs.YtieoifkdobcpiaaGreatDoor
open Go.RowKit Dw
def encU:Nat→List Value:=fun n=>[u32V n]
abbrev OwnU (w:World) (B:Nat) (v:Value) (L:List Nat):Prop:=zAT encU 1 w B 197 v L
theorem ownU_map (L:List Nat):L.flatMap encU=L.map u32V:=flat1 L
theorem OwnU.get {w:World} {B g c n:Nat} {L:List Nat} (h:OwnU w B (.slice (some ⟨g,0,none⟩) n c) L) (hn:n=L.length) (i:Nat) (hi:i<L.length):w.cell? ⟨g,i,none⟩=some (.int .u32 ((L[i]:Nat):Int))∧w.frozen? ⟨g,i,none⟩=false:=by
 subst hn;unfold OwnU zAT at h;rw [ownU_map] at h;have h1:=World.ownsRow.cellAt h i za;exact ⟨by rw [h1];simp [hi,u32V],World.ownsRow.frozenAt h i⟩
theorem OwnU.put {w:World} {B g c n:Nat} {L:List Nat} (h:OwnU w B (.slice (some ⟨g,0,none⟩) n c) L) (hn:n=L.length) (i x:Nat) :
  OwnU (w.setCell ⟨g,i,none⟩ (.int .u32 (x:Int))) B (.slice (some ⟨g,0,none⟩) n c) (L.set i x):=by
 subst hn;unfold OwnU zAT at h ⊢;rw [ownU_map] at h ⊢;have h1:=(World.ownsRow.stored h i (.int .u32 (x:Int))).1;rw [List.map_set,dE];exact h1
theorem words_of {L:List Nat} (h:WLt B32 L) (h2:L=[]∨B32 ^ (L.length - 1)≤zAf B32 L):L=zAc B32 (zAf B32 L):=by
 rw [←zCg zAu h]
 rcases h2 with rfl | h2
 ·rfl
 ·rcases bR L.length with h0 | h0
  ·rw [dQ h0];rfl
  ·have e:L.length - 1<L.length:=by omega
   have h3:=zEp (L:=L) (k:=L.length - 1) e;rw [show L.length - 1+1=L.length by omega,bX] at h3
   refine (h3 fun h0=>?_).symm
   have h4:=zAD (B:=B32) (l:=L) (i:=L.length - 1) e;rw [h0,show L.length - 1+1=L.length by omega,bX,bT,cZ] at h4
   have h5:=zDs (h.take (L.length - 1));rw [bN,bO za] at h5;omega
theorem dgB_of {c:UInt8} (h:dgB c=true):48≤c.toNat∧c.toNat≤57:=by
 unfold dgB at h
 simpa using h
theorem decV_snoc (l:List UInt8) (c:UInt8):zBM (l++[c])=10*zBM l+(c.toNat - 48):=by
 rw [zCc];have:zBM [c]=c.toNat - 48:=by simp [zBM]
 rw [this];simp;omega
theorem decV_dg {l:List UInt8} (h:l.all dgB=true):zBM l<10 ^ l.length :=
 decV_lt fun c hc=>by have:=dgB_of (List.all_eq_true.1 h c hc);omega
theorem last_words {n:Nat}:zAc B32 n=[]∨B32 ^ ((zAc B32 n).length - 1)≤n:=by
 rcases bR (zAc B32 n).length with h0 | h0
 ·exact .inl (dQ h0)
 ·have:=zEq (B:=B32) h0 (zCn zAu h0)
  rw [zAl zAu] at this;exact .inr this
theorem scale_step {L L2:List Nat} {i cy sc c0 t:Nat} (hi:i<L.length) (hl:L2.length=L.length) (hd:L2.drop i=L.drop i) (ht:t=cy+sc*L[i]) (hV:zAf B32 (L2.take i)+B32 ^ i*cy=zAf B32 (L.take i)*sc+c0) :
  zAf B32 ((L2.set i (t % 4294967296)).take (i+1))+B32 ^ (i+1)*(t / 4294967296)=zAf B32 (L.take (i+1))*sc+c0∧(L2.set i (t % 4294967296)).drop (i+1)=L.drop (i+1):=by
 refine ⟨?_,?_⟩
 ·rw [zEr za,zAD hi]
  have e:=scale_col (B:=B32) (i:=i) (o:=zAf B32 (L2.take i)) ht;rw [zCA] at e ⊢;rw [zCA] at hV;rw [e,hV,bD,bC,bB L[i] sc];omega
 ·rw [List.drop_set_of_lt (Nat.lt_succ_self i)]
  have h1:=bH (List.drop 1) hd
  rwa [List.drop_drop,List.drop_drop] at h1
theorem scale_words {L2:List Nat} {n cy N:Nat} (hW:WLt B32 L2) (hl:L2.length=(zAc B32 n).length) (hV:zAf B32 L2+B32 ^ (zAc B32 n).length*cy=N) (hn:n≤N) (hcy:cy<B32) :
  (cy=0→L2=zAc B32 N)∧(0<cy→L2++[cy]=zAc B32 N):=by
 refine ⟨fun h=>?_,fun h=>?_⟩
 ·rw [h,bT,cZ] at hV
  rw [←hV];refine words_of hW ?_
  rcases last_words (n:=n) with e | e
  ·rw [e] at hl
   exact .inl (dQ hl)
  ·rw [hl,hV]
   exact .inr (dI e hn)
 ·have e:zAf B32 (L2++[cy])=N:=by rw [zAS,zBN,hl,hV]
  rw [←e];refine words_of (hW.append (WLt.cons hcy WLt.nil)) (.inr ?_)
  rw [zAS,zBN];have h2:=bL (B32 ^ L2.length) h;rw [cA] at h2;have e3:(L2++[cy]).length - 1=L2.length:=ze;rw [e3];exact dI h2 (Nat.le_add_left _ _)
def NtRel (w:World) (s:BA) (m:Nat) (sv av:Value) (wr:World):Prop :=
 ∃ (t:BA) (pre:List UInt8) (A:Option Addr) (c:Nat),sv = .string t∧m=t.size∧pre++t.data.toList=s.data.toList∧av=ntV A c (zBM pre)∧OwnU wr w.heap.size (ntV A c (zBM pre)) (zAc B32 (zBM pre))∧Below w.heap.size w wr
def NtRel2 (w1:World) (t:BA) (k:Nat) (m:Nat) (cv scv iv:Value) (wr:World):Prop :=
 ∃ i:Nat,i+m=k∧iv = .int .i64 i∧cv = .int .u64 ((zBM (t.data.toList.take i):Nat):Int)∧scv = .int .u64 ((10 ^ i:Nat):Int)∧wr=w1
def NtRel3 (w:World) (A:Option Addr) (c:Nat) (L:List Nat) (c0 sc:Nat) (m:Nat) (cv iv:Value) (wr:World):Prop :=
 ∃ (i cy:Nat) (L2:List Nat),i+m=L.length∧iv = .int .i64 i∧cv = .int .u64 (cy:Int)∧cy≤1000000000∧L2.length=L.length∧WLt B32 L2∧L2.drop i=L.drop i ∧
  zAf B32 (L2.take i)+B32 ^ i*cy=zAf B32 (L.take i)*sc+c0∧OwnU wr w.heap.size (.slice A L.length c) L2∧Below w.heap.size w wr
theorem OwnU.nt {w:World} {B c n:Nat} {A:Option Addr} (h:OwnU w B (ntV A c n) (zAc B32 n)):Nt w A c n:=by
 have hcap:(zAc B32 n).length≤c:=by
  rcases h.2 with ⟨h',hn⟩ | ⟨g',cap',cur,h',_,_,hnc,_⟩
  ·rw [hn];exact bF _
  ·simp only [ntV,dR] at h'
   omega
 obtain ⟨A',c',hv,hr⟩:=zAT.rd1 (f:=u32V) h;simp only [ntV,dR,true_and] at hv;obtain ⟨rfl,rfl⟩:=hv;exact ⟨hr,hcap⟩
theorem zDb (s:BA) (k:Nat) (h:k<s.size):s.data.toList[k]'(by simpa using h)=s[k]:=rfl
theorem decV_take {t:BA} {i:Nat} (h:i<t.size):zBM (t.data.toList.take (i+1))=10*zBM (t.data.toList.take i)+(t[i].toNat - 48):=by
 rw [bM zn,decV_snoc,zDb t i h]
theorem natText_c (s:BA) (w:World) (hd:s.data.toList.all dgB=true) (hs:s.size≤2000) :
  Calls Tryz.prog 112 #[.string s] w (zDR (zAz s) w):=by
 go_enter Tryz.func112,Tryz.ntmps112
 go_wp2
 go_loopg [0,3] s.size (NtRel w s)
 case atStart=>exact ⟨s,[],none,0,rfl,rfl,rfl,rfl,zAT.nil encU 1 w w.heap.size 197,aS _ _⟩
 case round =>
  obtain ⟨t,pre,A,c,rfl,hm,hpre,rfl,hown,hbw⟩:=hrel;have HM:=zq hm;have HPRE:=zq hpre
  have htd:t.data.toList.all dgB=true:=by
   rw [←hpre,dS,dT] at hd;exact hd.2
  have hpd:pre.all dgB=true:=by
   rw [←hpre,dS,dT] at hd;exact hd.1
  have hlen:pre.length+t.size≤2000:=by
   have:=bH List.length hpre;rw [dA] at this;have e1:t.data.toList.length=t.size:=ze;have e2:s.data.toList.length=s.size:=ze;omega
  have HTD:=zq htd;have HPD:=zq hpd
  have hwl:(zAc B32 (zBM pre)).length≤2000:=by
   have h1:=decV_dg hpd;have h2:10 ^ pre.length≤B32 ^ pre.length:=dU zd _;have:=zBi zAu (dL h1 h2);omega
  clear hm hpre htd hpd
  rcases bR t.size with h0 | h0
  ·go_wp2
   go_ret
   have e:zAz s=zBM pre:=by
    unfold zAz;rw [←HPRE.o,dQ (l:=t.data.toList) (by simpa using h0),aD]
   rw [e];exact ⟨A,c,rfl,hown.nt,hbw⟩
  ·obtain ⟨k,hk⟩:∃ k,k=min 9 t.size:=⟨_,rfl⟩
   have hmin:min (9:Int) (t.size:Int)=(k:Int):=by rw [hk];omega
   have hk1:k≤9:=za;have hk2:k≤t.size:=za;have hk3:1≤k:=za;clear hk;go_wp2;obtain ⟨wo,hwo⟩:∃ wo:World,wo=wr:=⟨_,rfl⟩;subst hwo;clear hmin
   go_loopg [5,6,16] k (NtRel2 wo t k)
   case atStart=>exact ⟨0,za,rfl,rfl,rfl,rfl⟩
   case round =>
    obtain ⟨i,him,rfl,rfl,rfl,hw⟩:=hrel;subst hw;have HIM:=zq him;clear him;obtain ⟨cc,hcc⟩:∃ cc,zBM (t.data.toList.take i)=cc:=⟨_,rfl⟩;obtain ⟨sc,hsc⟩:∃ sc,10 ^ i=sc:=⟨_,rfl⟩;rw [hcc,hsc]
    have hcsc:cc<sc:=by
     have h1:=decV_dg (l:=t.data.toList.take i) (by
      rw [List.all_eq_true];exact fun x hx=>List.all_eq_true.1 HTD.o x (bZ hx))
     rw [bN] at h1;have e2:t.data.toList.length=t.size:=ze;have e3:min i t.data.toList.length=i:=by have:=HIM.o;omega
     rw [e3,hcc,hsc] at h1;exact h1
    by_cases hlt:i<k
    ·have hsc9:sc≤100000000:=by
      rw [←hsc];exact dI (bY za (show i≤8 by omega)) zd
     have hit:i<t.size:=za;have hdg:=dgB_of (List.all_eq_true.1 HTD.o t[i] (by rw [←zDb t i hit];exact aJ _))
     obtain ⟨hd1,hd2⟩:=hdg;have HCC:=zq hcc;have HSC:=zq hsc;clear hcc hsc;go_wp2
     go_roundg (gk - 1)
     case measure=>have:=HIM.o;omega
     case rel =>
      refine ⟨i+1,by have:=HIM.o;omega,zi,?_,?_,rfl⟩
      ·rw [decV_take hit,HCC.o]
       congr 1
       omega
      ·rw [aZ,HSC.o]
       congr 1
       omega
    ·obtain rfl:i=k:=by have:=HIM.o;omega
     have hsc9:sc≤1000000000:=by
      rw [←hsc];exact dI (bY za hk1) zd
     have hsc1:1≤sc:=by rw [←hsc];exact Nat.pow_pos za
     have HNV:Hid (zBM (pre++t.data.toList.take i)=zBM pre*sc+cc):=by
      show _=_
      have e2:(t.data.toList.take i).length=i:=by rw [bN];simp;omega
      rw [zCc,e2,hcc,hsc]
     have HNX:Hid ((pre++t.data.toList.take i)++(t.extract i t.size).data.toList=s.data.toList):=by
      show _=_
      rw [List.append_assoc,Lib.extract_data,cY (l:=List.drop i t.data.toList) (by rw [bV];simp),bQ]
      exact HPRE.o
     have hxs:(t.extract i t.size).size=t.size - i:=ze;have HXS:=zq hxs;have hL:=zAK zAu (zBM pre);have HWV:=zq (zAl zAu (zBM pre))
     have HLW:Hid (∀ (L2:List Nat) (cy:Nat),WLt B32 L2→L2.length=(zAc B32 (zBM pre)).length→zAf B32 L2+B32 ^ (zAc B32 (zBM pre)).length*cy=zBM pre*sc+cc→cy<B32→(cy=0→L2=zAc B32 (zBM pre*sc+cc))∧(0<cy→L2++[cy]=zAc B32 (zBM pre*sc+cc))) :=
      fun L2 cy h1 h2 h3 h4=>scale_words h1 h2 h3 (dI (Nat.le_mul_of_pos_right _ hsc1) (dK _ _)) h4
     clear hcc hsc hxs;unfold ntV at hown ⊢;obtain ⟨L,hLd⟩:∃ L,zAc B32 (zBM pre)=L:=⟨_,rfl⟩;rw [hLd] at hown hL HWV HLW hwl;rw [hLd];have HLD:=zq hLd;clear hLd;go_wp2;have HBW:=zq hbw;clear hbw
     go_loopg [5,35] L.length (NtRel3 w A c L cc sc)
     case atStart=>exact ⟨0,cc,L,za,rfl,rfl,za,rfl,hL,rfl,je,hown,HBW.o⟩
     case round =>
      clear hown HBW;obtain ⟨j,cy,L2,hjm,rfl,rfl,hcy,hl2,hW2,hdr,hV2,hown,hbw⟩:=hrel;have HJM:=zq hjm;have HL2:=zq hl2;have HDR:=zq hdr;have HV2:=zq hV2;clear hjm hl2 hdr hV2
      by_cases hj:j<L.length
      ·have hj2:j<L2.length:=by have:=HL2.o;omega
       have e2:L2[j]=L[j]:=by
        have h1:=HDR.o;rw [aF hj2,aF hj] at h1
        injection h1
       obtain ⟨g,cap',hv,_,hglt⟩:=World.ownsRow.form hown za;simp only [dR] at hv;obtain ⟨rfl,_,_⟩:=hv;obtain ⟨hc1,hf1⟩:=OwnU.get hown HL2.o.symm j hj2;rw [e2] at hc1;have hx:L[j]<4294967296:=hL.get j hj;obtain ⟨p,hp⟩:∃ p,p=sc*L[j]:=⟨_,rfl⟩;have hpB:p≤1000000000*4294967295:=by rw [hp];exact Nat.mul_le_mul hsc9 za
       have hpe:(sc:Int)*(L[j]:Int)=(p:Int):=by rw [hp];exact (cT _ _).symm
       obtain ⟨T,hT⟩:∃ T,T=cy+p:=⟨_,rfl⟩;have hTe:(cy:Int)+(p:Int)=(T:Int):=by rw [hT];exact (Int.natCast_add _ _).symm
       have hTB:T≤4294967296000000000:=za;have hst:=scale_step (t:=T) hj HL2.o HDR.o (by rw [hT,hp]) HV2.o
       have HST:=zq hst;clear hp hT hst e2 hpB;go_wp2
       go_roundg (gk - 1)
       case measure=>have:=HJM.o;omega
       case rel =>
        refine ⟨j+1,T / 4294967296,L2.set j (T % 4294967296),zr,zi,rfl,za,by rw [dE];exact HL2.o,hW2.set (modB T) j,HST.o.2,HST.o.1,OwnU.put hown HL2.o.symm j _,hbw.setCell (aT hown g (by simp [Value.ownBlock])).1 _⟩
      ·obtain rfl:j=L.length:=by have:=HJM.o;omega
       have hres:=HLW.o L2 cy hW2 HL2.o (by
        have h1:=HV2.o;rw [cY (by have:=HL2.o;omega),cY (aB _),HWV.o] at h1
        exact h1) qg
       have HRES:=zq hres;clear hres
       rcases bR cy with h0 | h0
       ·subst h0
        have hlw:=HRES.o.1 rfl;have HLW2:=zq hlw;clear hlw;go_wp2
        go_roundg (t.size - i)
        case measure=>have:=HM.o;omega
        case rel =>
         have e:=HLW2.o;have e2:=HL2.o;refine ⟨t.extract i t.size,pre++t.data.toList.take i,A,c,rfl,HXS.o.symm,HNX.o,?_,?_,hbw⟩
         ·rw [HNV.o]
          show Value.slice A L.length c = .slice A (zAc B32 (zBM pre*sc+cc)).length c
          rw [←e,e2]
         ·rw [HNV.o]
          show OwnU wr w.heap.size (.slice A (zAc B32 (zBM pre*sc+cc)).length c) (zAc B32 (zBM pre*sc+cc))
          rw [←e,e2];exact hown
       ·have hlw:=HRES.o.2 h0
        have HLW2:=zq hlw;have hl2:=HL2.o;clear hlw;rw [←hl2] at hown hwl ⊢
        go_wp2_with (at_builtin;refine zBj _ _ _ elNat rfl rfl w.heap.size _ L2 rfl (zAT.alloc hown _) wr.heap.size 1 cy rfl (cS _ _) rfl (by simp [encU,u32V,Value.oneCell']) zm za (by simp;exact Nat.le_succ_of_le hbw.size) ?_;intro A7 c7 w7 hown7 hg7 hb7 hat7)
        have hbw7:=(hbw.alloc hbw.size _).trans hb7;go_wp2
        go_roundg (t.size - i)
        case measure=>have:=HM.o;omega
        case rel =>
         have e:=HLW2.o;have e3:(zAc B32 (zBM pre*sc+cc)).length=L2.length+1:=by rw [←e];simp
         refine ⟨t.extract i t.size,pre++t.data.toList.take i,A7,c7,rfl,HXS.o.symm,HNX.o,?_,?_,hbw7⟩
         ·rw [HNV.o]
          show Value.slice A7 (L.length+1) c7 = .slice A7 (zAc B32 (zBM pre*sc+cc)).length c7
          rw [e3,HL2.o]
         ·rw [HNV.o]
          show OwnU w7 w.heap.size (.slice A7 (zAc B32 (zBM pre*sc+cc)).length c7) (zAc B32 (zBM pre*sc+cc))
          rw [e3,←e];exact hown7
def LiesRel (w:World) (l:List Rg) (a:List Ar) (res:Bool) (m:Nat) (name:Value) (wr:World):Prop :=
 wr=w∧((∃ j,∃ hj:j<l.length,name = .string (l[j]).nm∧upN l m j=none∧liesF l a m j=res)∨(name = .string emp∧res=false))
def LiesRel2 (w:World) (a:List Ar) (nm:BA) (m:Nat) (i:Value) (wr:World):Prop :=
 wr=w∧∃ k:Nat,k+m=a.length∧i = .int .i64 k∧∀ j (h:j<a.length),j<k→(a[j]).rg≠nm
theorem lies_c (A A2:Option Addr) (c c2:Nat) (l:List Rg) (a:List Ar) (w:World) (g:GoodR l) (h:Rgs w A l) (h2:Ars w A2 a) (hn2:a.length≤100) (i:Nat) (hi:i<l.length) :
  Calls Tryz.prog 143 #[.slice A l.length c,.slice A2 a.length c2,.string (l[i]).nm] w (zAB (.bool (lies l a i)) w):=by
 have hn:=g.len;generalize hres:lies l a i=res;have HR:=zq hres;clear hres
 go_enter Tryz.func143,Tryz.ntmps143
 go_wp2
 go_loopg [2] (l.length+2) (LiesRel w l a res)
 case atStart=>exact ⟨rfl,.inl ⟨i,hi,rfl,g.ends i hi,HR.o⟩⟩
 case round =>
  obtain ⟨hw,hrel⟩:=hrel;subst hw
  rcases hrel with ⟨j,hj,rfl,hup,hun⟩ | ⟨rfl,hres⟩
  ·have HU:=zq hup
   have HN:=zq hun;clear hup hun;have hne:=zAo (g.nm_ne hj)
   obtain ⟨m,rfl⟩:∃ m,gk=m+1:=by
    cases gk with
    | zero=>exact absurd HU.o (by simp [upN])
    | succ m=>exact ⟨m,rfl⟩
   go_wp2;obtain ⟨wo,hwo⟩:∃ wo:World,wo=wr:=⟨_,rfl⟩;subst hwo
   go_loopg [7] a.length (LiesRel2 wo a (l[j]).nm)
   case atStart=>exact ⟨rfl,0,za,rfl,fun j _ hj=>absurd hj za⟩
   case round =>
    obtain ⟨hw,k,hk,rfl,hpre⟩:=hrel;subst hw;have HK:=zq hk;have HP:=zq hpre;have hk1:k≤a.length:=za;clear hk hpre
    by_cases hlt:k<a.length
    ·obtain ⟨b2,o2,rfl,hb2,hc2⟩:=h2.at_ za
     have hc0:=(hc2 k hlt).1;have hc1:=(hc2 k hlt).2;clear hc2
     by_cases hq:(a[k]).rg=(l[j]).nm
     ·have hqb:=zAn hq
      have hf:=findA_some hlt hq (fun j hj hjk=>HP.o j hj hjk)
      have hres:res = !(a[k]).out:=by
       rw [←HN.o,liesF,zBl hj,hf]
      have HS:=zq hres;clear hres hf hq;go_wp2;go_ret
      exact zAB.mk (zAs HS.o.symm) rfl
     ·have hqb:=zAm hq
      have HQ:=zq hq;clear hq;go_wp2
      go_roundg (gk - 1)
      case measure=>have:=HK.o;omega
      case rel =>
       refine ⟨rfl,k+1,zh,zi,fun j hj hjk=>?_⟩
       rcases aU j k with h1 | h1
       ·exact HP.o j hj h1
       ·obtain rfl:j=k:=by omega
        exact HQ.o
    ·have hfn:findA a (nmAt l j)=none:=findA_none fun t ht=>by rw [zBl hj];exact HP.o t ht za
     have HF:=zq hfn;clear hfn;have hix:idxI l (l[j]).nm=(j:Int):=by unfold idxI;rw [g.inc.idx hj]
     have HX:=zq hix;clear hix;obtain ⟨b,o,rfl,hb,hc⟩:=h.at_ za;have hc1:=(hc j hj).2;clear hc
     go_wp2_with fail
     refine (zCL _ _ _ _ _ hn h).mono ?_
     rintro e w' ⟨rfl,rfl⟩;rw [HX.o];go_wp2
     by_cases hp:(l[j]).par=emp
     ·have hu:=up_none hj hp
      go_roundg m
      case measure=>omega
      case rel =>
       refine ⟨rfl,.inr ⟨by rw [hp],?_⟩⟩
       have:=HN.o;rw [liesF,HF.o,hu] at this;exact this.symm
     ·obtain ⟨j',hj',hu,he⟩:=g.up_some hj hp
      go_roundg m
      case measure=>omega
      case rel =>
       refine ⟨rfl,.inl ⟨j',hj',by rw [he],?_,?_⟩⟩
       ·have:=HU.o
        simpa only [upN,hu] using this
       ·have:=HN.o
        rw [liesF,HF.o,hu] at this;exact this
  ·have HS:=zq hres
   clear hres;have hne:=emp_isEmpty;go_wp2;go_ret
   exact zAB.mk (zAs HS.o.symm) rfl
def zDz (v:Value) (w:World) (e:Ending) (w':World):Prop:=e = .returned v∧∃ n,w'=w.drewN n
theorem zDz.mk {v v':Value} {w w':World} (h:v=v') (hw:∃ n,w'=w.drewN n):zDz v' w (.returned v) w':=⟨by rw [h],hw⟩
def ChkARel (w:World) (l:List Rg) (a:List Ar) (m:Nat) (i:Value) (wr:World):Prop :=
 ∃ n,wr=w.drewN n∧∃ k:Nat,k+m=a.length∧i = .int .i64 k∧∀ j,j<k→zBu l a j=none
theorem checkAreaR_c (A A2:Option Addr) (c c2:Nat) (l:List Rg) (a:List Ar) (w:World) (hn:l.length≤200) (h:Rgs w A l) (h2:Ars w A2 a) :
  Calls Tryz.prog 195 #[.slice A l.length c,.slice A2 a.length c2] w (zDz (.int .i64 (zDw l a)) w):=by
 generalize hres:zDw l a=res;have HR:=zq hres;clear hres
 by_cases hlen:100<a.length
 ·go_enter Tryz.func195,Tryz.ntmps195
  go_wp2;go_ret
  refine zDz.mk (zAx ?_) ⟨0,rfl⟩
  rw [←HR.o];unfold zDw;rw [aE hlen]
 ·have hlen2:a.length≤100:=by omega
  go_enter Tryz.func195,Tryz.ntmps195
  go_wp2
  go_loopg [5] a.length (ChkARel w l a)
  case atStart=>exact ⟨0,rfl,0,za,rfl,fun j hj=>absurd hj za⟩
  case round =>
   obtain ⟨n,hw,k,hk,rfl,hpre⟩:=hrel;subst hw;have HK:=zq hk;have HP:=zq hpre;have hk1:k≤a.length:=za;clear hk hpre
   by_cases hlt:k<a.length
   ·obtain ⟨b2,o2,rfl,hb2,hc2⟩:=h2.at_ za
    have hc0:=(hc2 k hlt).1;have hr0:=zEm hlt
    by_cases hq:idx l (a[k]).rg=none
    ·have hix:idxI l (a[k]).rg = -1:=by unfold idxI;rw [hq]
     have hres:res=5:=by
      rw [←HR.o];unfold zDw;rw [aC hlen,zAU hlt HP.o (x:=5) (by unfold zBu;rw [hr0,aE hq])]
     have HS:=zq hres;have HX:=zq hix;clear hc2 hr0 hq hres hix
     go_wp2_with fail
     refine (zCL _ _ _ _ _ hn (h.drewN _)).mono ?_
     rintro e w' ⟨rfl,rfl⟩;rw [HX.o];go_wp2;go_ret
     exact zDz.mk (zAx HS.o.symm) ⟨_,rfl⟩
    ·obtain ⟨x,hx⟩:=Option.ne_none_iff_exists'.1 hq
     have hix:idxI l (a[k]).rg=(x:Int):=by unfold idxI;rw [hx]
     have HX:=zq hix;have HQ:=zq hq;clear hix hx hq
     by_cases hk0:0<k
     ·have hd:decide ((0:Int)<(k:Int))=true:=by simp;omega
      have hcp:=(hc2 (k - 1) za).1;have hr1:=zEm (a:=a) (i:=k - 1) za
      by_cases hle:sle (a[k]).rg (a[k - 1]).rg=true
      ·have hleb:=hle
       unfold sle at hleb
       have hres:res=8:=by
        rw [←HR.o];unfold zDw;rw [aC hlen,zAU hlt HP.o (x:=8) (by unfold zBu;rw [hr0,hr1,aC HQ.o,aE ⟨hk0,hle⟩])]
       have HS:=zq hres;clear hc2 hr0 hr1 hres hle
       go_wp2_with fail
       refine (zCL _ _ _ _ _ hn (h.drewN _)).mono ?_
       rintro e w' ⟨rfl,rfl⟩;rw [HX.o];go_wp2
       go_quiet (fail)
       go_wp2;go_ret
       exact zDz.mk (zAx HS.o.symm) ⟨_,World.drewN_drewN _ _ _⟩
      ·have hle':sle (a[k]).rg (a[k - 1]).rg=false:=by simpa using hle
       have hleb:=hle';unfold sle at hleb
       have HF:Hid (zBu l a k=none):=by
        show zBu l a k=none
        unfold zBu;rw [hr0,hr1,aC HQ.o,aC (fun hh=>hle hh.2)]
       clear hc2 hr0 hr1 hle hle'
       go_wp2_with fail
       refine (zCL _ _ _ _ _ hn (h.drewN _)).mono ?_
       rintro e w' ⟨rfl,rfl⟩;rw [HX.o];go_wp2
       go_quiet (fail)
       go_wp2
       go_roundg (gk - 1)
       case measure=>have:=HK.o;omega
       case rel =>
        refine ⟨_,rfl,k+1,zh,zi,fun j hj=>?_⟩
        rcases aU j k with h1 | h1
        ·exact HP.o j h1
        ·obtain rfl:j=k:=by omega
         exact HF.o
     ·have hd:decide ((0:Int)<(k:Int))=false:=by simp;omega
      have HF:Hid (zBu l a k=none):=by
       show zBu l a k=none
       unfold zBu;rw [hr0,aC HQ.o,aC za]
      clear hc2 hr0
      go_wp2_with fail
      refine (zCL _ _ _ _ _ hn (h.drewN _)).mono ?_
      rintro e w' ⟨rfl,rfl⟩;rw [HX.o];go_wp2
      go_quiet (fail)
      go_wp2
      go_roundg (gk - 1)
      case measure=>have:=HK.o;omega
      case rel =>
       refine ⟨_,rfl,k+1,zh,zi,fun j hj=>?_⟩
       rcases aU j k with h1 | h1
       ·exact HP.o j h1
       ·obtain rfl:j=k:=by omega
        exact HF.o
   ·have hres:res=0:=by
     rw [←HR.o];unfold zDw;rw [aC hlen,zBf (fun j hj=>HP.o j za)]
    have HS:=zq hres;clear hres;go_wp2;go_ret
    exact zDz.mk (zAx HS.o.symm) ⟨_,rfl⟩
theorem data_get (s:BA) (k:Nat) (h:k<s.size):s.data.toList[k]'(by simpa using h)=s[k]:=rfl
theorem zDC (s:BA) (h:0<s.size):s.data.toList.headD 0=s[0]:=by
 rw [←data_get s 0 h,List.headD_eq_head?_getD,List.head?_eq_getElem?];simp [h]
def NameRel (w:World) (s:BA) (m:Nat) (i:Value) (wr:World):Prop :=
 wr=w∧∃ k:Nat,k+m=s.size∧i = .int .i64 k∧∀ j (h:j<s.size),j<k→okB s[j]=true
theorem isNm_all {s:BA} (h1:1≤s.size) (h2:s.size≤40) (h3:97≤(s[0]'h1).toNat) (h4:(s[0]'h1).toNat≤122):zBe s=s.data.toList.all okB:=by
 unfold zBe;rw [zDC s h1];simp [h1,h2,h3,h4]
theorem zBn (s:BA) (w:World) (hs:s.size≤9223372036854775807) :
  Calls Tryz.prog 53 #[.string s] w (zAB (.bool (zBe s)) w):=by
 generalize hres:zBe s=res;have HR:=zq hres;clear hres
 by_cases h1:1≤s.size
 ·have he:s.toList.isEmpty=false:=zAo (fun e=>by rw [e] at h1;exact absurd h1 zd)
  by_cases h2:s.size≤40
  ·by_cases h3:97≤(s[0]'h1).toNat
   ·by_cases h4:(s[0]'h1).toNat≤122
    ·have hall:=isNm_all h1 h2 h3 h4
     have HA:=zq hall;clear hall
     go_enter Tryz.func53,Tryz.ntmps53
     go_wp2
     go_loopg [3] s.size (NameRel w s)
     case atStart=>exact ⟨rfl,0,za,rfl,fun j _ hj=>absurd hj za⟩
     case round =>
      obtain ⟨hw,k,hk,rfl,hpre⟩:=hrel;subst hw;have HK:=zq hk;have HP:=zq hpre;have hk1:k≤s.size:=za;clear hk hpre
      by_cases hlt:k<s.size
      ·have hcase:((97≤s[k].toNat∧s[k].toNat≤122)∨(48≤s[k].toNat∧s[k].toNat≤57)∨(45≤s[k].toNat∧s[k].toNat≤45))∨((122<s[k].toNat∧1≤s.size)∨(57<s[k].toNat∧s[k].toNat<97)∨(s[k].toNat<48∧s[k].toNat≠45)):=by omega
       rcases hcase with hcase | hcase
       ·have hok:okB s[k]=true:=by
         unfold okB
         rcases hcase with ⟨a1,a2⟩ | ⟨a1,a2⟩ | ⟨a1,a2⟩
         ·simp [a1,a2]
         ·simp [a1,a2]
         ·have:s[k].toNat=45:=by omega
          simp [this]
        have HO:=zq hok;clear hok
        have fin:∀ j (h:j<s.size),j<k+1→okB s[j]=true:=fun j hj hjk=>by
         rcases aU j k with h1 | h1
         ·exact HP.o j hj h1
         ·obtain rfl:j=k:=by omega
          exact HO.o
        have HF:=zq fin;clear fin
        rcases hcase with ⟨a1,a2⟩ | ⟨a1,a2⟩ | ⟨a1,a2⟩
        ·go_wp2
         go_roundg (gk - 1)
         case measure=>have:=HK.o;omega
         case rel=>exact ⟨rfl,k+1,zh,zi,HF.o⟩
        ·go_wp2
         go_roundg (gk - 1)
         case measure=>have:=HK.o;omega
         case rel=>exact ⟨rfl,k+1,zh,zi,HF.o⟩
        ·have hb:((s[k].toNat:Int) == 45)=true:=by rw [beq_iff_eq];omega
         go_wp2
         go_roundg (gk - 1)
         case measure=>have:=HK.o;omega
         case rel=>exact ⟨rfl,k+1,zh,zi,HF.o⟩
       ·have hb:((s[k].toNat:Int) == 45)=false:=by rw [aG];omega
        have hno:okB s[k]=false:=by
         unfold okB;simp
         omega
        have hres:res=false:=by
         rw [←HR.o,HA.o,List.all_eq_false];exact ⟨s[k],by rw [←data_get s k hlt];exact aJ _,by simp [hno]⟩
        have HS:=zq hres;clear hres hno
        rcases hcase with ⟨a1,a2⟩ | ⟨a1,a2⟩ | ⟨a1,a2⟩
        ·have d1:decide ((s[k].toNat:Int)≤122)=false:=by simp;omega
         have d2:decide ((s[k].toNat:Int)≤57)=false:=zg;go_wp2;go_ret
         exact zAB.mk (zAs HS.o.symm) rfl
        ·have d2:decide ((s[k].toNat:Int)≤57)=false:=by simp;omega
         go_wp2;go_ret
         exact zAB.mk (zAs HS.o.symm) rfl
        ·go_wp2
         go_ret
         exact zAB.mk (zAs HS.o.symm) rfl
      ·go_wp2
       go_ret
       refine zAB.mk (zAs ?_) rfl
       rw [←HR.o,HA.o,eq_comm,List.all_eq_true];intro x hx;obtain ⟨j,hj,rfl⟩:=aK hx;have hj':j<s.size:=qe;exact HP.o j hj' za
    ·go_enter Tryz.func53,Tryz.ntmps53
     go_wp2;go_ret
     refine zAB.mk (zAs ?_) rfl
     rw [←HR.o];unfold zBe;rw [zDC s h1];simp [h4]
   ·go_enter Tryz.func53,Tryz.ntmps53
    go_wp2;go_ret
    refine zAB.mk (zAs ?_) rfl
    rw [←HR.o];unfold zBe;rw [zDC s h1];simp [h3]
  ·go_enter Tryz.func53,Tryz.ntmps53
   go_wp2;go_ret
   refine zAB.mk (zAs ?_) rfl
   rw [←HR.o];unfold zBe;simp [h2]
 ·have he:s.toList.isEmpty=true:=by
   cases hs:s.toList with
   | nil=>rfl
   | cons a l =>
    have:=bH List.length hs;rw [toList_eq] at this;simp at this
    omega
  go_enter Tryz.func53,Tryz.ntmps53
  go_wp2;go_ret
  refine zAB.mk (zAs ?_) rfl
  rw [←HR.o];unfold zBe;simp [h1]
def ChkR1 (w:World) (l:List Rg) (m:Nat) (i:Value) (wr:World):Prop :=
 ∃ n,wr=w.drewN n∧∃ k:Nat,k+m=l.length∧i = .int .i64 k∧∀ j,j<k→zBa l j=none
def ChkR2 (w:World) (l:List Rg) (m:Nat) (i:Value) (wr:World):Prop :=
 ∃ n,wr=w.drewN n∧∃ k:Nat,k+m=l.length∧i = .int .i64 k∧∀ j (h:j<l.length),j<k→zBS l l[j]=false
def ChkR3 (w:World) (l:List Rg) (m:Nat) (i:Value) (wr:World):Prop :=
 ∃ n,wr=w.drewN n∧∃ k:Nat,k+m=l.length∧i = .int .i64 k∧∀ j,j<k→∀ d,0<d→d≤l.length+1→upN l d j≠some j
def ChkR4 (w:World) (l:List Rg) (i:Nat) (m:Nat) (at_ n:Value) (wr:World):Prop :=
 wr=w∧∃ k:Nat,k+m=l.length+1∧n = .int .i64 k∧∃ j,j<l.length∧at_ = .int .i64 j∧upN l k i=some j∧∀ d,0<d→d≤k→upN l d i≠some i
theorem parBad_false {l:List Rg} (h:∀ j (h:j<l.length),zBS l l[j]=false) {i:Nat} (hi:i<l.length) (hp:(l[i]).par≠emp):∃ j,idx l (l[i]).par=some j:=by
 have:=h i hi;unfold zBS at this
 cases hx:idx l (l[i]).par with
 | some j=>exact ⟨j,rfl⟩
 | none=>rw [hx] at this;simp [hp] at this
theorem chkR_head {l:List Rg} (h1:l≠[]) (h2:¬ 200<l.length):zDU l=match (List.range l.length).findSome? (zBa l) with
 | some f=>f
 | none=>if l.any (zBS l)=true then 5 else if EndsR l then 0 else 14:=by
 unfold zDU;rw [aC h1,aC h2]<;>rfl
theorem chkR_first {l:List Rg} (h1:l≠[]) (h2:¬ 200<l.length) {k:Nat} {x:Int} (hk:k<l.length) (hpre:∀ j,j<k→zBa l j=none) (h:zBa l k=some x):zDU l=x:=by
 rw [chkR_head h1 h2,zAU hk hpre h]
theorem chkR_par {l:List Rg} (h1:l≠[]) (h2:¬ 200<l.length) (hpre:∀ j,j<l.length→zBa l j=none) {k:Nat} (hk:k<l.length) (h:zBS l l[k]=true):zDU l=5:=by
 rw [chkR_head h1 h2,zBf hpre];simp only [];rw [aE (List.any_eq_true.2 ⟨l[k],aJ hk,h⟩)]
theorem chkR_last {l:List Rg} (h1:l≠[]) (h2:¬ 200<l.length) (hpre:∀ j,j<l.length→zBa l j=none) (h:∀ j (h:j<l.length),zBS l l[j]=false):zDU l=if EndsR l then 0 else 14:=by
 rw [chkR_head h1 h2,zBf hpre];simp only [];rw [aC];intro hh;obtain ⟨x,hx,hb⟩:=List.any_eq_true.1 hh;obtain ⟨j,hj,rfl⟩:=aK hx;rw [h j hj] at hb;cases hb
theorem CheckRegionsR_c (A:Option Addr) (c:Nat) (l:List Rg) (w:World) (h:Rgs w A l) (hz:∀ i (h:i<l.length),(l[i]).nm.size≤9223372036854775807) :
  Calls Tryz.prog 93 #[.slice A l.length c] w (zDz (.int .i64 (zDU l)) w):=by
 generalize hres:zDU l=res;have HR:=zq hres;clear hres
 by_cases h1:l=[]
 ·subst h1
  go_enter Tryz.func93,Tryz.ntmps93
  go_wp2;go_ret
  refine zDz.mk (zAx ?_) ⟨0,rfl⟩
  rw [←HR.o];rfl
 have h1':0<l.length:=List.length_pos_iff.2 h1;have hl0:((l.length:Int) == 0)=false:=by rw [aG];omega
 by_cases hlen:200<l.length
 ·go_enter Tryz.func93,Tryz.ntmps93
  go_wp2;go_ret
  refine zDz.mk (zAx ?_) ⟨0,rfl⟩
  rw [←HR.o];unfold zDU;rw [aC h1,aE hlen]
 have hn:l.length≤200:=za;obtain ⟨b,o,rfl,hb,hc⟩:=h.at_ h1';have HC:=zq hc;have HZ:=zq hz;have H1:=zq h1;clear hc hz h1
 go_enter Tryz.func93,Tryz.ntmps93
 go_wp2
 go_loopg [3] l.length (ChkR1 w l)
 case atStart=>exact ⟨0,rfl,0,za,rfl,fun j hj=>absurd hj za⟩
 case round =>
  obtain ⟨n,hw,k,hk,rfl,hpre⟩:=hrel;subst hw;have HK:=zq hk;have HP:=zq hpre;have hk1:k≤l.length:=za;clear hk hpre
  by_cases hlt:k<l.length
  ·have hc0:=(HC.o k hlt).1
   have hr0:=zBl hlt;have hzk:=HZ.o k hlt
   by_cases hq:zBe (l[k]).nm=true
   ·by_cases hk0:0<k
    ·have hd:decide ((0:Int)<(k:Int))=true:=by simp;omega
     have hcp:=(HC.o (k - 1) za).1;have hr1:=zBl (l:=l) (i:=k - 1) za
     by_cases hle:sle (l[k]).nm (l[k - 1]).nm=true
     ·have hleb:=hle
      unfold sle at hleb
      have hres:res=8:=by
       rw [←HR.o,chkR_first H1.o hlen hlt HP.o (x:=8) (by unfold zBa;rw [hr0,hr1,aC (by rw [hq];simp),aE ⟨hk0,hle⟩])]
      have HS:=zq hres;have HQ:=zq hq;clear hr0 hr1 hres hle hq
      go_wp2_with fail
      refine (zBn _ _ hzk).mono ?_
      rintro e w' ⟨rfl,rfl⟩;rw [HQ.o];go_wp2
      go_quiet (fail)
      go_wp2;go_ret
      exact zDz.mk (zAx HS.o.symm) ⟨_,World.drewN_drewN _ _ _⟩
     ·have hle':sle (l[k]).nm (l[k - 1]).nm=false:=by simpa using hle
      have hleb:=hle';unfold sle at hleb
      have HF:Hid (zBa l k=none):=by
       show zBa l k=none
       unfold zBa;rw [hr0,hr1,aC (by rw [hq];simp),aC (fun hh=>hle hh.2)]
      have HQ:=zq hq;clear hr0 hr1 hle hle' hq
      go_wp2_with fail
      refine (zBn _ _ hzk).mono ?_
      rintro e w' ⟨rfl,rfl⟩;rw [HQ.o];go_wp2
      go_quiet (fail)
      go_wp2
      go_roundg (gk - 1)
      case measure=>have:=HK.o;omega
      case rel =>
       refine ⟨_,rfl,k+1,zh,zi,fun j hj=>?_⟩
       rcases aU j k with h1 | h1
       ·exact HP.o j h1
       ·obtain rfl:j=k:=by omega
        exact HF.o
    ·have hd:decide ((0:Int)<(k:Int))=false:=by simp;omega
     have HF:Hid (zBa l k=none):=by
      show zBa l k=none
      unfold zBa;rw [hr0,aC (by rw [hq];simp),aC za]
     have HQ:=zq hq;clear hr0 hq
     go_wp2_with fail
     refine (zBn _ _ hzk).mono ?_
     rintro e w' ⟨rfl,rfl⟩;rw [HQ.o];go_wp2
     go_quiet (fail)
     go_wp2
     go_roundg (gk - 1)
     case measure=>have:=HK.o;omega
     case rel =>
      refine ⟨_,rfl,k+1,zh,zi,fun j hj=>?_⟩
      rcases aU j k with h1 | h1
      ·exact HP.o j h1
      ·obtain rfl:j=k:=by omega
       exact HF.o
   ·have hq':zBe (l[k]).nm=false:=by simpa using hq
    have hres:res=5:=by
     rw [←HR.o,chkR_first H1.o hlen hlt HP.o (x:=5) (by unfold zBa;rw [hr0,aE hq'])]
    have HS:=zq hres;have HQ:=zq hq';clear hr0 hres hq hq'
    go_wp2_with fail
    refine (zBn _ _ hzk).mono ?_
    rintro e w' ⟨rfl,rfl⟩;rw [HQ.o];go_wp2;go_ret
    exact zDz.mk (zAx HS.o.symm) ⟨_,rfl⟩
  ·have hF0:∀ j,j<l.length→zBa l j=none:=fun j hj=>HP.o j za
   have HF0:=zq hF0;clear hF0;go_wp2;clear HK HP hk1 hlt
   go_loopg [4] l.length (ChkR2 w l)
   case atStart=>exact ⟨_,rfl,0,za,rfl,fun j _ hj=>absurd hj za⟩
   case round =>
    obtain ⟨n2,hw,k,hk,rfl,hpre⟩:=hrel;subst hw;have HK:=zq hk;have HP:=zq hpre;have hk1:k≤l.length:=za;clear hk hpre
    by_cases hlt:k<l.length
    ·have hc0:=(HC.o k hlt).2
     by_cases hp:(l[k]).par=emp
     ·have he:=zAr hp
      have HF:Hid (zBS l l[k]=false):=by
       show zBS l l[k]=false
       simp [zBS,hp]
      clear hp;go_wp2
      go_roundg (gk - 1)
      case measure=>have:=HK.o;omega
      case rel =>
       refine ⟨_,rfl,k+1,zh,zi,fun j hj hjk=>?_⟩
       rcases aU j k with h1 | h1
       ·exact HP.o j hj h1
       ·obtain rfl:j=k:=by omega
        exact HF.o
     ·have he:=zAo hp
      cases hix:idx l (l[k]).par with
      | none =>
       have hi0:idxI l (l[k]).par = -1:=by unfold idxI;rw [hix]
       have hres:res=5:=by
        rw [←HR.o];exact chkR_par H1.o hlen HF0.o hlt (by simp [zBS,hp,hix])
       have HS:=zq hres;have HX:=zq hi0;clear hres hi0 hix hp
       go_wp2_with fail
       refine (zCL _ _ _ _ _ hn (h.drewN _)).mono ?_
       rintro e w' ⟨rfl,rfl⟩;rw [HX.o];go_wp2;go_ret
       exact zDz.mk (zAx HS.o.symm) ⟨_,rfl⟩
      | some x =>
       have hi0:idxI l (l[k]).par=(x:Int):=by unfold idxI;rw [hix]
       have HF:Hid (zBS l l[k]=false):=by
        show zBS l l[k]=false
        simp [zBS,hix]
       have HX:=zq hi0;clear hi0 hix hp
       go_wp2_with fail
       refine (zCL _ _ _ _ _ hn (h.drewN _)).mono ?_
       rintro e w' ⟨rfl,rfl⟩;rw [HX.o];go_wp2
       go_roundg (gk - 1)
       case measure=>have:=HK.o;omega
       case rel =>
        refine ⟨_,rfl,k+1,zh,zi,fun j hj hjk=>?_⟩
        rcases aU j k with h1 | h1
        ·exact HP.o j hj h1
        ·obtain rfl:j=k:=by omega
         exact HF.o
    ·have hP0:∀ j (h:j<l.length),zBS l l[j]=false:=fun j hj=>HP.o j hj za
     have HP0:=zq hP0;clear hP0;go_wp2;clear HK HP hk1 hlt
     go_loopg [5] l.length (ChkR3 w l)
     case atStart=>exact ⟨_,rfl,0,za,rfl,fun j hj=>absurd hj za⟩
     case round =>
      obtain ⟨n3,hw,i,hk,rfl,hpre⟩:=hrel;subst hw;have HK:=zq hk;have HP:=zq hpre;have hk1:i≤l.length:=za;clear hk hpre;obtain ⟨g1,hg1⟩:∃ g1,g1=gk:=⟨_,rfl⟩;subst hg1
      by_cases hlt:i<l.length
      ·go_wp2
       go_loopg [6,7] (l.length+1) (ChkR4 (w.drewN n3) l i)
       case atStart=>exact ⟨rfl,0,za,rfl,i,hlt,rfl,rfl,fun d h1 h2=>absurd h1 za⟩
       case round =>
        obtain ⟨hw,k,hk,rfl,j,hj,rfl,hup,hno⟩:=hrel;subst hw;have HK4:=zq hk;have HU:=zq hup;have HN:=zq hno;have hk2:k≤l.length+1:=za;clear hk hup hno
        by_cases hlt2:k≤l.length
        ·have hc1:=(HC.o j hj).2
         by_cases hp:(l[j]).par=emp
         ·have he:=zAr hp
          have hstop:∀ d,0<d→d≤l.length+1→upN l d i≠some i:=fun d h1 h2=>by
           rcases aU k d with h3 | h3
           ·have:upN l (k+1) i=none:=by rw [zEn,HU.o];simp [upN,up_none hj hp]
            rw [zBP this h3];simp
           ·exact HN.o d h1 h3
          have HS:=zq hstop;clear hstop hp;go_wp2
          go_roundg (g1 - 1)
          case measure=>have:=HK.o;omega
          case rel =>
           refine ⟨_,rfl,i+1,zh,zi,fun t ht d h1 h2=>?_⟩
           rcases aU t i with h3 | h3
           ·exact HP.o t h3 d h1 h2
           ·obtain rfl:t=i:=by omega
            exact HS.o d h1 h2
         ·have he:=zAo hp
          obtain ⟨j',hx⟩:=parBad_false HP0.o hj hp;obtain ⟨hj',hnm⟩:=zEj hx;have hi0:idxI l (l[j]).par=(j':Int):=by unfold idxI;rw [hx]
          have hup':upN l (k+1) i=some j':=by
           rw [zEn,HU.o];simp [upN,up_of hj,hp,hx]
          have HX:=zq hi0;have HU':=zq hup';clear hi0 hup' hx hnm hp
          by_cases hji:j'=i
          ·have hji':((j':Int) == (i:Int))=true:=by rw [beq_iff_eq];omega
           have hres:res=14:=by
            rw [←HR.o,chkR_last H1.o hlen HF0.o HP0.o,aC];rw [not_ends_iff];refine twice_of_long hlt (fun hnn=>?_)
            have e:upN l (k+1) i=some i:=by rw [HU'.o,hji]
            have h3:=zDN e l.length
            rw [zBP hnn (by
             have:l.length*1≤(k+1)*l.length:=by rw [bB];exact aP _ za
             omega)] at h3
            cases h3
           have HS:=zq hres;have HJ:=zq hji;clear hres hji
           go_wp2_with fail
           refine (zCL _ _ _ _ _ hn (h.drewN _)).mono ?_
           rintro e w' ⟨rfl,rfl⟩;rw [HX.o];go_wp2;go_ret
           exact zDz.mk (zAx HS.o.symm) ⟨_,rfl⟩
          ·have hji':((j':Int) == (i:Int))=false:=by rw [aG];omega
           have HJ:=zq hji;clear hji
           go_wp2_with fail
           refine (zCL _ _ _ _ _ hn (h.drewN _)).mono ?_
           rintro e w' ⟨rfl,rfl⟩;rw [HX.o];go_wp2
           go_roundg (gk - 1)
           case measure=>have:=HK4.o;omega
           case rel =>
            refine ⟨rfl,k+1,by have:=HK4.o;omega,zi,j',hj',rfl,HU'.o,fun d h1 h2=>?_⟩
            rcases aU k d with h3 | h3
            ·obtain rfl:d=k+1:=by omega
             rw [HU'.o];intro e
             injection e with e
             exact HJ.o e
            ·exact HN.o d h1 h3
        ·have hke:k=l.length+1:=by omega
         have HKE:=zq hke;clear hke;go_wp2
         go_roundg (g1 - 1)
         case measure=>have:=HK.o;omega
         case rel =>
          refine ⟨_,rfl,i+1,zh,zi,fun t ht d h1 h2=>?_⟩
          rcases aU t i with h3 | h3
          ·exact HP.o t h3 d h1 h2
          ·obtain rfl:t=i:=by omega
           exact HN.o d h1 (by rw [HKE.o];exact h2)
      ·have hres:res=0:=by
        rw [←HR.o,chkR_last H1.o hlen HF0.o HP0.o,aE];refine aL fun hh=>?_
        obtain ⟨t,m,ht,hm,hml,e⟩:=not_ends_iff.1 hh;exact HP.o t za m hm za e
       have HS:=zq hres;clear hres;go_wp2;go_ret
       exact zDz.mk (zAx HS.o.symm) ⟨_,rfl⟩
theorem elStr:ElemT Tryz.prog 23 9 (.string ⟨#[]⟩) 1 16:=⟨Tryz.underlying23,zc,rfl,zd⟩
abbrev encS:BA→List Value:=fun s=>[.string s]
def GivesS (l:List BA) (w:World) (e:Ending) (w':World):Prop :=
 ∃ A c,e = .returned (.slice A l.length c)∧Strs w' A l∧Below w.heap.size w w'
def zAe (v:Value) (w:World) (e:Ending) (w':World):Prop:=e = .returned v∧Below w.heap.size w w'
theorem zAe.mk {v v':Value} {w w':World} (h:v=v') (hw:Below w.heap.size w w'):zAe v' w (.returned v) w':=⟨by rw [h],hw⟩
theorem zCm {p:Nat→Bool} (k:Nat):(List.range (k+1)).filter p=(List.range k).filter p++(if p k then [k] else []):=by
 rw [dV,dW]
 cases h:p k<;>simp [h]
def zCt (l:List Rg) (p:Nat→Bool) (k:Nat):List BA:=((List.range k).filter p).map (nmAt l)
theorem gath_yes {l:List Rg} {p:Nat→Bool} {k:Nat} (h:p k=true):zCt l p (k+1)=zCt l p k++[nmAt l k]:=by
 unfold zCt;rw [zCm,h];simp
theorem gath_no {l:List Rg} {p:Nat→Bool} {k:Nat} (h:p k=false):zCt l p (k+1)=zCt l p k:=by
 unfold zCt;rw [zCm,h];simp
theorem gath_le (l:List Rg) (p:Nat→Bool) (k:Nat):(zCt l p k).length≤k:=by
 unfold zCt;rw [aM];have:=dX p (List.range k)
 simpa using this
def GathRel (w:World) (l:List Rg) (p:Nat→Bool) (m:Nat) (out i:Value) (wr:World):Prop :=
 ∃ k:Nat,k+m=l.length∧i = .int .i64 k∧zAT encS 1 wr w.heap.size 9 out (zCt l p k)∧Below w.heap.size w wr
def leafP (l:List Rg) (a:List Ar) (i:Nat):Bool:=!zAL l i&&lies l a i
theorem gath_leaves (l:List Rg) (a:List Ar):zCt l (leafP l a) l.length=zBC l a:=by
 unfold zCt zBC zAG;rw [List.filter_filter]
 congr 1
 apply List.filter_congr
 intro x _;unfold leafP;rw [Bool.and_comm]
theorem leaves_c (A A2:Option Addr) (c c2:Nat) (l:List Rg) (a:List Ar) (w:World) (g:GoodR l) (h:Rgs w A l) (h2:Ars w A2 a) (hn2:a.length≤100) :
  Calls Tryz.prog 196 #[.slice A l.length c,.slice A2 a.length c2] w (GivesS (zBC l a) w):=by
 have hn:=g.len;obtain ⟨b,o,rfl,hb,hc⟩:=h.at_ (List.length_pos_iff.2 g.ne);have HC:=zq hc;clear hc
 go_enter Tryz.func196,Tryz.ntmps196
 go_wp2
 go_loopg [5,6] l.length (GathRel w l (leafP l a))
 case atStart=>exact ⟨0,za,rfl,zAT.nil _ _ _ _ _,aS _ _⟩
 case round =>
  obtain ⟨k,hk,rfl,hown,hbel⟩:=hrel;have HK:=zq hk;have hk1:k≤l.length:=za;clear hk
  by_cases hlt:k<l.length
  ·have hc0:wr.cell? ⟨b,o+k*2,none⟩=some (.string (l[k]).nm):=(hbel.cell hb).trans (HC.o k hlt).1
   have hwr:w.heap.size≤wr.heap.size:=hbel.size;have hbr:b<wr.heap.size:=za;have hle:=gath_le l (leafP l a) k;have hlf:=leafB_at g hlt
   by_cases hq:zAL l k=true
   ·have hl2:leafB l (l[k]).nm=false:=by rw [hlf,hq];rfl
    have HL:=zq hl2;have HQ:Hid (leafP l a k=false):=by show leafP l a k=false;simp [leafP,hq]
    clear hlf hl2 hq
    go_wp2_with fail
    refine (IsLeaf_c _ _ _ _ _ hn (h.below hbel)).mono ?_
    rintro e w' ⟨rfl,rfl⟩;rw [HL.o];go_wp2
    go_roundg (gk - 1)
    case measure=>have:=HK.o;omega
    case rel=>exact ⟨k+1,zh,zi,by rw [gath_no HQ.o];exact hown,hbel⟩
   ·have hl2:leafB l (l[k]).nm=true:=by rw [hlf];simp [hq]
    have HL:=zq hl2;have HQ:=zq hq;clear hlf hl2 hq
    cases hli:lies l a k with
    | false =>
     have HP:Hid (leafP l a k=false):=by show leafP l a k=false;simp [leafP,hli]
     have HI:=zq hli;clear hli
     go_wp2_with fail
     refine (IsLeaf_c _ _ _ _ _ hn (h.below hbel)).mono ?_
     rintro e w' ⟨rfl,rfl⟩;rw [HL.o]
     go_wp2_with fail
     refine (lies_c _ _ _ _ _ _ _ g (h.below hbel) (h2.below hbel) hn2 k hlt).mono ?_
     rintro e w' ⟨rfl,rfl⟩;rw [HI.o];go_wp2
     go_roundg (gk - 1)
     case measure=>have:=HK.o;omega
     case rel=>exact ⟨k+1,zh,zi,by rw [gath_no HP.o];exact hown,hbel⟩
    | true =>
     have HP:Hid (leafP l a k=true):=by show leafP l a k=true;simp [leafP,hli,HQ.o]
     have HI:=zq hli;clear hli
     go_wp2_with fail
     refine (IsLeaf_c _ _ _ _ _ hn (h.below hbel)).mono ?_
     rintro e w' ⟨rfl,rfl⟩;rw [HL.o]
     go_wp2_with fail
     refine (lies_c _ _ _ _ _ _ _ g (h.below hbel) (h2.below hbel) hn2 k hlt).mono ?_
     rintro e w' ⟨rfl,rfl⟩;rw [HI.o]
     go_wp2_with (at_builtin;refine zBB _ _ _ elStr rfl rfl w.heap.size _ (zCt l (leafP l a) k) rfl (hown.alloc _) wr.heap.size 1 (nmAt l k) rfl (by rw [zBl hlt];exact cS _ _) rfl zy zm za zg ?_;intro v1 w1 hown1 hg1 hb1)
     have HO:=zq hown1;have hbel1:=(hbel.alloc hwr _).trans hb1;have HB:=zq hbel1;clear hown hown1 hg1 hb1 hbel hbel1;go_wp2
     go_roundg (gk - 1)
     case measure=>have:=HK.o;omega
     case rel=>exact ⟨k+1,zh,zi,by rw [gath_yes HP.o];exact HO.o,HB.o⟩
  ·have hke:k=l.length:=by omega
   have HKE:=zq hke;clear hke;obtain ⟨A',c',rfl,hrd⟩:=hown.rd1;go_wp2;go_ret
   have e:zCt l (leafP l a) k=zBC l a:=by rw [HKE.o,gath_leaves]
   rw [e] at hrd ⊢;exact ⟨A',c',rfl,hrd,hbel⟩
theorem leafIdx_lt {l:List Rg} {t:Nat} (h:t<(zAG l).length):(zAG l)[t]<l.length:=by
 have:=aJ h;unfold zAG at this;rw [List.mem_filter,List.mem_range] at this;exact this.1
abbrev inV (ng:Bool) (A:Option Addr) (c n:Nat):Value:=.agg #[.bool ng,.slice A (zAc B32 n).length c]
abbrev raV (ng:Bool) (A:Option Addr) (c n:Nat) (A2:Option Addr) (c2 d:Nat):Value:=.agg #[.bool ng,.slice A (zAc B32 n).length c,.slice A2 (zAc B32 d).length c2]
def GivesI (ng:Bool) (n:Nat) (w:World) (e:Ending) (w':World):Prop:=∃ A c,e = .returned (inV ng A c n)∧Nt w' A c n∧Below w.heap.size w w'
def zCB (ng:Bool) (n d:Nat) (w:World) (e:Ending) (w':World):Prop :=
 ∃ A c A2 c2,e = .returned (raV ng A c n A2 c2 d)∧Nt w' A c n∧Nt w' A2 c2 d∧Below w.heap.size w w'
theorem bcellK {W w1:World} (hb:Below W.heap.size W w1):(∀ b o,b<W.heap.size→w1.cell? ⟨b,o,none⟩=W.cell? ⟨b,o,none⟩)∧(∀ b o,b<W.heap.size→w1.frozen? ⟨b,o,none⟩=W.frozen? ⟨b,o,none⟩) :=
 ⟨fun b o h=>hb.cell (p:=⟨b,o,none⟩) h,fun b o h=>hb.frozen (p:=⟨b,o,none⟩) h⟩
theorem Nt.alloc {w:World} {A:Option Addr} {c n:Nat} (h:Nt w A c n) (o:Obj):Nt (w.alloc o) A c n:=⟨h.rd.alloc o,h.cap⟩
theorem Nt.drew {w:World} {A:Option Addr} {c n:Nat} (h:Nt w A c n):Nt w.drew A c n:=⟨h.rd,h.cap⟩
theorem Nt.set {w:World} {A:Option Addr} {c n:Nat} {p:Addr} {v:Value} (h:Nt w A c n) (hp:w.cell? p=some v) (hv:∀ x:Nat,v≠u32V x) (u:Value):Nt (w.setCell p u) A c n:=by
 refine ⟨fun hl=>?_,h.cap⟩
 obtain ⟨b,o,rfl,hc⟩:=h.rd hl;refine ⟨b,o,rfl,fun i hi=>?_⟩
 rw [World.cell?_setCell_other _ _ _ _ (fun e=>?_)]
 ·exact hc i hi
 ·have h1:=hc i hi
  rw [←e] at h1;rw [hp] at h1
  injection h1 with h1
  exact hv _ h1
theorem Nt.set2 {w:World} {A:Option Addr} {c n R:Nat} {v0 v1:Value} (h:Nt w A c n) (h0:w.cell? ⟨R,0,none⟩=some v0) (h1:w.cell? ⟨R,1,none⟩=some v1) (n0:∀ x:Nat,v0≠u32V x) (n1:∀ x:Nat,v1≠u32V x) (u0 u1:Value) :
  Nt ((w.setCell ⟨R,0,none⟩ u0).setCell ⟨R,1,none⟩ u1) A c n :=
 (h.set h0 n0 u0).set (by rw [World.cell?_setCell_other _ _ _ _ (fun e=>jt)];exact h1) n1 u1
theorem Nt.set3 {w:World} {A:Option Addr} {c n R:Nat} {v0 v1 v2:Value} (h:Nt w A c n) (h0:w.cell? ⟨R,0,none⟩=some v0) (h1:w.cell? ⟨R,1,none⟩=some v1) (h2:w.cell? ⟨R,2,none⟩=some v2) (n0:∀ x:Nat,v0≠u32V x) (n1:∀ x:Nat,v1≠u32V x) (n2:∀ x:Nat,v2≠u32V x) (u0 u1 u2:Value) :
  Nt (((w.setCell ⟨R,0,none⟩ u0).setCell ⟨R,1,none⟩ u1).setCell ⟨R,2,none⟩ u2) A c n :=
 (h.set2 h0 h1 n0 n1 u0 u1).set (by
  rw [World.cell?_setCell_other _ _ _ _ (fun e=>jt),World.cell?_setCell_other _ _ _ _ (fun e=>jt)];exact h2) n2 u2
theorem nb_ (b:Bool) (x:Nat):Value.bool b≠u32V x:=fun e=>by cases e
theorem ns_ (A:Option Addr) (n c x:Nat):Value.slice A n c≠u32V x:=fun e=>by cases e
theorem IMul_c (A A2:Option Addr) (c c2 a b:Nat) (w:World) (h:Nt w A c a) (h2:Nt w A2 c2 b) (hn:(zAc B32 a).length≤400000000) (hm:(zAc B32 b).length≤400000000) :
  Calls Tryz.prog 76 #[inV false A c a,inV false A2 c2 b] w (GivesI false (a*b) w):=by
 go_enter Tryz.func76,Tryz.ntmps76
 go_wp2_with fail
 with_reducible refine (Mul_c A A2 c c2 a b _ (((h.alloc _).alloc _).alloc _) (((h2.alloc _).alloc _).alloc _) hn hm).mono ?_
 rintro e w1 ⟨A5,c5,rfl,h5,hb⟩;obtain ⟨hc,hf⟩:=bcellK hb;have hz:w.heap.size+2<w1.heap.size:=jh;have c0:w1.cell? ⟨w.heap.size+1+1,0,none⟩=some (.bool false):=zo;have c1:w1.cell? ⟨w.heap.size+1+1,1,none⟩=some (.slice none 0 0):=zo;have HB:Hid (Below w.heap.size w w1):=((((aS w.heap.size w).alloc (aB _) _).alloc ze _).alloc zg _).trans (hb.mono zg);go_wp2;refine dY (v:=inV false A5 c5 (a*b)) (by simp [results,Tryz.results76,go_sem,hc]) rfl ⟨A5,c5,rfl,?_,?_⟩
 ·exact h5.set2 c0 c1 (nb_ _) (ns_ _ _ _) _ _
 ·exact (HB.o.setCell zg _).setCell zg _
theorem ICmp_c (A A2:Option Addr) (c c2 a b:Nat) (w:World) (h:Nt w A c a) (h2:Nt w A2 c2 b) (hn:(zAc B32 a).length≤400000000) :
  Calls Tryz.prog 77 #[inV false A c a,inV false A2 c2 b] w (zAe (.int .i64 (zCZ a b)) w):=by
 go_enter Tryz.func77,Tryz.ntmps77
 go_wp2_with fail
 with_reducible refine (Cmp_c A A2 c c2 a b _ ((h.alloc _).alloc _) ((h2.alloc _).alloc _) za).mono ?_
 rintro e w1 ⟨rfl,nd,rfl⟩;go_wp2;go_ret
 exact zAe.mk rfl (zAd (((aS w.heap.size w).alloc (aB _) _).alloc ze _) nd)
theorem IAdd_c (A A2:Option Addr) (c c2 a b:Nat) (w:World) (h:Nt w A c a) (h2:Nt w A2 c2 b) (hn:(zAc B32 a).length≤400000000) (hm:(zAc B32 b).length≤400000000) :
  Calls Tryz.prog 118 #[inV false A c a,inV false A2 c2 b] w (GivesI false (a+b) w):=by
 have HA:=zq (fun W (q:Nt W A c a) (q2:Nt W A2 c2 b)=>Add_c A A2 c c2 a b W q q2 za za)
 go_enter Tryz.func118,Tryz.ntmps118
 go_wp2
 go_region_held3 (fun w'=>w'.cell? ⟨w.heap.size,0,none⟩=some (.bool false)∧w'.cell? ⟨w.heap.size,1,none⟩=some (.slice A (zAc B32 a).length c)∧w'.cell? ⟨w.heap.size+1,1,none⟩=some (.slice A2 (zAc B32 b).length c2)) ((refine ⟨?_,?_,?_⟩<;>go_simp))
  (first
   | ((go_at_call 169;(with_reducible refine (HA.o _ (Nt.drew (((h.alloc _).alloc _).alloc _)) (Nt.drew (((h2.alloc _).alloc _).alloc _))).mono ?_);rintro e w1 ⟨A5,c5,rfl,h5,hb⟩;obtain ⟨hc,hf⟩:=bcellK hb;have hz:w.heap.size+2<w1.heap.size:=by (have:=hb.size;simp at this;omega))))
 have c0:w1.cell? ⟨w.heap.size+1+1,0,none⟩=some (.bool false):=zo;have c1:w1.cell? ⟨w.heap.size+1+1,1,none⟩=some (.slice none 0 0):=zo;have HB:Hid (Below w.heap.size w w1):=(zAd ((((aS w.heap.size w).alloc (aB _) _).alloc ze _).alloc zg _) 1).trans (hb.mono zg);go_wp2;refine dY (v:=inV false A5 c5 (a+b)) (by simp [results,Tryz.results118,go_sem,hc]) rfl ⟨A5,c5,rfl,?_,?_⟩
 ·exact h5.set2 c0 c1 (nb_ _) (ns_ _ _ _) _ _
 ·exact (HB.o.setCell zg _).setCell zg _
def sgnI (ng:Bool) (n:Nat):Int:=if ng=true then -1 else if n=0 then 0 else 1
theorem ISign_c (ng:Bool) (A:Option Addr) (c n:Nat) (w:World):Calls Tryz.prog 162 #[inV ng A c n] w (zAe (.int .i64 (sgnI ng n)) w):=by
 cases ng with
 | true =>
  go_enter Tryz.func162,Tryz.ntmps162
  go_wp2;go_ret
  exact zAe.mk rfl ((aS w.heap.size w).alloc (aB _) _)
 | false =>
  by_cases h0:n=0
  ·subst h0
   go_enter Tryz.func162,Tryz.ntmps162
   go_wp2;go_ret
   exact zAe.mk rfl ((aS w.heap.size w).alloc (aB _) _)
  ·have hl:0<(zAc B32 n).length:=by
    rcases bR (zAc B32 n).length with e | e
    ·exact absurd ((zCv zAu (n:=n)).1 (dQ e)) h0
    ·exact e
   have hr:sgnI false n=1:=by simp [sgnI,h0]
   rw [hr];have HR:=zq hr;clear hr h0
   go_enter Tryz.func162,Tryz.ntmps162
   go_wp2;go_ret
   exact zAe.mk rfl ((aS w.heap.size w).alloc (aB _) _)
theorem RSign_c (ng:Bool) (A A2:Option Addr) (c c2 n d:Nat) (w:World):Calls Tryz.prog 110 #[raV ng A c n A2 c2 d] w (zAe (.int .i64 (sgnI ng n)) w):=by
 go_enter Tryz.func110,Tryz.ntmps110
 go_wp2_with fail
 with_reducible refine (ISign_c ng A c n _).mono ?_
 rintro e w1 ⟨rfl,hb⟩;go_wp2;go_ret
 exact zAe.mk rfl (((aS w.heap.size w).alloc (aB _) _).trans (hb.mono ze))
theorem one_cases {w:World} {A:Option Addr} {c m:Nat} (h:Nt w A c m) (hm:0<m) :
  (m=1∧(zAc B32 m).length=1∧∃ b o,A=some ⟨b,o,none⟩∧b<w.heap.size∧w.cell? ⟨b,o,none⟩=some (.int .u32 1)) ∨
  (m≠1∧(zAc B32 m).length≠1)∨(m≠1∧(zAc B32 m).length=1∧∃ b o,A=some ⟨b,o,none⟩∧b<w.heap.size∧w.cell? ⟨b,o,none⟩=some (.int .u32 (m:Int))):=by
 by_cases hl:(zAc B32 m).length=1
 ·have hw:=words_one hl
  have hr:=h.rd;rw [hw] at hr;obtain ⟨b,o,hA,hb,hc⟩:=hr.at_ ze;have hc0:=hc 0 ze;rw [zBK] at hc0;simp only [dD,cZ] at hc0
  by_cases h1:m=1
  ·subst h1
   exact .inl ⟨rfl,hl,b,o,hA,hb,hc0⟩
  ·exact .inr (.inr ⟨h1,hl,b,o,hA,hb,hc0⟩)
 ·refine .inr (.inl ⟨fun e=>?_,hl⟩)
  rw [e,one_words] at hl;exact hl rfl
theorem lowP_zero (d:Nat) (h:0<d):zBY 0 d=(0,1):=by
 unfold zBY;rw [Nat.gcd_zero_left,Nat.zero_div,Nat.div_self h]
theorem lowP_one (n d:Nat) (h:Nat.gcd n d=1):zBY n d=(n,d):=by
 unfold zBY;rw [h,Nat.div_one,Nat.div_one]
theorem Over_zero (A A2:Option Addr) (c c2 d:Nat) (ng:Bool) (w:World):Calls Tryz.prog 117 #[inV ng A c 0,ntV A2 c2 d] w (zCB false 0 1 w):=by
 go_enter Tryz.func117,Tryz.ntmps117
 go_wp2_with fail
 with_reducible refine (One_c _).mono ?_
 rintro e w1 ⟨A5,c5,rfl,h5,hb⟩;obtain ⟨hc,hf⟩:=bcellK hb;have hz:w.heap.size+1<w1.heap.size:=jh;have c0:w1.cell? ⟨w.heap.size+1,0,none⟩=some (.bool false):=zo;have c1:w1.cell? ⟨w.heap.size+1,1,none⟩=some (.slice none 0 0):=zo;have c2:w1.cell? ⟨w.heap.size+1,2,none⟩=some (.slice none 0 0):=zo;have HB:Hid (Below w.heap.size w w1):=(((aS w.heap.size w).alloc (aB _) _).alloc ze _).trans (hb.mono zg);go_wp2;refine dY (v:=raV false none 0 0 A5 c5 1) (by simp [results,Tryz.results117,go_sem,hc];rfl) rfl ⟨none,0,A5,c5,rfl,Nt.zero _,?_,?_⟩
 ·exact h5.set3 c0 c1 c2 (nb_ _) (ns_ _ _ _) (ns_ _ _ _) _ _ _
 ·exact ((HB.o.setCell ze _).setCell ze _).setCell ze _
theorem pos_len {n:Nat} (h:0<n):0<(zAc B32 n).length:=by
 rcases bR (zAc B32 n).length with e | e
 ·have:=(zCv zAu (n:=n)).1 (dQ e)
  omega
 ·exact e
theorem Over_same (A A2:Option Addr) (c c2 n:Nat) (ng:Bool) (w:World) (h:Nt w A c n) (h2:Nt w A2 c2 1) (h0:0<n):Calls Tryz.prog 117 #[inV ng A c n,ntV A2 c2 1] w (zCB ng n 1 w):=by
 have hl:=pos_len h0;have hlb:(((zAc B32 n).length:Int) == 0)=false:=by simp;intro e;rw [e] at hl;simp at hl
 rcases one_cases h2 za with ⟨_,hl1,b,o,rfl,hb,hcell⟩ | ⟨e,_⟩ | ⟨e,_⟩
 ·have e2:ntV (some ⟨b,o,none⟩) c2 1 = .slice (some ⟨b,o,none⟩) 1 c2:=by
   show Value.slice _ (zAc B32 1).length c2=_
   rw [hl1]
  have HL1:=zq hl1;clear hl1;rw [e2];have E2:=zq e2;clear e2 hl
  go_enter Tryz.func117,Tryz.ntmps117
  go_wp2;refine dY (v:=raV ng A c n (some ⟨b,o,none⟩) c2 1) (by simp [results,Tryz.results117,go_sem];rfl) rfl ⟨A,c,_,c2,rfl,?_,?_,?_⟩
  ·exact (h.alloc _).alloc _
  ·exact (h2.alloc _).alloc _
  ·exact ((aS w.heap.size w).alloc (aB _) _).alloc ze _
 ·exact absurd rfl e
 ·exact absurd rfl e
theorem Over_gen (A A2:Option Addr) (c c2 n d:Nat) (ng:Bool) (w:World) (h:Nt w A c n) (h2:Nt w A2 c2 d) (h0:0<n) (hd0:0<d) (hd:d≠1) (hn:(zAc B32 n).length≤400000000) (hm:(zAc B32 d).length≤400000000) :
  Calls Tryz.prog 117 #[inV ng A c n,ntV A2 c2 d] w (zCB ng (zBY n d).1 (zBY n d).2 w):=by
 have hl:=pos_len h0;have hl2:=pos_len hd0;have hlb:(((zAc B32 n).length:Int) == 0)=false:=by simp;intro e;rw [e] at hl;simp at hl
 have HGB:Hid (Nat.gcd n d≤d):=Nat.gcd_le_right n hd0;have hg0:0<Nat.gcd n d:=dZ n hd0;have hgl:(zAc B32 (Nat.gcd n d)).length≤400000000:=dI (zAt zAu HGB.o) hm;have HLP:Hid (zBY n d=(n / Nat.gcd n d,d / Nat.gcd n d)):=rfl;rw [HLP.o];obtain ⟨G,hG⟩:∃ G,Nat.gcd n d=G:=⟨_,rfl⟩;rw [hG] at hg0 hgl ⊢;have HG:=zq hG;clear hG;have HQ1:=zq (fun W A5 c5 (q:Nt W A c n) (q2:Nt W A5 c5 G)=>Div_c A A5 c c5 n G W q q2 hn hg0)
 have HQ2:=zq (fun W A5 c5 (q:Nt W A2 c2 d) (q2:Nt W A5 c5 G)=>Div_c A2 A5 c2 c5 d G W q q2 hm hg0)
 have hgc:=fun W (q:Nt W A c n) (q2:Nt W A2 c2 d)=>gcd_c A A2 c c2 n d W q q2 hn hm
 rw [HG.o] at hgc;have HGC:=zq hgc;clear hgc
 have CS:Hid ((((zAc B32 d).length:Int) == 1)=false∨((((zAc B32 d).length:Int) == 1)=true∧((d:Int) == 1)=false∧∃ b o,A2=some ⟨b,o,none⟩∧b<w.heap.size∧w.cell? ⟨b,o,none⟩=some (.int .u32 (d:Int)))):=by
  rcases one_cases h2 hd0 with ⟨e,_⟩ | ⟨_,e⟩ | ⟨e,hl1,b,o,hA,hb,hc⟩
  ·exact absurd e hd
  ·exact .inl zg
  ·exact .inr ⟨zg,zg,b,o,hA,hb,hc⟩
 clear hd
 rcases CS.out with hc1 | ⟨hc1,hc2,b,o,rfl,hb,hcell⟩
 all_goals
  go_enter Tryz.func117,Tryz.ntmps117
  go_wp2_with fail
  with_reducible refine (HGC.o _ ((h.alloc _).alloc _) ((h2.alloc _).alloc _)).mono ?_
  rintro e w1 ⟨A5,c5,rfl,h5,hb5⟩;obtain ⟨hc,hf⟩:=bcellK hb5;have hz:w.heap.size+1<w1.heap.size:=by have:=hb5.size;simp at this;omega
  have k0:w1.cell? ⟨w.heap.size+1,0,none⟩=some (.bool false):=zo;have k1:w1.cell? ⟨w.heap.size+1,1,none⟩=some (.slice none 0 0):=zo;have k2:w1.cell? ⟨w.heap.size+1,2,none⟩=some (.slice none 0 0):=zo;have HB:Hid (Below w.heap.size w w1):=(((aS w.heap.size w).alloc (aB _) _).alloc ze _).trans (hb5.mono zg);have hn1:=((h.alloc _).alloc _).below hb5;have hd1:=((h2.alloc _).alloc _).below hb5
  have CS2:Hid ((G=1∧(((zAc B32 G).length:Int) == 1)=true∧0<(zAc B32 G).length∧∃ b o,A5=some ⟨b,o,none⟩∧b<w1.heap.size∧w1.cell? ⟨b,o,none⟩=some (.int .u32 1))∨(((zAc B32 G).length:Int) == 1)=false ∨
    ((((zAc B32 G).length:Int) == 1)=true∧0<(zAc B32 G).length∧((G:Int) == 1)=false∧∃ b o,A5=some ⟨b,o,none⟩∧b<w1.heap.size∧w1.cell? ⟨b,o,none⟩=some (.int .u32 (G:Int)))):=by
   rcases one_cases h5 hg0 with ⟨e,hl1,b,o,hA,hb,hc⟩ | ⟨_,e⟩ | ⟨e,hl1,b,o,hA,hb,hc⟩
   ·exact .inl ⟨e,zg,za,b,o,hA,hb,hc⟩
   ·exact .inr (.inl zg)
   ·exact .inr (.inr ⟨zg,za,zg,b,o,hA,hb,hc⟩)
  clear hb5
  rcases CS2.out with ⟨hG1,hg1,hg2,b2,o2,hA5,hb2,hcell2⟩ | hg1 | ⟨hg1,hg2,hg3,b2,o2,hA5,hb2,hcell2⟩
  ·subst hA5
   have HG1:=zq hG1;clear hG1 hc1;go_wp2;rw [HG1.o,Nat.div_one,Nat.div_one];refine dY (v:=raV ng A c n _ c2 d) (by simp [results,Tryz.results117,go_sem,hc]) rfl ⟨A,c,_,c2,rfl,hn1.set3 k0 k1 k2 (nb_ _) (ns_ _ _ _) (ns_ _ _ _) _ _ _,hd1.set3 k0 k1 k2 (nb_ _) (ns_ _ _ _) (ns_ _ _ _) _ _ _,?_⟩
   exact ((HB.o.setCell ze _).setCell ze _).setCell ze _
  ·clear hc1
   go_wp2_with fail
   with_reducible refine (HQ1.o _ _ _ hn1 h5).mono ?_
   rintro e w2 ⟨A6,c6,A7,c7,rfl,h6,_,hb6⟩;have hd2:=hd1.below hb6;have h52:=h5.below hb6;have HB2:=zq (zAa HB.o hb6);have hz2:w.heap.size+1<w2.heap.size:=dL hz hb6.size;have m0:w2.cell? ⟨w.heap.size+1,0,none⟩=some (.bool false):=(hb6.cell (p:=⟨w.heap.size+1,0,none⟩) hz).trans k0;have m1:w2.cell? ⟨w.heap.size+1,1,none⟩=some (.slice none 0 0):=(hb6.cell (p:=⟨w.heap.size+1,1,none⟩) hz).trans k1;have m2:w2.cell? ⟨w.heap.size+1,2,none⟩=some (.slice none 0 0):=(hb6.cell (p:=⟨w.heap.size+1,2,none⟩) hz).trans k2
   have f0:∀ i,w2.frozen? ⟨w.heap.size+1,i,none⟩=false:=fun i=>by
    rw [hb6.frozen (p:=⟨w.heap.size+1,i,none⟩) hz,hf _ _ ze];go_simp
   have n0:w2.cell? ⟨w.heap.size,0,none⟩=some (.bool ng):=by
    rw [hb6.cell (p:=⟨w.heap.size,0,none⟩) (by show w.heap.size<_;omega),hc _ _ zg];go_simp
   clear hb6 k0 k1 k2 hc hf HB
   go_wp2_with fail
   with_reducible refine (HQ2.o _ _ _ hd2 h52).mono ?_
   rintro e w3 ⟨A8,c8,A9,c9,rfl,h8,_,hb8⟩;have h63:=h6.below hb8;have HB3:=zq (zAa HB2.o hb8);have k0:w3.cell? ⟨w.heap.size+1,0,none⟩=some (.bool false):=(hb8.cell (p:=⟨w.heap.size+1,0,none⟩) hz2).trans m0;have k1:w3.cell? ⟨w.heap.size+1,1,none⟩=some (.slice none 0 0):=(hb8.cell (p:=⟨w.heap.size+1,1,none⟩) hz2).trans m1;have k2:w3.cell? ⟨w.heap.size+1,2,none⟩=some (.slice none 0 0):=(hb8.cell (p:=⟨w.heap.size+1,2,none⟩) hz2).trans m2;have f3:∀ i,w3.frozen? ⟨w.heap.size+1,i,none⟩=false:=fun i=>(hb8.frozen (p:=⟨w.heap.size+1,i,none⟩) hz2).trans (f0 i)
   have n3:w3.cell? ⟨w.heap.size,0,none⟩=some (.bool ng):=(hb8.cell (p:=⟨w.heap.size,0,none⟩) (by show w.heap.size<_;omega)).trans n0
   have hz3:w.heap.size+1<w3.heap.size:=dL hz2 hb8.size;clear hb8 m0 m1 m2 n0 f0 HB2;go_wp2;refine dY (v:=raV ng A6 c6 (n / G) A8 c8 (d / G)) (by simp [results,Tryz.results117,go_sem,k0,k1,k2]) rfl ⟨A6,c6,A8,c8,rfl,h63.set3 k0 k1 k2 (nb_ _) (ns_ _ _ _) (ns_ _ _ _) _ _ _,h8.set3 k0 k1 k2 (nb_ _) (ns_ _ _ _) (ns_ _ _ _) _ _ _,?_⟩
   exact ((HB3.o.setCell ze _).setCell ze _).setCell ze _
  ·subst hA5
   clear hc1
   go_wp2_with fail
   with_reducible refine (HQ1.o _ _ _ hn1 h5).mono ?_
   rintro e w2 ⟨A6,c6,A7,c7,rfl,h6,_,hb6⟩;have hd2:=hd1.below hb6;have h52:=h5.below hb6;have HB2:=zq (zAa HB.o hb6);have hz2:w.heap.size+1<w2.heap.size:=dL hz hb6.size;have m0:w2.cell? ⟨w.heap.size+1,0,none⟩=some (.bool false):=(hb6.cell (p:=⟨w.heap.size+1,0,none⟩) hz).trans k0;have m1:w2.cell? ⟨w.heap.size+1,1,none⟩=some (.slice none 0 0):=(hb6.cell (p:=⟨w.heap.size+1,1,none⟩) hz).trans k1;have m2:w2.cell? ⟨w.heap.size+1,2,none⟩=some (.slice none 0 0):=(hb6.cell (p:=⟨w.heap.size+1,2,none⟩) hz).trans k2
   have f0:∀ i,w2.frozen? ⟨w.heap.size+1,i,none⟩=false:=fun i=>by
    rw [hb6.frozen (p:=⟨w.heap.size+1,i,none⟩) hz,hf _ _ ze];go_simp
   have n0:w2.cell? ⟨w.heap.size,0,none⟩=some (.bool ng):=by
    rw [hb6.cell (p:=⟨w.heap.size,0,none⟩) (by show w.heap.size<_;omega),hc _ _ zg];go_simp
   clear hb6 k0 k1 k2 hc hf HB
   go_wp2_with fail
   with_reducible refine (HQ2.o _ _ _ hd2 h52).mono ?_
   rintro e w3 ⟨A8,c8,A9,c9,rfl,h8,_,hb8⟩;have h63:=h6.below hb8;have HB3:=zq (zAa HB2.o hb8);have k0:w3.cell? ⟨w.heap.size+1,0,none⟩=some (.bool false):=(hb8.cell (p:=⟨w.heap.size+1,0,none⟩) hz2).trans m0;have k1:w3.cell? ⟨w.heap.size+1,1,none⟩=some (.slice none 0 0):=(hb8.cell (p:=⟨w.heap.size+1,1,none⟩) hz2).trans m1;have k2:w3.cell? ⟨w.heap.size+1,2,none⟩=some (.slice none 0 0):=(hb8.cell (p:=⟨w.heap.size+1,2,none⟩) hz2).trans m2;have f3:∀ i,w3.frozen? ⟨w.heap.size+1,i,none⟩=false:=fun i=>(hb8.frozen (p:=⟨w.heap.size+1,i,none⟩) hz2).trans (f0 i)
   have n3:w3.cell? ⟨w.heap.size,0,none⟩=some (.bool ng):=(hb8.cell (p:=⟨w.heap.size,0,none⟩) (by show w.heap.size<_;omega)).trans n0
   have hz3:w.heap.size+1<w3.heap.size:=dL hz2 hb8.size;clear hb8 m0 m1 m2 n0 f0 HB2;go_wp2;refine dY (v:=raV ng A6 c6 (n / G) A8 c8 (d / G)) (by simp [results,Tryz.results117,go_sem,k0,k1,k2]) rfl ⟨A6,c6,A8,c8,rfl,h63.set3 k0 k1 k2 (nb_ _) (ns_ _ _ _) (ns_ _ _ _) _ _ _,h8.set3 k0 k1 k2 (nb_ _) (ns_ _ _ _) (ns_ _ _ _) _ _ _,?_⟩
   exact ((HB3.o.setCell ze _).setCell ze _).setCell ze _
theorem Over_c (A A2:Option Addr) (c c2 n d:Nat) (ng:Bool) (w:World) (h:Nt w A c n) (h2:Nt w A2 c2 d) (hd0:0<d) (hn:(zAc B32 n).length≤400000000) (hm:(zAc B32 d).length≤400000000) :
  Calls Tryz.prog 117 #[inV ng A c n,ntV A2 c2 d] w (zCB (ng&&decide (n≠0)) (zBY n d).1 (zBY n d).2 w):=by
 by_cases h0:n=0
 ·subst h0
  rw [lowP_zero d hd0];have:=Over_zero A A2 c c2 d ng w
  simpa using this
 ·have e:(ng&&decide (n≠0))=ng:=by simp [h0]
  rw [e]
  by_cases h1:d=1
  ·subst h1
   rw [lowP_one n 1 (Nat.gcd_one_right n)];exact Over_same A A2 c c2 n ng w h h2 za
  ·exact Over_gen A A2 c c2 n d ng w h h2 za hd0 h1 hn hm
end Go.Proofs.YtieoifkdobcpiaaGreatDoor
namespace Go.Proofs
open Go.Shelf
def Tryz.lays160_ren:Go.Shelf.Ren:=⟨fun | 160=>150 | 232=>212 | 231=>211 | 227=>213 | 234=>215 | 233=>214 | 236=>217 | 235=>216 | 228=>258 | 271=>261 | 151=>260 | 197=>259 | 120=>276 | 152=>275 | 260=>274 | 137=>279 | 119=>280 | 224=>281 | 225=>282 | 217=>283 | 266=>284 | n=>n,fun | 9=>9 | 4=>4 | 3=>3 | 5=>5 | 117=>279 | 116=>278 | 0=>0 | 124=>282 | 21=>21 | 105=>313 | 46=>188 | 119=>335 | 139=>338 | 138=>337 | n=>n,fun | 3=>6 | 4=>7 | n=>n⟩
theorem Tryz.lays160:Go.Proofs.Lays.n160 Tryz.prog Tryz.lays160_ren:={
 mixed:=zc
 f119:=Tryz.func280.trans (bH some zc)
 f120:=Tryz.func276.trans (bH some zc)
 f137:=Tryz.func279.trans (bH some zc)
 f151:=Tryz.func260.trans (bH some zc)
 f152:=Tryz.func275.trans (bH some zc)
 f160:=Tryz.func150.trans (bH some zc)
 f197:=Tryz.func259.trans (bH some zc)
 f217:=Tryz.func283.trans (bH some zc)
 f224:=Tryz.func281.trans (bH some zc)
 f225:=Tryz.func282.trans (bH some zc)
 f227:=Tryz.func213.trans (bH some zc)
 f228:=Tryz.func258.trans (bH some zc)
 f231:=Tryz.func211.trans (bH some zc)
 f232:=Tryz.func212.trans (bH some zc)
 f233:=Tryz.func214.trans (bH some zc)
 f234:=Tryz.func215.trans (bH some zc)
 f235:=Tryz.func216.trans (bH some zc)
 f236:=Tryz.func217.trans (bH some zc)
 f260:=Tryz.func274.trans (bH some zc)
 f266:=Tryz.func284.trans (bH some zc)
 f271:=Tryz.func261.trans (bH some zc)
 t0:=Tryz.underlying0
 a0:=Tryz.isAgg0
 z0:=Tryz.sizeOf0
 v0:=Tryz.zeroValue0
 t3:=Tryz.underlying3
 a3:=Tryz.isAgg3
 z3:=Tryz.sizeOf3
 v3:=Tryz.zeroValue3
 t4:=Tryz.underlying4
 a4:=Tryz.isAgg4
 z4:=Tryz.sizeOf4
 v4:=Tryz.zeroValue4
 t5:=Tryz.underlying5
 a5:=Tryz.isAgg5
 z5:=Tryz.sizeOf5
 v5:=Tryz.zeroValue5
 t9:=Tryz.underlying9
 a9:=Tryz.isAgg9
 z9:=Tryz.sizeOf9
 v9:=Tryz.zeroValue9
 t21:=Tryz.underlying21
 a21:=Tryz.isAgg21
 z21:=Tryz.sizeOf21
 v21:=Tryz.zeroValue21
 t46:=Tryz.underlying188
 a46:=Tryz.isAgg188
 z46:=Tryz.sizeOf188
 v46:=Tryz.zeroValue188
 t105:=Tryz.underlying313
 a105:=Tryz.isAgg313
 z105:=Tryz.sizeOf313
 v105:=Tryz.zeroValue313
 t116:=Tryz.underlying278
 a116:=Tryz.isAgg278
 z116:=Tryz.sizeOf278
 t117:=Tryz.underlying279
 a117:=Tryz.isAgg279
 z117:=Tryz.sizeOf279
 v117:=Tryz.zeroValue279
 t119:=Tryz.underlying335
 a119:=Tryz.isAgg335
 z119:=Tryz.sizeOf335
 t124:=Tryz.underlying282
 a124:=Tryz.isAgg282
 z124:=Tryz.sizeOf282
 v124:=Tryz.zeroValue282
 t138:=Tryz.underlying337
 a138:=Tryz.isAgg337
 z138:=Tryz.sizeOf337
 v138:=Tryz.zeroValue337
 t139:=Tryz.underlying338
 a139:=Tryz.isAgg338
 z139:=Tryz.sizeOf338
 v139:=Tryz.zeroValue338
 g3:=zc
 g4:=by kernel_rfl }
def Tryz.lays103_ren:Go.Shelf.Ren:=⟨fun | 103=>163 | 210=>224 | 206=>248 | n=>n,fun | 9=>9 | 4=>4 | 24=>236 | 3=>3 | n=>n,fun | n=>n⟩
theorem Tryz.lays103:Go.Proofs.Lays.n103 Tryz.prog Tryz.lays103_ren:={
 mixed:=zc
 f103:=Tryz.func163.trans (bH some zc)
 f206:=Tryz.func248.trans (bH some zc)
 f210:=Tryz.func224.trans (bH some zc)
 t3:=Tryz.underlying3
 a3:=Tryz.isAgg3
 z3:=Tryz.sizeOf3
 v3:=Tryz.zeroValue3
 t4:=Tryz.underlying4
 a4:=Tryz.isAgg4
 z4:=Tryz.sizeOf4
 v4:=Tryz.zeroValue4
 t9:=Tryz.underlying9
 a9:=Tryz.isAgg9
 z9:=Tryz.sizeOf9
 v9:=Tryz.zeroValue9
 t24:=Tryz.underlying236
 a24:=Tryz.isAgg236
 z24:=Tryz.sizeOf236
 v24:=Tryz.zeroValue236 }
def Tryz.lays106_ren:Go.Shelf.Ren:=⟨fun | 106=>207 | 213=>251 | 265=>271 | n=>n,fun | 9=>9 | 3=>3 | n=>n,fun | n=>n⟩
theorem Tryz.lays106:Go.Proofs.Lays.n106 Tryz.prog Tryz.lays106_ren:={
 mixed:=zc
 f106:=Tryz.func207.trans (bH some zc)
 f213:=Tryz.func251.trans (bH some zc)
 f265:=Tryz.func271.trans (bH some zc)
 t3:=Tryz.underlying3
 a3:=Tryz.isAgg3
 z3:=Tryz.sizeOf3
 v3:=Tryz.zeroValue3
 t9:=Tryz.underlying9
 a9:=Tryz.isAgg9
 z9:=Tryz.sizeOf9
 v9:=Tryz.zeroValue9 }
end Go.Proofs
