/- Parts of the proof, joined: Titles, plainly: what Check of a title answers: no program in sight. P. -/
import Derived.Test.YtieoifkdobcpiaaGreatDoorSa03
import Derived.Lib.Strings
set_option maxRecDepth 100000
set_option maxHeartbeats 8000000
namespace Go.Proofs.YtieoifkdobcpiaaGreatDoor
open Dw
def zBS (n d:Nat):Nat×Nat:=(n / Nat.gcd n d,d / Nat.gcd n d)
def addP (p q:Nat×Nat):Nat×Nat:=zBS (p.1*q.2+q.1*p.2) (p.2*q.2)
def dgB (c:UInt8):Bool:=decide (48≤c.toNat)&&decide (c.toNat≤57)
def zCj (s:ByteArray):Bool:=s.data.toList.all dgB&&(decide (s.size=1) || decide (1<s.size)&&decide ((s.data.toList.headD 0).toNat≠48))
def negB (s:ByteArray):Bool:=decide (0<s.size)&&decide ((s.data.toList.headD 0).toNat=45)
def absL (s:ByteArray):List UInt8:=if negB s=true then s.data.toList.tail else s.data.toList
def zAS (s:ByteArray):ByteArray:=⟨(absL s).toArray⟩
def zCf:ByteArray:=⟨#[48]⟩
def zAy (s:ByteArray):Nat:=zBv s.data.toList
def zCN (nu de:ByteArray):Int :=
 if zCj (zAS nu)=false∨(negB nu=true∧zAS nu=zCf)∨zCj de=false∨de=zCf then 3
 else if 2000<(zAS nu).size∨2000<de.size then 2
 else if Nat.gcd (zAy (zAS nu)) (zAy de)=1 then 0 else 3
def posB (nu:ByteArray):Bool:=!negB nu&&decide (zAy (zAS nu)≠0)
structure Sh where
 pt:ByteArray
 nu:ByteArray
 de:ByteArray
deriving Inhabited
structure De where
 id:ByteArray
 day:Int
 kd:Int
 th:ByteArray
 fr:ByteArray
 to_:ByteArray
 nu:ByteArray
 de:ByteArray
 ex:Bool
 sb:Bool
 arA:Option Go.Addr
 ar:List Ar
 arc:Nat
 usA:Option Go.Addr
 us:List ByteArray
 usc:Nat
 bg:Int
 en:Int
 shA:Option Go.Addr
 sh:List Sh
 shc:Nat
 ot:ByteArray
deriving Inhabited
def zDr (n:Int):Bool:=decide (0≤n)&&decide (n≤200000)
def ptAt (l:List Sh) (i:Nat):ByteArray:=(l.getD i default).pt
def zBq (l:List Sh) (i:Nat):Option Int :=
 if zBp (ptAt l i)=false then some 5
 else if 0<i∧sle (ptAt l i) (ptAt l (i - 1))=true then some 8
 else if zCN (l.getD i default).nu (l.getD i default).de≠0 then some (zCN (l.getD i default).nu (l.getD i default).de)
 else if posB (l.getD i default).nu=false then some 1 else none
def zDs (l:List Sh) (k:Nat):Nat×Nat:=(l.take k).foldl (fun p s=>addP p (zAy (zAS s.nu),zAy s.de)) (0,1)
def shF (kd:Int) (l:List Sh):Int :=
 if l=[] then 9 else if 20<l.length then 2 else
 match (List.range l.length).findSome? (zBq l) with
 | some f=>f
 | none=>if (zDs l l.length).2<(zDs l l.length).1∨(kd=5∧(zDs l l.length).1≠(zDs l l.length).2) then 1 else 0
def usAt (l:List ByteArray) (i:Nat):ByteArray:=l.getD i default
def zBR (us l:List ByteArray) (i:Nat):Option Int :=
 if memS us (usAt l i)=false then some 5 else if 0<i∧sle (usAt l i) (usAt l (i - 1))=true then some 8 else none
def useF (us l:List ByteArray):Int:=match (List.range l.length).findSome? (zBR us l) with
 | some f=>f
 | none=>0
def zAk (k:Int):Bool:=decide (k=2) || decide (k=3)
def zAw (d:De):Bool :=
 (!(zAk d.kd || decide (d.kd=1))&&decide (d.th≠emp)) || (!(zAk d.kd || decide (d.kd=5))&&decide (d.fr≠emp)) || (!zAk d.kd&&decide (d.to_≠emp)) ||
 (!decide (d.kd=2)&&(decide (d.nu≠emp) || decide (d.de≠emp))) || (!decide (d.kd=3)&&(d.ex || d.sb)) || (!zAk d.kd&&(decide (d.ar≠[]) || decide (d.us≠[]))) ||
 (!zAk d.kd&&decide (d.en≠0)) || (!(decide (d.kd=1) || decide (d.kd=5))&&decide (d.sh≠[])) || (!decide (d.kd=4)&&decide (d.ot≠emp))
def parF (d:De):Int :=
 if d.kd≠2 then 0 else if zCN d.nu d.de≠0 then zCN d.nu d.de else if posB d.nu=false∨zAy d.de<zAy (zAS d.nu) then 1 else 0
def giftF (rs:List Rg) (us:List ByteArray) (d:De):Int :=
 if zBp d.th=false∨zBp d.fr=false∨zBp d.to_=false then 5
 else if d.fr=d.to_ then 12
 else if parF d≠0 then parF d
 else if chkA rs d.ar≠0 then chkA rs d.ar
 else if zCv rs d.ar=[]∨d.us=[] then 9
 else if useF us d.us≠0 then useF us d.us
 else if zDr d.bg=false∨zDr d.en=false then 1
 else if d.en≤d.bg then 8 else 0
def divF (pre:List De) (d:De):Int :=
 if (d.kd=1∧zBp d.th=false)∨(d.kd=5∧zBp d.fr=false) then 5
 else if zDr d.bg=false then 1
 else if shF d.kd d.sh≠0 then shF d.kd d.sh
 else if d.kd=5∧(d.sh.any fun s=>decide (s.pt=d.fr))=true then 12
 else if (pre.any fun p=>decide (p.kd=d.kd)&&decide (p.th=d.th)&&decide (p.fr=d.fr))=true then 7 else 0
def endF (pre:List De) (d:De):Int :=
 if zDr d.bg=false then 1
 else if (pre.any fun p=>decide (p.id=d.ot)&&zAk p.kd)=false then 9
 else if (pre.any fun p=>decide (p.kd=4)&&decide (p.ot=d.ot))=true then 7 else 0
def deLt (a b:De):Bool:=decide (a.day<b.day) || decide (a.day=b.day)&&slt a.id b.id
def ordB (pre:List De) (d:De):Bool:=match pre.getLast? with
 | some p=>deLt p d
 | none=>true
def chkD (rs:List Rg) (us:List ByteArray) (pre:List De) (d:De):Int :=
 if zBp d.id=false then 5
 else if zDr d.day=false then 1
 else if ordB pre d=false then 8
 else if (pre.any fun p=>decide (p.id=d.id))=true then 7
 else if d.kd<1∨5<d.kd then 4
 else if zAw d=true then 3
 else if zAk d.kd=true then giftF rs us d
 else if d.kd=4 then endF pre d else divF pre d
def deFault (rs:List Rg) (us:List ByteArray) (ds:List De) (k:Nat):Option Int :=
 if chkD rs us (ds.take k) (ds.getD k default)≠0 then some (chkD rs us (ds.take k) (ds.getD k default)) else none
def zBJ (l:List ByteArray) (i:Nat):Option Int :=
 if zBp (usAt l i)=false then some 5 else if 0<i∧sle (usAt l i) (usAt l (i - 1))=true then some 8 else none
def zCH (rs:List Rg) (us:List ByteArray) (ds:List De):Int :=
 if chkR rs≠0 then chkR rs else if us=[] then 9 else if 20<us.length then 2 else
 match (List.range us.length).findSome? (zBJ us) with
 | some f=>f
 | none=>if 200<ds.length then 2 else match (List.range ds.length).findSome? (deFault rs us ds) with
  | some f=>f
  | none=>0
open Go.RowKit Dw
def encU:Nat→List Value:=fun n=>[u32V n]
abbrev OwnU (w:World) (B:Nat) (v:Value) (L:List Nat):Prop:=zAQ encU 1 w B 197 v L
theorem ownU_map (L:List Nat):L.flatMap encU=L.map u32V:=flat1 L
theorem OwnU.get {w:World} {B g c n:Nat} {L:List Nat} (h:OwnU w B (.slice (some ⟨g,0,none⟩) n c) L) (hn:n=L.length) (i:Nat) (hi:i<L.length):w.cell? ⟨g,i,none⟩=some (.int .u32 ((L[i]:Nat):Int))∧w.frozen? ⟨g,i,none⟩=false:=by
 subst hn;unfold OwnU zAQ at h;rw [ownU_map] at h;have h1:=World.ownsRow.cellAt h i za;exact ⟨by rw [h1];simp [hi,u32V],World.ownsRow.frozenAt h i⟩
theorem OwnU.put {w:World} {B g c n:Nat} {L:List Nat} (h:OwnU w B (.slice (some ⟨g,0,none⟩) n c) L) (hn:n=L.length) (i x:Nat) :
  OwnU (w.setCell ⟨g,i,none⟩ (.int .u32 (x:Int))) B (.slice (some ⟨g,0,none⟩) n c) (L.set i x):=by
 subst hn;unfold OwnU zAQ at h ⊢;rw [ownU_map] at h ⊢;have h1:=(World.ownsRow.stored h i (.int .u32 (x:Int))).1;rw [List.map_set,List.length_set];exact h1
theorem words_of {L:List Nat} (h:WLt B32 L) (h2:L=[]∨B32 ^ (L.length - 1)≤zAf B32 L):L=zAc B32 (zAf B32 L):=by
 rw [←zBK zAo h]
 rcases h2 with rfl | h2
 ·rfl
 ·rcases Nat.eq_zero_or_pos L.length with h0 | h0
  ·rw [List.eq_nil_of_length_eq_zero h0];rfl
  ·have e:L.length - 1<L.length:=by omega
   have h3:=zDD (L:=L) (k:=L.length - 1) e;rw [show L.length - 1+1=L.length by omega,List.take_length] at h3
   refine (h3 fun h0=>?_).symm
   have h4:=zAr (B:=B32) (l:=L) (i:=L.length - 1) e;rw [h0,show L.length - 1+1=L.length by omega,List.take_length,Nat.mul_zero,Nat.add_zero] at h4
   have h5:=zCV (h.take (L.length - 1));rw [List.length_take,Nat.min_eq_left za] at h5;omega
theorem dgB_of {c:UInt8} (h:dgB c=true):48≤c.toNat∧c.toNat≤57:=by
 unfold dgB at h
 simpa using h
theorem decV_snoc (l:List UInt8) (c:UInt8):zBv (l++[c])=10*zBv l+(c.toNat - 48):=by
 rw [zCP];have:zBv [c]=c.toNat - 48:=by simp [zBv]
 rw [this];simp;omega
theorem decV_dg {l:List UInt8} (h:l.all dgB=true):zBv l<10 ^ l.length :=
 decV_lt fun c hc=>by have:=dgB_of (List.all_eq_true.1 h c hc);omega
theorem last_words {n:Nat}:zAc B32 n=[]∨B32 ^ ((zAc B32 n).length - 1)≤n:=by
 rcases Nat.eq_zero_or_pos (zAc B32 n).length with h0 | h0
 ·exact .inl (List.eq_nil_of_length_eq_zero h0)
 ·have:=wval_ge (B:=B32) h0 (zCh zAo h0)
  rw [zAj zAo] at this;exact .inr this
theorem scale_step {L L2:List Nat} {i cy sc c0 t:Nat} (hi:i<L.length) (hl:L2.length=L.length) (hd:L2.drop i=L.drop i) (ht:t=cy+sc*L[i]) (hV:zAf B32 (L2.take i)+B32 ^ i*cy=zAf B32 (L.take i)*sc+c0) :
  zAf B32 ((L2.set i (t % 4294967296)).take (i+1))+B32 ^ (i+1)*(t / 4294967296)=zAf B32 (L.take (i+1))*sc+c0∧(L2.set i (t % 4294967296)).drop (i+1)=L.drop (i+1):=by
 refine ⟨?_,?_⟩
 ·rw [zDE za,zAr hi]
  have e:=scale_col (B:=B32) (i:=i) (o:=zAf B32 (L2.take i)) ht;rw [zCg] at e ⊢;rw [zCg] at hV;rw [e,hV,Nat.add_mul,Nat.mul_assoc,Nat.mul_comm L[i] sc];omega
 ·rw [List.drop_set_of_lt (Nat.lt_succ_self i)]
  have h1:=congrArg (List.drop 1) hd
  rwa [List.drop_drop,List.drop_drop] at h1
theorem scale_words {L2:List Nat} {n cy N:Nat} (hW:WLt B32 L2) (hl:L2.length=(zAc B32 n).length) (hV:zAf B32 L2+B32 ^ (zAc B32 n).length*cy=N) (hn:n≤N) (hcy:cy<B32) :
  (cy=0→L2=zAc B32 N)∧(0<cy→L2++[cy]=zAc B32 N):=by
 refine ⟨fun h=>?_,fun h=>?_⟩
 ·rw [h,Nat.mul_zero,Nat.add_zero] at hV
  rw [←hV];refine words_of hW ?_
  rcases last_words (n:=n) with e | e
  ·rw [e] at hl
   exact .inl (List.eq_nil_of_length_eq_zero hl)
  ·rw [hl,hV]
   exact .inr (Nat.le_trans e hn)
 ·have e:zAf B32 (L2++[cy])=N:=by rw [zAH,zBt,hl,hV]
  rw [←e];refine words_of (hW.append (WLt.cons hcy WLt.nil)) (.inr ?_)
  rw [zAH,zBt];have h2:=Nat.mul_le_mul_left (B32 ^ L2.length) h;rw [Nat.mul_one] at h2;have e3:(L2++[cy]).length - 1=L2.length:=zd;rw [e3];exact Nat.le_trans h2 (Nat.le_add_left _ _)
def NtRel (w:World) (s:ByteArray) (m:Nat) (sv av:Value) (wr:World):Prop :=
 ∃ (t:ByteArray) (pre:List UInt8) (A:Option Addr) (c:Nat),sv = .string t∧m=t.size∧pre++t.data.toList=s.data.toList∧av=ntV A c (zBv pre)∧OwnU wr w.heap.size (ntV A c (zBv pre)) (zAc B32 (zBv pre))∧Below w.heap.size w wr
def NtRel2 (w1:World) (t:ByteArray) (k:Nat) (m:Nat) (cv scv iv:Value) (wr:World):Prop :=
 ∃ i:Nat,i+m=k∧iv = .int .i64 i∧cv = .int .u64 ((zBv (t.data.toList.take i):Nat):Int)∧scv = .int .u64 ((10 ^ i:Nat):Int)∧wr=w1
def NtRel3 (w:World) (A:Option Addr) (c:Nat) (L:List Nat) (c0 sc:Nat) (m:Nat) (cv iv:Value) (wr:World):Prop :=
 ∃ (i cy:Nat) (L2:List Nat),i+m=L.length∧iv = .int .i64 i∧cv = .int .u64 (cy:Int)∧cy≤1000000000∧L2.length=L.length∧WLt B32 L2∧L2.drop i=L.drop i ∧
  zAf B32 (L2.take i)+B32 ^ i*cy=zAf B32 (L.take i)*sc+c0∧OwnU wr w.heap.size (.slice A L.length c) L2∧Below w.heap.size w wr
theorem OwnU.nt {w:World} {B c n:Nat} {A:Option Addr} (h:OwnU w B (ntV A c n) (zAc B32 n)):Nt w A c n:=by
 have hcap:(zAc B32 n).length≤c:=by
  rcases h.2 with ⟨h',hn⟩ | ⟨g',cap',cur,h',_,_,hnc,_⟩
  ·rw [hn];exact Nat.zero_le _
  ·simp only [ntV,Value.slice.injEq] at h'
   omega
 obtain ⟨A',c',hv,hr⟩:=zAQ.rd1 (f:=u32V) h;simp only [ntV,Value.slice.injEq,true_and] at hv;obtain ⟨rfl,rfl⟩:=hv;exact ⟨hr,hcap⟩
theorem zCy (s:ByteArray) (k:Nat) (h:k<s.size):s.data.toList[k]'(by simpa using h)=s[k]:=rfl
theorem decV_take {t:ByteArray} {i:Nat} (h:i<t.size):zBv (t.data.toList.take (i+1))=10*zBv (t.data.toList.take i)+(t[i].toNat - 48):=by
 rw [List.take_succ_eq_append_getElem zv,decV_snoc,zCy t i h]
theorem natText_c (s:ByteArray) (w:World) (hd:s.data.toList.all dgB=true) (hs:s.size≤2000) :
  Calls Tryz.prog 112 #[.string s] w (zDg (zAy s) w):=by
 go_enter Tryz.func112,Tryz.ntmps112
 go_wp2
 go_loopg [0,3] s.size (NtRel w s)
 case atStart=>exact ⟨s,[],none,0,rfl,rfl,rfl,rfl,zAQ.nil encU 1 w w.heap.size 197,Below.refl _ _⟩
 case round =>
  obtain ⟨t,pre,A,c,rfl,hm,hpre,rfl,hown,hbw⟩:=hrel;have HM:=zq hm;have HPRE:=zq hpre
  have htd:t.data.toList.all dgB=true:=by
   rw [←hpre,List.all_append,Bool.and_eq_true] at hd;exact hd.2
  have hpd:pre.all dgB=true:=by
   rw [←hpre,List.all_append,Bool.and_eq_true] at hd;exact hd.1
  have hlen:pre.length+t.size≤2000:=by
   have:=congrArg List.length hpre;rw [List.length_append] at this;have e1:t.data.toList.length=t.size:=zd;have e2:s.data.toList.length=s.size:=zd;omega
  have HTD:=zq htd;have HPD:=zq hpd
  have hwl:(zAc B32 (zBv pre)).length≤2000:=by
   have h1:=decV_dg hpd;have h2:10 ^ pre.length≤B32 ^ pre.length:=Nat.pow_le_pow_left zc _;have:=zAY zAo (Nat.lt_of_lt_of_le h1 h2);omega
  clear hm hpre htd hpd
  rcases Nat.eq_zero_or_pos t.size with h0 | h0
  ·go_wp2
   go_ret
   have e:zAy s=zBv pre:=by
    unfold zAy;rw [←HPRE.o,List.eq_nil_of_length_eq_zero (l:=t.data.toList) (by simpa using h0),List.append_nil]
   rw [e];exact ⟨A,c,rfl,hown.nt,hbw⟩
  ·obtain ⟨k,hk⟩:∃ k,k=min 9 t.size:=⟨_,rfl⟩
   have hmin:min (9:Int) (t.size:Int)=(k:Int):=by rw [hk];omega
   have hk1:k≤9:=za;have hk2:k≤t.size:=za;have hk3:1≤k:=za;clear hk;go_wp2;obtain ⟨wo,hwo⟩:∃ wo:World,wo=wr:=⟨_,rfl⟩;subst hwo;clear hmin
   go_loopg [5,6,16] k (NtRel2 wo t k)
   case atStart=>exact ⟨0,za,rfl,rfl,rfl,rfl⟩
   case round =>
    obtain ⟨i,him,rfl,rfl,rfl,hw⟩:=hrel;subst hw;have HIM:=zq him;clear him;obtain ⟨cc,hcc⟩:∃ cc,zBv (t.data.toList.take i)=cc:=⟨_,rfl⟩;obtain ⟨sc,hsc⟩:∃ sc,10 ^ i=sc:=⟨_,rfl⟩;rw [hcc,hsc]
    have hcsc:cc<sc:=by
     have h1:=decV_dg (l:=t.data.toList.take i) (by
      rw [List.all_eq_true];exact fun x hx=>List.all_eq_true.1 HTD.o x (List.mem_of_mem_take hx))
     rw [List.length_take] at h1;have e2:t.data.toList.length=t.size:=zd;have e3:min i t.data.toList.length=i:=by have:=HIM.o;omega
     rw [e3,hcc,hsc] at h1;exact h1
    by_cases hlt:i<k
    ·have hsc9:sc≤100000000:=by
      rw [←hsc];exact Nat.le_trans (Nat.pow_le_pow_right za (show i≤8 by omega)) zc
     have hit:i<t.size:=za;have hdg:=dgB_of (List.all_eq_true.1 HTD.o t[i] (by rw [←zCy t i hit];exact List.getElem_mem _))
     obtain ⟨hd1,hd2⟩:=hdg;have HCC:=zq hcc;have HSC:=zq hsc;clear hcc hsc;go_wp2
     go_roundg (gk - 1)
     case measure=>have:=HIM.o;omega
     case rel =>
      refine ⟨i+1,by have:=HIM.o;omega,zi,?_,?_,rfl⟩
      ·rw [decV_take hit,HCC.o]
       congr 1
       omega
      ·rw [Nat.pow_succ,HSC.o]
       congr 1
       omega
    ·obtain rfl:i=k:=by have:=HIM.o;omega
     have hsc9:sc≤1000000000:=by
      rw [←hsc];exact Nat.le_trans (Nat.pow_le_pow_right za hk1) zc
     have hsc1:1≤sc:=by rw [←hsc];exact Nat.pow_pos za
     have HNV:Hid (zBv (pre++t.data.toList.take i)=zBv pre*sc+cc):=by
      show _=_
      have e2:(t.data.toList.take i).length=i:=by rw [List.length_take];simp;omega
      rw [zCP,e2,hcc,hsc]
     have HNX:Hid ((pre++t.data.toList.take i)++(t.extract i t.size).data.toList=s.data.toList):=by
      show _=_
      rw [List.append_assoc,Lib.extract_data,List.take_of_length_le (l:=List.drop i t.data.toList) (by rw [List.length_drop];simp),List.take_append_drop]
      exact HPRE.o
     have hxs:(t.extract i t.size).size=t.size - i:=zd;have HXS:=zq hxs;have hL:=zAE zAo (zBv pre);have HWV:=zq (zAj zAo (zBv pre))
     have HLW:Hid (∀ (L2:List Nat) (cy:Nat),WLt B32 L2→L2.length=(zAc B32 (zBv pre)).length→zAf B32 L2+B32 ^ (zAc B32 (zBv pre)).length*cy=zBv pre*sc+cc→cy<B32→(cy=0→L2=zAc B32 (zBv pre*sc+cc))∧(0<cy→L2++[cy]=zAc B32 (zBv pre*sc+cc))) :=
      fun L2 cy h1 h2 h3 h4=>scale_words h1 h2 h3 (Nat.le_trans (Nat.le_mul_of_pos_right _ hsc1) (Nat.le_add_right _ _)) h4
     clear hcc hsc hxs;unfold ntV at hown ⊢;obtain ⟨L,hLd⟩:∃ L,zAc B32 (zBv pre)=L:=⟨_,rfl⟩;rw [hLd] at hown hL HWV HLW hwl;rw [hLd];have HLD:=zq hLd;clear hLd;go_wp2;have HBW:=zq hbw;clear hbw
     go_loopg [5,35] L.length (NtRel3 w A c L cc sc)
     case atStart=>exact ⟨0,cc,L,za,rfl,rfl,za,rfl,hL,rfl,qe,hown,HBW.o⟩
     case round =>
      clear hown HBW;obtain ⟨j,cy,L2,hjm,rfl,rfl,hcy,hl2,hW2,hdr,hV2,hown,hbw⟩:=hrel;have HJM:=zq hjm;have HL2:=zq hl2;have HDR:=zq hdr;have HV2:=zq hV2;clear hjm hl2 hdr hV2
      by_cases hj:j<L.length
      ·have hj2:j<L2.length:=by have:=HL2.o;omega
       have e2:L2[j]=L[j]:=by
        have h1:=HDR.o;rw [List.drop_eq_getElem_cons hj2,List.drop_eq_getElem_cons hj] at h1
        injection h1
       obtain ⟨g,cap',hv,_,hglt⟩:=World.ownsRow.form hown za;simp only [Value.slice.injEq] at hv;obtain ⟨rfl,_,_⟩:=hv;obtain ⟨hc1,hf1⟩:=OwnU.get hown HL2.o.symm j hj2;rw [e2] at hc1;have hx:L[j]<4294967296:=hL.get j hj;obtain ⟨p,hp⟩:∃ p,p=sc*L[j]:=⟨_,rfl⟩;have hpB:p≤1000000000*4294967295:=by rw [hp];exact Nat.mul_le_mul hsc9 za
       have hpe:(sc:Int)*(L[j]:Int)=(p:Int):=by rw [hp];exact (Int.natCast_mul _ _).symm
       obtain ⟨T,hT⟩:∃ T,T=cy+p:=⟨_,rfl⟩;have hTe:(cy:Int)+(p:Int)=(T:Int):=by rw [hT];exact (Int.natCast_add _ _).symm
       have hTB:T≤4294967296000000000:=za;have hst:=scale_step (t:=T) hj HL2.o HDR.o (by rw [hT,hp]) HV2.o
       have HST:=zq hst;clear hp hT hst e2 hpB;go_wp2
       go_roundg (gk - 1)
       case measure=>have:=HJM.o;omega
       case rel =>
        refine ⟨j+1,T / 4294967296,L2.set j (T % 4294967296),by have:=HJM.o;omega,zi,rfl,za,by rw [List.length_set];exact HL2.o,hW2.set (modB T) j,HST.o.2,HST.o.1,OwnU.put hown HL2.o.symm j _,hbw.setCell (World.ownsRow.lt hown g (by simp [Value.ownBlock])).1 _⟩
      ·obtain rfl:j=L.length:=by have:=HJM.o;omega
       have hres:=HLW.o L2 cy hW2 HL2.o (by
        have h1:=HV2.o;rw [List.take_of_length_le (by have:=HL2.o;omega),List.take_of_length_le (Nat.le_refl _),HWV.o] at h1
        exact h1) ym
       have HRES:=zq hres;clear hres
       rcases Nat.eq_zero_or_pos cy with h0 | h0
       ·subst h0
        have hlw:=HRES.o.1 rfl;have HLW2:=zq hlw;clear hlw;go_wp2
        go_roundg (t.size - i)
        case measure=>have:=HM.o;omega
        case rel =>
         have e:=HLW2.o;have e2:=HL2.o;refine ⟨t.extract i t.size,pre++t.data.toList.take i,A,c,rfl,HXS.o.symm,HNX.o,?_,?_,hbw⟩
         ·rw [HNV.o]
          show Value.slice A L.length c = .slice A (zAc B32 (zBv pre*sc+cc)).length c
          rw [←e,e2]
         ·rw [HNV.o]
          show OwnU wr w.heap.size (.slice A (zAc B32 (zBv pre*sc+cc)).length c) (zAc B32 (zBv pre*sc+cc))
          rw [←e,e2];exact hown
       ·have hlw:=HRES.o.2 h0
        have HLW2:=zq hlw;have hl2:=HL2.o;clear hlw;rw [←hl2] at hown hwl ⊢
        go_wp2_with (at_builtin;refine zAT _ _ _ elNat rfl rfl w.heap.size _ L2 rfl (zAQ.alloc hown _) wr.heap.size 1 cy rfl (heap_alloc_new _ _) rfl (by simp [encU,u32V,Value.oneCell']) zk za (by simp;exact Nat.le_succ_of_le hbw.size) ?_;intro A7 c7 w7 hown7 hg7 hb7 hat7)
        have hbw7:=(hbw.alloc hbw.size _).trans hb7;go_wp2
        go_roundg (t.size - i)
        case measure=>have:=HM.o;omega
        case rel =>
         have e:=HLW2.o;have e3:(zAc B32 (zBv pre*sc+cc)).length=L2.length+1:=by rw [←e];simp
         refine ⟨t.extract i t.size,pre++t.data.toList.take i,A7,c7,rfl,HXS.o.symm,HNX.o,?_,?_,hbw7⟩
         ·rw [HNV.o]
          show Value.slice A7 (L.length+1) c7 = .slice A7 (zAc B32 (zBv pre*sc+cc)).length c7
          rw [e3,HL2.o]
         ·rw [HNV.o]
          show OwnU w7 w.heap.size (.slice A7 (zAc B32 (zBv pre*sc+cc)).length c7) (zAc B32 (zBv pre*sc+cc))
          rw [e3,←e];exact hown7
theorem data_get (s:ByteArray) (k:Nat) (h:k<s.size):s.data.toList[k]'(by simpa using h)=s[k]:=rfl
theorem headD_get (s:ByteArray) (h:0<s.size):s.data.toList.headD 0=s[0]:=by
 rw [←data_get s 0 h,List.headD_eq_head?_getD,List.head?_eq_getElem?];simp [h]
theorem isNm_all {s:ByteArray} (h1:1≤s.size) (h2:s.size≤40) (h3:97≤(s[0]'h1).toNat) (h4:(s[0]'h1).toNat≤122):zBp s=s.data.toList.all okB:=by
 unfold zBp;rw [headD_get s h1];simp [h1,h2,h3,h4]
theorem parBad_false {l:List Rg} (h:∀ j (h:j<l.length),zCJ l l[j]=false) {i:Nat} (hi:i<l.length) (hp:(l[i]).par≠emp):∃ j,idx l (l[i]).par=some j:=by
 have:=h i hi;unfold zCJ at this
 cases hx:idx l (l[i]).par with
 | some j=>exact ⟨j,rfl⟩
 | none=>rw [hx] at this;simp [hp] at this
theorem chkR_head {l:List Rg} (h1:l≠[]) (h2:¬ 200<l.length):chkR l=match (List.range l.length).findSome? (zBk l) with
 | some f=>f
 | none=>if l.any (zCJ l)=true then 5 else if EndsR l then 0 else 14:=by
 unfold chkR;rw [if_neg h1,if_neg h2]<;>rfl
theorem chkR_first {l:List Rg} (h1:l≠[]) (h2:¬ 200<l.length) {k:Nat} {x:Int} (hk:k<l.length) (hpre:∀ j,j<k→zBk l j=none) (h:zBk l k=some x):chkR l=x:=by
 rw [chkR_head h1 h2,zBo hk hpre h]
theorem chkR_par {l:List Rg} (h1:l≠[]) (h2:¬ 200<l.length) (hpre:∀ j,j<l.length→zBk l j=none) {k:Nat} (hk:k<l.length) (h:zCJ l l[k]=true):chkR l=5:=by
 rw [chkR_head h1 h2,zBx hpre];simp only [];rw [if_pos (List.any_eq_true.2 ⟨l[k],List.getElem_mem hk,h⟩)]
theorem chkR_last {l:List Rg} (h1:l≠[]) (h2:¬ 200<l.length) (hpre:∀ j,j<l.length→zBk l j=none) (h:∀ j (h:j<l.length),zCJ l l[j]=false):chkR l=if EndsR l then 0 else 14:=by
 rw [chkR_head h1 h2,zBx hpre];simp only [];rw [if_neg];intro hh;obtain ⟨x,hx,hb⟩:=List.any_eq_true.1 hh;obtain ⟨j,hj,rfl⟩:=List.getElem_of_mem hx;rw [h j hj] at hb;cases hb
theorem elStr:ElemT Tryz.prog 23 9 (.string ⟨#[]⟩) 1 16:=⟨Tryz.underlying23,zb,rfl,zc⟩
abbrev encS:ByteArray→List Value:=fun s=>[.string s]
def zAe (v:Value) (w:World) (e:Ending) (w':World):Prop:=e = .returned v∧Below w.heap.size w w'
theorem zAe.mk {v v':Value} {w w':World} (h:v=v') (hw:Below w.heap.size w w'):zAe v' w (.returned v) w':=⟨by rw [h],hw⟩
theorem zBQ {p:Nat→Bool} (k:Nat):(List.range (k+1)).filter p=(List.range k).filter p++(if p k then [k] else []):=by
 rw [List.range_succ,List.filter_append]
 cases h:p k<;>simp [h]
def zCi (l:List Rg) (p:Nat→Bool) (k:Nat):List ByteArray:=((List.range k).filter p).map (nmAt l)
theorem gath_yes {l:List Rg} {p:Nat→Bool} {k:Nat} (h:p k=true):zCi l p (k+1)=zCi l p k++[nmAt l k]:=by
 unfold zCi;rw [zBQ,h];simp
theorem gath_no {l:List Rg} {p:Nat→Bool} {k:Nat} (h:p k=false):zCi l p (k+1)=zCi l p k:=by
 unfold zCi;rw [zBQ,h];simp
theorem gath_le (l:List Rg) (p:Nat→Bool) (k:Nat):(zCi l p k).length≤k:=by
 unfold zCi;rw [List.length_map];have:=List.length_filter_le p (List.range k)
 simpa using this
theorem leafIdx_lt {l:List Rg} {t:Nat} (h:t<(zAz l).length):(zAz l)[t]<l.length:=by
 have:=List.getElem_mem h;unfold zAz at this;rw [List.mem_filter,List.mem_range] at this;exact this.1
end Go.Proofs.YtieoifkdobcpiaaGreatDoor
