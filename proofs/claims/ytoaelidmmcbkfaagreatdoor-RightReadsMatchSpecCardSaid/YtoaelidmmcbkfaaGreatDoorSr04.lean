/- Parts of the proof, joined: Walks over the reference of chapter 7 (places): all, leaves, full. Pac. -/
import Derived.Test.YtoaelidmmcbkfaaGreatDoorSr03
import Derived.Shelf.Small.Wraps
import Derived.Shelf.Small.Strs
import Derived.Shelf.Strings.SlTrimAscii
set_option maxRecDepth 100000
set_option maxHeartbeats 8000000
namespace Go.Proofs.YtoaelidmmcbkfaaGreatDoor
open Go.RowKit Dw
theorem elStr:ElemT Tryz.prog 23 9 (.string ⟨#[]⟩) 1 16:=⟨Tryz.underlying23,zb,rfl,zc⟩
theorem elAr:ElemT Tryz.prog 44 65 (.agg #[.string ⟨#[]⟩,.bool false]) 2 24:=⟨Tryz.underlying44,zb,rfl,zc⟩
abbrev encS:BA→List Value:=fun s=>[.string s]
def GivesS (l:List BA) (w:World) (e:Ending) (w':World):Prop :=
 ∃ A c,e = .returned (.slice A l.length c)∧Strs w' A l∧Below w.heap.size w w'
def zAd (v:Value) (w:World) (e:Ending) (w':World):Prop:=e = .returned v∧Below w.heap.size w w'
theorem zAd.mk {v v':Value} {w w':World} (h:v=v') (hw:Below w.heap.size w w'):zAd v' w (.returned v) w':=⟨jf,hw⟩
theorem zCf {p:Nat→Bool} (k:Nat):(List.range (k+1)).filter p=(List.range k).filter p++(if p k then [k] else []):=by
 rw [List.range_succ,List.filter_append]
 cases h:p k<;>simp [h]
def zCq (l:List Rg) (p:Nat→Bool) (k:Nat):List BA:=((List.range k).filter p).map (nmAt l)
theorem gath_yes {l:List Rg} {p:Nat→Bool} {k:Nat} (h:p k=true):zCq l p (k+1)=zCq l p k++[nmAt l k]:=by
 unfold zCq;rw [zCf,h];simp
theorem gath_no {l:List Rg} {p:Nat→Bool} {k:Nat} (h:p k=false):zCq l p (k+1)=zCq l p k:=by
 unfold zCq;rw [zCf,h];simp
theorem gath_le (l:List Rg) (p:Nat→Bool) (k:Nat):(zCq l p k).length≤k:=by
 unfold zCq;rw [aK];have:=dC p (List.range k)
 simpa using this
def GathRel (w:World) (l:List Rg) (p:Nat→Bool) (m:Nat) (out i:Value) (wr:World):Prop :=
 ∃ k:Nat,k+m=l.length∧i = .int .i64 k∧zAF encS 1 wr w.heap.size 9 out (zCq l p k)∧Below w.heap.size w wr
def leafP (l:List Rg) (a:List Ar) (i:Nat):Bool:=!zBc l i&&lies l a i
theorem gath_leaves (l:List Rg) (a:List Ar):zCq l (leafP l a) l.length=zBG l a:=by
 unfold zCq zBG zAV;rw [List.filter_filter]
 congr 1
 apply List.filter_congr
 intro x _;unfold leafP;rw [Bool.and_comm]
theorem leaves_c (A A2:Option Addr) (c c2:Nat) (l:List Rg) (a:List Ar) (w:World) (g:GoodR l) (h:Rgs w A l) (h2:Ars w A2 a) (hn2:a.length≤100) :
  Calls Tryz.prog 123 #[.slice A l.length c,.slice A2 a.length c2] w (GivesS (zBG l a) w):=by
 have hn:=g.len;obtain ⟨b,o,rfl,hb,hc⟩:=h.at_ (List.length_pos_iff.2 g.ne);have HC:=zq hc;clear hc
 go_enter Tryz.func123,Tryz.ntmps123
 go_wp2
 go_loopg [5,6] l.length (GathRel w l (leafP l a))
 case atStart=>exact ⟨0,za,rfl,zAF.nil _ _ _ _ _,bS _ _⟩
 case round =>
  obtain ⟨k,hk,rfl,hown,hbel⟩:=hrel;have HK:=zq hk;have hk1:k≤l.length:=za;clear hk
  by_cases hlt:k<l.length
  ·have hc0:wr.cell? ⟨b,o+k*2,none⟩=some (.string (l[k]).nm):=(hbel.cell hb).trans (HC.o k hlt).1
   have hwr:w.heap.size≤wr.heap.size:=hbel.size;have hbr:b<wr.heap.size:=za;have hle:=gath_le l (leafP l a) k;have hlf:=leafB_at g hlt
   by_cases hq:zBc l k=true
   ·have hl2:leafB l (l[k]).nm=false:=by rw [hlf,hq];rfl
    have HL:=zq hl2;have HQ:Hid (leafP l a k=false):=by show leafP l a k=false;simp [leafP,hq]
    clear hlf hl2 hq
    go_wp2_with fail
    refine (IsLeaf_c _ _ _ _ _ hn (h.below hbel)).mono ?_
    rintro e w' ⟨rfl,rfl⟩;rw [HL.o];go_wp2
    go_roundg (gk - 1)
    case measure=>have:=HK.o;omega
    case rel=>exact ⟨k+1,zl,zn,by rw [gath_no HQ.o];exact hown,hbel⟩
   ·have hl2:leafB l (l[k]).nm=true:=by rw [hlf];simp [hq]
    have HL:=zq hl2;have HQ:=zq hq;clear hlf hl2 hq
    cases hli:lies l a k with
    | false =>
     have HP:Hid (leafP l a k=false):=by show leafP l a k=false;simp [leafP,hli]
     have HI:=zq hli;clear hli
     go_wp2_with fail
     refine (IsLeaf_c _ _ _ _ _ hn (h.below hbel)).mono ?_
     rintro e w' ⟨rfl,rfl⟩;rw [HL.o]
     go_wp2_with fail
     refine (lies_c _ _ _ _ _ _ _ g (h.below hbel) (h2.below hbel) hn2 k hlt).mono ?_
     rintro e w' ⟨rfl,rfl⟩;rw [HI.o];go_wp2
     go_roundg (gk - 1)
     case measure=>have:=HK.o;omega
     case rel=>exact ⟨k+1,zl,zn,by rw [gath_no HP.o];exact hown,hbel⟩
    | true =>
     have HP:Hid (leafP l a k=true):=by show leafP l a k=true;simp [leafP,hli,HQ.o]
     have HI:=zq hli;clear hli
     go_wp2_with fail
     refine (IsLeaf_c _ _ _ _ _ hn (h.below hbel)).mono ?_
     rintro e w' ⟨rfl,rfl⟩;rw [HL.o]
     go_wp2_with fail
     refine (lies_c _ _ _ _ _ _ _ g (h.below hbel) (h2.below hbel) hn2 k hlt).mono ?_
     rintro e w' ⟨rfl,rfl⟩;rw [HI.o]
     go_wp2_with (at_builtin;refine wpList_push _ _ _ elStr rfl rfl w.heap.size _ (zCq l (leafP l a) k) rfl (hown.alloc _) wr.heap.size 1 (nmAt l k) rfl (by rw [zBF hlt];exact cI _ _) rfl zu zt za zg ?_;intro v1 w1 hown1 hg1 hb1)
     have HO:=zq hown1;have hbel1:=(hbel.alloc hwr _).trans hb1;have HB:=zq hbel1;clear hown hown1 hg1 hb1 hbel hbel1;go_wp2
     go_roundg (gk - 1)
     case measure=>have:=HK.o;omega
     case rel=>exact ⟨k+1,zl,zn,by rw [gath_yes HP.o];exact HO.o,HB.o⟩
  ·have hke:k=l.length:=by omega
   have HKE:=zq hke;clear hke;obtain ⟨A',c',rfl,hrd⟩:=hown.rd1;go_wp2;go_ret
   have e:zCq l (leafP l a) k=zBG l a:=by rw [HKE.o,gath_leaves]
   rw [e] at hrd ⊢;exact ⟨A',c',rfl,hrd,hbel⟩
theorem leafIdx_lt {l:List Rg} {t:Nat} (h:t<(zAV l).length):(zAV l)[t]<l.length:=by
 have:=aI h;unfold zAV at this;rw [List.mem_filter,List.mem_range] at this;exact this.1
abbrev inV (ng:Bool) (A:Option Addr) (c n:Nat):Value:=.agg #[.bool ng,.slice A (zAe B32 n).length c]
abbrev raV (ng:Bool) (A:Option Addr) (c n:Nat) (A2:Option Addr) (c2 d:Nat):Value:=.agg #[.bool ng,.slice A (zAe B32 n).length c,.slice A2 (zAe B32 d).length c2]
def GivesI (ng:Bool) (n:Nat) (w:World) (e:Ending) (w':World):Prop:=∃ A c,e = .returned (inV ng A c n)∧Nt w' A c n∧Below w.heap.size w w'
def GivesR (ng:Bool) (n d:Nat) (w:World) (e:Ending) (w':World):Prop :=
 ∃ A c A2 c2,e = .returned (raV ng A c n A2 c2 d)∧Nt w' A c n∧Nt w' A2 c2 d∧Below w.heap.size w w'
theorem bcellK {W w1:World} (hb:Below W.heap.size W w1):(∀ b o,b<W.heap.size→w1.cell? ⟨b,o,none⟩=W.cell? ⟨b,o,none⟩)∧(∀ b o,b<W.heap.size→w1.frozen? ⟨b,o,none⟩=W.frozen? ⟨b,o,none⟩) :=
 ⟨fun b o h=>hb.cell (p:=⟨b,o,none⟩) h,fun b o h=>hb.frozen (p:=⟨b,o,none⟩) h⟩
theorem Nt.alloc {w:World} {A:Option Addr} {c n:Nat} (h:Nt w A c n) (o:Obj):Nt (w.alloc o) A c n:=⟨h.rd.alloc o,h.cap⟩
theorem Nt.drew {w:World} {A:Option Addr} {c n:Nat} (h:Nt w A c n):Nt w.drew A c n:=⟨h.rd,h.cap⟩
theorem Nt.set {w:World} {A:Option Addr} {c n:Nat} {p:Addr} {v:Value} (h:Nt w A c n) (hp:w.cell? p=some v) (hv:∀ x:Nat,v≠u32V x) (u:Value):Nt (w.setCell p u) A c n:=by
 refine ⟨fun hl=>?_,h.cap⟩
 obtain ⟨b,o,rfl,hc⟩:=h.rd hl;refine ⟨b,o,rfl,fun i hi=>?_⟩
 rw [World.cell?_setCell_other _ _ _ _ (fun e=>?_)]
 ·exact hc i hi
 ·have h1:=hc i hi
  rw [←e] at h1;rw [hp] at h1
  injection h1 with h1
  exact hv _ h1
theorem Nt.set2 {w:World} {A:Option Addr} {c n R:Nat} {v0 v1:Value} (h:Nt w A c n) (h0:w.cell? ⟨R,0,none⟩=some v0) (h1:w.cell? ⟨R,1,none⟩=some v1) (n0:∀ x:Nat,v0≠u32V x) (n1:∀ x:Nat,v1≠u32V x) (u0 u1:Value) :
  Nt ((w.setCell ⟨R,0,none⟩ u0).setCell ⟨R,1,none⟩ u1) A c n :=
 (h.set h0 n0 u0).set (by rw [World.cell?_setCell_other _ _ _ _ (fun e=>vq)];exact h1) n1 u1
theorem Nt.set3 {w:World} {A:Option Addr} {c n R:Nat} {v0 v1 v2:Value} (h:Nt w A c n) (h0:w.cell? ⟨R,0,none⟩=some v0) (h1:w.cell? ⟨R,1,none⟩=some v1) (h2:w.cell? ⟨R,2,none⟩=some v2) (n0:∀ x:Nat,v0≠u32V x) (n1:∀ x:Nat,v1≠u32V x) (n2:∀ x:Nat,v2≠u32V x) (u0 u1 u2:Value) :
  Nt (((w.setCell ⟨R,0,none⟩ u0).setCell ⟨R,1,none⟩ u1).setCell ⟨R,2,none⟩ u2) A c n :=
 (h.set2 h0 h1 n0 n1 u0 u1).set (by
  rw [World.cell?_setCell_other _ _ _ _ (fun e=>vq),World.cell?_setCell_other _ _ _ _ (fun e=>vq)];exact h2) n2 u2
theorem nb_ (b:Bool) (x:Nat):Value.bool b≠u32V x:=fun e=>vz
theorem ns_ (A:Option Addr) (n c x:Nat):Value.slice A n c≠u32V x:=fun e=>vz
theorem IMul_c (A A2:Option Addr) (c c2 a b:Nat) (w:World) (h:Nt w A c a) (h2:Nt w A2 c2 b) (hn:(zAe B32 a).length≤400000000) (hm:(zAe B32 b).length≤400000000) :
  Calls Tryz.prog 147 #[inV false A c a,inV false A2 c2 b] w (GivesI false (a*b) w):=by
 go_enter Tryz.func147,Tryz.ntmps147
 go_wp2_with fail
 with_reducible refine (Mul_c A A2 c c2 a b _ (((h.alloc _).alloc _).alloc _) (((h2.alloc _).alloc _).alloc _) hn hm).mono ?_
 rintro e w1 ⟨A5,c5,rfl,h5,hb⟩;obtain ⟨hc,hf⟩:=bcellK hb;have hz:w.heap.size+2<w1.heap.size:=xb;have c0:w1.cell? ⟨w.heap.size+1+1,0,none⟩=some (.bool false):=yi;have c1:w1.cell? ⟨w.heap.size+1+1,1,none⟩=some (.slice none 0 0):=yi;have HB:Hid (Below w.heap.size w w1):=((((bS w.heap.size w).alloc (aB _) _).alloc zd _).alloc zg _).trans (hb.mono zg);go_wp2;refine dD (v:=inV false A5 c5 (a*b)) (by simp [results,Tryz.results147,go_sem,hc]) rfl ⟨A5,c5,rfl,?_,?_⟩
 ·exact h5.set2 c0 c1 (nb_ _) (ns_ _ _ _) _ _
 ·exact (HB.o.setCell zg _).setCell zg _
theorem ICmp_c (A A2:Option Addr) (c c2 a b:Nat) (w:World) (h:Nt w A c a) (h2:Nt w A2 c2 b) (hn:(zAe B32 a).length≤400000000) :
  Calls Tryz.prog 148 #[inV false A c a,inV false A2 c2 b] w (zAd (.int .i64 (zDD a b)) w):=by
 go_enter Tryz.func148,Tryz.ntmps148
 go_wp2_with fail
 with_reducible refine (Cmp_c A A2 c c2 a b _ ((h.alloc _).alloc _) ((h2.alloc _).alloc _) za).mono ?_
 rintro e w1 ⟨rfl,nd,rfl⟩;go_wp2;go_ret
 exact zAd.mk rfl (zAc (((bS w.heap.size w).alloc (aB _) _).alloc zd _) nd)
theorem IAdd_c (A A2:Option Addr) (c c2 a b:Nat) (w:World) (h:Nt w A c a) (h2:Nt w A2 c2 b) (hn:(zAe B32 a).length≤400000000) (hm:(zAe B32 b).length≤400000000) :
  Calls Tryz.prog 187 #[inV false A c a,inV false A2 c2 b] w (GivesI false (a+b) w):=by
 have HA:=zq (fun W (q:Nt W A c a) (q2:Nt W A2 c2 b)=>Add_c A A2 c c2 a b W q q2 za za)
 go_enter Tryz.func187,Tryz.ntmps187
 go_wp2
 go_region_held3 (fun w'=>w'.cell? ⟨w.heap.size,0,none⟩=some (.bool false)∧w'.cell? ⟨w.heap.size,1,none⟩=some (.slice A (zAe B32 a).length c)∧w'.cell? ⟨w.heap.size+1,1,none⟩=some (.slice A2 (zAe B32 b).length c2)) ((refine ⟨?_,?_,?_⟩<;>go_simp))
  (first
   | ((go_at_call 208;(with_reducible refine (HA.o _ (Nt.drew (((h.alloc _).alloc _).alloc _)) (Nt.drew (((h2.alloc _).alloc _).alloc _))).mono ?_);rintro e w1 ⟨A5,c5,rfl,h5,hb⟩;obtain ⟨hc,hf⟩:=bcellK hb;have hz:w.heap.size+2<w1.heap.size:=by (have:=hb.size;simp at this;omega))))
 have c0:w1.cell? ⟨w.heap.size+1+1,0,none⟩=some (.bool false):=yi;have c1:w1.cell? ⟨w.heap.size+1+1,1,none⟩=some (.slice none 0 0):=yi;have HB:Hid (Below w.heap.size w w1):=(zAc ((((bS w.heap.size w).alloc (aB _) _).alloc zd _).alloc zg _) 1).trans (hb.mono zg);go_wp2;refine dD (v:=inV false A5 c5 (a+b)) (by simp [results,Tryz.results187,go_sem,hc]) rfl ⟨A5,c5,rfl,?_,?_⟩
 ·exact h5.set2 c0 c1 (nb_ _) (ns_ _ _ _) _ _
 ·exact (HB.o.setCell zg _).setCell zg _
def sgnI (ng:Bool) (n:Nat):Int:=if ng=true then -1 else if n=0 then 0 else 1
theorem ISign_c (ng:Bool) (A:Option Addr) (c n:Nat) (w:World):Calls Tryz.prog 146 #[inV ng A c n] w (zAd (.int .i64 (sgnI ng n)) w):=by
 cases ng with
 | true =>
  go_enter Tryz.func146,Tryz.ntmps146
  go_wp2;go_ret
  exact zAd.mk rfl ((bS w.heap.size w).alloc (aB _) _)
 | false =>
  by_cases h0:n=0
  ·subst h0
   go_enter Tryz.func146,Tryz.ntmps146
   go_wp2;go_ret
   exact zAd.mk rfl ((bS w.heap.size w).alloc (aB _) _)
  ·have hl:0<(zAe B32 n).length:=by
    rcases bH (zAe B32 n).length with e | e
    ·exact absurd ((zDz zAJ (n:=n)).1 (cZ e)) h0
    ·exact e
   have hr:sgnI false n=1:=by simp [sgnI,h0]
   rw [hr];have HR:=zq hr;clear hr h0
   go_enter Tryz.func146,Tryz.ntmps146
   go_wp2;go_ret
   exact zAd.mk rfl ((bS w.heap.size w).alloc (aB _) _)
theorem RSign_c (ng:Bool) (A A2:Option Addr) (c c2 n d:Nat) (w:World):Calls Tryz.prog 110 #[raV ng A c n A2 c2 d] w (zAd (.int .i64 (sgnI ng n)) w):=by
 go_enter Tryz.func110,Tryz.ntmps110
 go_wp2_with fail
 with_reducible refine (ISign_c ng A c n _).mono ?_
 rintro e w1 ⟨rfl,hb⟩;go_wp2;go_ret
 exact zAd.mk rfl (((bS w.heap.size w).alloc (aB _) _).trans (hb.mono zd))
theorem one_cases {w:World} {A:Option Addr} {c m:Nat} (h:Nt w A c m) (hm:0<m) :
  (m=1∧(zAe B32 m).length=1∧∃ b o,A=some ⟨b,o,none⟩∧b<w.heap.size∧w.cell? ⟨b,o,none⟩=some (.int .u32 1)) ∨
  (m≠1∧(zAe B32 m).length≠1)∨(m≠1∧(zAe B32 m).length=1∧∃ b o,A=some ⟨b,o,none⟩∧b<w.heap.size∧w.cell? ⟨b,o,none⟩=some (.int .u32 (m:Int))):=by
 by_cases hl:(zAe B32 m).length=1
 ·have hw:=words_one hl
  have hr:=h.rd;rw [hw] at hr;obtain ⟨b,o,hA,hb,hc⟩:=hr.at_ zd;have hc0:=hc 0 zd;rw [zCb] at hc0;simp only [cN,cO] at hc0
  by_cases h1:m=1
  ·subst h1
   exact .inl ⟨rfl,hl,b,o,hA,hb,hc0⟩
  ·exact .inr (.inr ⟨h1,hl,b,o,hA,hb,hc0⟩)
 ·refine .inr (.inl ⟨fun e=>?_,hl⟩)
  rw [e,one_words] at hl;exact hl rfl
theorem lowP_zero (d:Nat) (h:0<d):zDj 0 d=(0,1):=by
 unfold zDj;rw [Nat.gcd_zero_left,Nat.zero_div,Nat.div_self h]
theorem lowP_one (n d:Nat) (h:Nat.gcd n d=1):zDj n d=(n,d):=by
 unfold zDj;rw [h,Nat.div_one,Nat.div_one]
theorem Over_zero (A A2:Option Addr) (c c2 d:Nat) (ng:Bool) (w:World):Calls Tryz.prog 181 #[inV ng A c 0,ntV A2 c2 d] w (GivesR false 0 1 w):=by
 go_enter Tryz.func181,Tryz.ntmps181
 go_wp2_with fail
 with_reducible refine (One_c _).mono ?_
 rintro e w1 ⟨A5,c5,rfl,h5,hb⟩;obtain ⟨hc,hf⟩:=bcellK hb;have hz:w.heap.size+1<w1.heap.size:=xb;have c0:w1.cell? ⟨w.heap.size+1,0,none⟩=some (.bool false):=yi;have c1:w1.cell? ⟨w.heap.size+1,1,none⟩=some (.slice none 0 0):=yi;have c2:w1.cell? ⟨w.heap.size+1,2,none⟩=some (.slice none 0 0):=yi;have HB:Hid (Below w.heap.size w w1):=(((bS w.heap.size w).alloc (aB _) _).alloc zd _).trans (hb.mono zg);go_wp2;refine dD (v:=raV false none 0 0 A5 c5 1) (by simp [results,Tryz.results181,go_sem,hc];rfl) rfl ⟨none,0,A5,c5,rfl,Nt.zero _,?_,?_⟩
 ·exact h5.set3 c0 c1 c2 (nb_ _) (ns_ _ _ _) (ns_ _ _ _) _ _ _
 ·exact ((HB.o.setCell zd _).setCell zd _).setCell zd _
theorem pos_len {n:Nat} (h:0<n):0<(zAe B32 n).length:=by
 rcases bH (zAe B32 n).length with e | e
 ·have:=(zDz zAJ (n:=n)).1 (cZ e)
  omega
 ·exact e
theorem Over_same (A A2:Option Addr) (c c2 n:Nat) (ng:Bool) (w:World) (h:Nt w A c n) (h2:Nt w A2 c2 1) (h0:0<n):Calls Tryz.prog 181 #[inV ng A c n,ntV A2 c2 1] w (GivesR ng n 1 w):=by
 have hl:=pos_len h0;have hlb:(((zAe B32 n).length:Int) == 0)=false:=by simp;intro e;rw [e] at hl;simp at hl
 rcases one_cases h2 za with ⟨_,hl1,b,o,rfl,hb,hcell⟩ | ⟨e,_⟩ | ⟨e,_⟩
 ·have e2:ntV (some ⟨b,o,none⟩) c2 1 = .slice (some ⟨b,o,none⟩) 1 c2:=by
   show Value.slice _ (zAe B32 1).length c2=_
   rw [hl1]
  have HL1:=zq hl1;clear hl1;rw [e2];have E2:=zq e2;clear e2 hl
  go_enter Tryz.func181,Tryz.ntmps181
  go_wp2;refine dD (v:=raV ng A c n (some ⟨b,o,none⟩) c2 1) (by simp [results,Tryz.results181,go_sem];rfl) rfl ⟨A,c,_,c2,rfl,?_,?_,?_⟩
  ·exact (h.alloc _).alloc _
  ·exact (h2.alloc _).alloc _
  ·exact ((bS w.heap.size w).alloc (aB _) _).alloc zd _
 ·exact absurd rfl e
 ·exact absurd rfl e
theorem Over_gen (A A2:Option Addr) (c c2 n d:Nat) (ng:Bool) (w:World) (h:Nt w A c n) (h2:Nt w A2 c2 d) (h0:0<n) (hd0:0<d) (hd:d≠1) (hn:(zAe B32 n).length≤400000000) (hm:(zAe B32 d).length≤400000000) :
  Calls Tryz.prog 181 #[inV ng A c n,ntV A2 c2 d] w (GivesR ng (zDj n d).1 (zDj n d).2 w):=by
 have hl:=pos_len h0;have hl2:=pos_len hd0;have hlb:(((zAe B32 n).length:Int) == 0)=false:=by simp;intro e;rw [e] at hl;simp at hl
 have HGB:Hid (Nat.gcd n d≤d):=Nat.gcd_le_right n hd0;have hg0:0<Nat.gcd n d:=dE n hd0;have hgl:(zAe B32 (Nat.gcd n d)).length≤400000000:=cV (zAL zAJ HGB.o) hm;have HLP:Hid (zDj n d=(n / Nat.gcd n d,d / Nat.gcd n d)):=rfl;rw [HLP.o];obtain ⟨G,hG⟩:∃ G,Nat.gcd n d=G:=⟨_,rfl⟩;rw [hG] at hg0 hgl ⊢;have HG:=zq hG;clear hG;have HQ1:=zq (fun W A5 c5 (q:Nt W A c n) (q2:Nt W A5 c5 G)=>Div_c A A5 c c5 n G W q q2 hn hg0)
 have HQ2:=zq (fun W A5 c5 (q:Nt W A2 c2 d) (q2:Nt W A5 c5 G)=>Div_c A2 A5 c2 c5 d G W q q2 hm hg0)
 have hgc:=fun W (q:Nt W A c n) (q2:Nt W A2 c2 d)=>gcd_c A A2 c c2 n d W q q2 hn hm
 rw [HG.o] at hgc;have HGC:=zq hgc;clear hgc
 have CS:Hid ((((zAe B32 d).length:Int) == 1)=false∨((((zAe B32 d).length:Int) == 1)=true∧((d:Int) == 1)=false∧∃ b o,A2=some ⟨b,o,none⟩∧b<w.heap.size∧w.cell? ⟨b,o,none⟩=some (.int .u32 (d:Int)))):=by
  rcases one_cases h2 hd0 with ⟨e,_⟩ | ⟨_,e⟩ | ⟨e,hl1,b,o,hA,hb,hc⟩
  ·exact absurd e hd
  ·exact .inl zg
  ·exact .inr ⟨zg,zg,b,o,hA,hb,hc⟩
 clear hd
 rcases CS.out with hc1 | ⟨hc1,hc2,b,o,rfl,hb,hcell⟩
 all_goals
  go_enter Tryz.func181,Tryz.ntmps181
  go_wp2_with fail
  with_reducible refine (HGC.o _ ((h.alloc _).alloc _) ((h2.alloc _).alloc _)).mono ?_
  rintro e w1 ⟨A5,c5,rfl,h5,hb5⟩;obtain ⟨hc,hf⟩:=bcellK hb5;have hz:w.heap.size+1<w1.heap.size:=by have:=hb5.size;simp at this;omega
  have k0:w1.cell? ⟨w.heap.size+1,0,none⟩=some (.bool false):=yi;have k1:w1.cell? ⟨w.heap.size+1,1,none⟩=some (.slice none 0 0):=yi;have k2:w1.cell? ⟨w.heap.size+1,2,none⟩=some (.slice none 0 0):=yi;have HB:Hid (Below w.heap.size w w1):=(((bS w.heap.size w).alloc (aB _) _).alloc zd _).trans (hb5.mono zg);have hn1:=((h.alloc _).alloc _).below hb5;have hd1:=((h2.alloc _).alloc _).below hb5
  have CS2:Hid ((G=1∧(((zAe B32 G).length:Int) == 1)=true∧0<(zAe B32 G).length∧∃ b o,A5=some ⟨b,o,none⟩∧b<w1.heap.size∧w1.cell? ⟨b,o,none⟩=some (.int .u32 1))∨(((zAe B32 G).length:Int) == 1)=false ∨
    ((((zAe B32 G).length:Int) == 1)=true∧0<(zAe B32 G).length∧((G:Int) == 1)=false∧∃ b o,A5=some ⟨b,o,none⟩∧b<w1.heap.size∧w1.cell? ⟨b,o,none⟩=some (.int .u32 (G:Int)))):=by
   rcases one_cases h5 hg0 with ⟨e,hl1,b,o,hA,hb,hc⟩ | ⟨_,e⟩ | ⟨e,hl1,b,o,hA,hb,hc⟩
   ·exact .inl ⟨e,zg,za,b,o,hA,hb,hc⟩
   ·exact .inr (.inl zg)
   ·exact .inr (.inr ⟨zg,za,zg,b,o,hA,hb,hc⟩)
  clear hb5
  rcases CS2.out with ⟨hG1,hg1,hg2,b2,o2,hA5,hb2,hcell2⟩ | hg1 | ⟨hg1,hg2,hg3,b2,o2,hA5,hb2,hcell2⟩
  ·subst hA5
   have HG1:=zq hG1;clear hG1 hc1;go_wp2;rw [HG1.o,Nat.div_one,Nat.div_one];refine dD (v:=raV ng A c n _ c2 d) (by simp [results,Tryz.results181,go_sem,hc]) rfl ⟨A,c,_,c2,rfl,hn1.set3 k0 k1 k2 (nb_ _) (ns_ _ _ _) (ns_ _ _ _) _ _ _,hd1.set3 k0 k1 k2 (nb_ _) (ns_ _ _ _) (ns_ _ _ _) _ _ _,?_⟩
   exact ((HB.o.setCell zd _).setCell zd _).setCell zd _
  ·clear hc1
   go_wp2_with fail
   with_reducible refine (HQ1.o _ _ _ hn1 h5).mono ?_
   rintro e w2 ⟨A6,c6,A7,c7,rfl,h6,_,hb6⟩;have hd2:=hd1.below hb6;have h52:=h5.below hb6;have HB2:=zq (zAb HB.o hb6);have hz2:w.heap.size+1<w2.heap.size:=cX hz hb6.size;have m0:w2.cell? ⟨w.heap.size+1,0,none⟩=some (.bool false):=(hb6.cell (p:=⟨w.heap.size+1,0,none⟩) hz).trans k0;have m1:w2.cell? ⟨w.heap.size+1,1,none⟩=some (.slice none 0 0):=(hb6.cell (p:=⟨w.heap.size+1,1,none⟩) hz).trans k1;have m2:w2.cell? ⟨w.heap.size+1,2,none⟩=some (.slice none 0 0):=(hb6.cell (p:=⟨w.heap.size+1,2,none⟩) hz).trans k2
   have f0:∀ i,w2.frozen? ⟨w.heap.size+1,i,none⟩=false:=fun i=>by
    rw [hb6.frozen (p:=⟨w.heap.size+1,i,none⟩) hz,hf _ _ zd];go_simp
   have n0:w2.cell? ⟨w.heap.size,0,none⟩=some (.bool ng):=by
    rw [hb6.cell (p:=⟨w.heap.size,0,none⟩) (by show w.heap.size<_;omega),hc _ _ zg];go_simp
   clear hb6 k0 k1 k2 hc hf HB
   go_wp2_with fail
   with_reducible refine (HQ2.o _ _ _ hd2 h52).mono ?_
   rintro e w3 ⟨A8,c8,A9,c9,rfl,h8,_,hb8⟩;have h63:=h6.below hb8;have HB3:=zq (zAb HB2.o hb8);have k0:w3.cell? ⟨w.heap.size+1,0,none⟩=some (.bool false):=(hb8.cell (p:=⟨w.heap.size+1,0,none⟩) hz2).trans m0;have k1:w3.cell? ⟨w.heap.size+1,1,none⟩=some (.slice none 0 0):=(hb8.cell (p:=⟨w.heap.size+1,1,none⟩) hz2).trans m1;have k2:w3.cell? ⟨w.heap.size+1,2,none⟩=some (.slice none 0 0):=(hb8.cell (p:=⟨w.heap.size+1,2,none⟩) hz2).trans m2;have f3:∀ i,w3.frozen? ⟨w.heap.size+1,i,none⟩=false:=fun i=>(hb8.frozen (p:=⟨w.heap.size+1,i,none⟩) hz2).trans (f0 i)
   have n3:w3.cell? ⟨w.heap.size,0,none⟩=some (.bool ng):=(hb8.cell (p:=⟨w.heap.size,0,none⟩) (by show w.heap.size<_;omega)).trans n0
   have hz3:w.heap.size+1<w3.heap.size:=cX hz2 hb8.size;clear hb8 m0 m1 m2 n0 f0 HB2;go_wp2;refine dD (v:=raV ng A6 c6 (n / G) A8 c8 (d / G)) (by simp [results,Tryz.results181,go_sem,k0,k1,k2]) rfl ⟨A6,c6,A8,c8,rfl,h63.set3 k0 k1 k2 (nb_ _) (ns_ _ _ _) (ns_ _ _ _) _ _ _,h8.set3 k0 k1 k2 (nb_ _) (ns_ _ _ _) (ns_ _ _ _) _ _ _,?_⟩
   exact ((HB3.o.setCell zd _).setCell zd _).setCell zd _
  ·subst hA5
   clear hc1
   go_wp2_with fail
   with_reducible refine (HQ1.o _ _ _ hn1 h5).mono ?_
   rintro e w2 ⟨A6,c6,A7,c7,rfl,h6,_,hb6⟩;have hd2:=hd1.below hb6;have h52:=h5.below hb6;have HB2:=zq (zAb HB.o hb6);have hz2:w.heap.size+1<w2.heap.size:=cX hz hb6.size;have m0:w2.cell? ⟨w.heap.size+1,0,none⟩=some (.bool false):=(hb6.cell (p:=⟨w.heap.size+1,0,none⟩) hz).trans k0;have m1:w2.cell? ⟨w.heap.size+1,1,none⟩=some (.slice none 0 0):=(hb6.cell (p:=⟨w.heap.size+1,1,none⟩) hz).trans k1;have m2:w2.cell? ⟨w.heap.size+1,2,none⟩=some (.slice none 0 0):=(hb6.cell (p:=⟨w.heap.size+1,2,none⟩) hz).trans k2
   have f0:∀ i,w2.frozen? ⟨w.heap.size+1,i,none⟩=false:=fun i=>by
    rw [hb6.frozen (p:=⟨w.heap.size+1,i,none⟩) hz,hf _ _ zd];go_simp
   have n0:w2.cell? ⟨w.heap.size,0,none⟩=some (.bool ng):=by
    rw [hb6.cell (p:=⟨w.heap.size,0,none⟩) (by show w.heap.size<_;omega),hc _ _ zg];go_simp
   clear hb6 k0 k1 k2 hc hf HB
   go_wp2_with fail
   with_reducible refine (HQ2.o _ _ _ hd2 h52).mono ?_
   rintro e w3 ⟨A8,c8,A9,c9,rfl,h8,_,hb8⟩;have h63:=h6.below hb8;have HB3:=zq (zAb HB2.o hb8);have k0:w3.cell? ⟨w.heap.size+1,0,none⟩=some (.bool false):=(hb8.cell (p:=⟨w.heap.size+1,0,none⟩) hz2).trans m0;have k1:w3.cell? ⟨w.heap.size+1,1,none⟩=some (.slice none 0 0):=(hb8.cell (p:=⟨w.heap.size+1,1,none⟩) hz2).trans m1;have k2:w3.cell? ⟨w.heap.size+1,2,none⟩=some (.slice none 0 0):=(hb8.cell (p:=⟨w.heap.size+1,2,none⟩) hz2).trans m2;have f3:∀ i,w3.frozen? ⟨w.heap.size+1,i,none⟩=false:=fun i=>(hb8.frozen (p:=⟨w.heap.size+1,i,none⟩) hz2).trans (f0 i)
   have n3:w3.cell? ⟨w.heap.size,0,none⟩=some (.bool ng):=(hb8.cell (p:=⟨w.heap.size,0,none⟩) (by show w.heap.size<_;omega)).trans n0
   have hz3:w.heap.size+1<w3.heap.size:=cX hz2 hb8.size;clear hb8 m0 m1 m2 n0 f0 HB2;go_wp2;refine dD (v:=raV ng A6 c6 (n / G) A8 c8 (d / G)) (by simp [results,Tryz.results181,go_sem,k0,k1,k2]) rfl ⟨A6,c6,A8,c8,rfl,h63.set3 k0 k1 k2 (nb_ _) (ns_ _ _ _) (ns_ _ _ _) _ _ _,h8.set3 k0 k1 k2 (nb_ _) (ns_ _ _ _) (ns_ _ _ _) _ _ _,?_⟩
   exact ((HB3.o.setCell zd _).setCell zd _).setCell zd _
theorem Over_c (A A2:Option Addr) (c c2 n d:Nat) (ng:Bool) (w:World) (h:Nt w A c n) (h2:Nt w A2 c2 d) (hd0:0<d) (hn:(zAe B32 n).length≤400000000) (hm:(zAe B32 d).length≤400000000) :
  Calls Tryz.prog 181 #[inV ng A c n,ntV A2 c2 d] w (GivesR (ng&&decide (n≠0)) (zDj n d).1 (zDj n d).2 w):=by
 by_cases h0:n=0
 ·subst h0
  rw [lowP_zero d hd0];have:=Over_zero A A2 c c2 d ng w
  simpa using this
 ·have e:(ng&&decide (n≠0))=ng:=by simp [h0]
  rw [e]
  by_cases h1:d=1
  ·subst h1
   rw [lowP_one n 1 (Nat.gcd_one_right n)];exact Over_same A A2 c c2 n ng w h h2 za
  ·exact Over_gen A A2 c c2 n d ng w h h2 za hd0 h1 hn hm
end Go.Proofs.YtoaelidmmcbkfaaGreatDoor
namespace Go.Proofs
open Go.Shelf
def Tryz.lays160_ren:Go.Shelf.Ren:=⟨fun | 160=>67 | 232=>97 | 231=>96 | 227=>98 | 234=>100 | 233=>99 | 236=>102 | 235=>101 | 228=>132 | 271=>134 | 151=>133 | 197=>92 | 120=>176 | 152=>175 | 260=>127 | 137=>197 | 119=>198 | 224=>130 | 225=>129 | 217=>128 | 266=>173 | n=>n,fun | 9=>9 | 4=>4 | 3=>3 | 5=>5 | 117=>145 | 116=>144 | 0=>0 | 124=>148 | 21=>21 | 105=>139 | 46=>175 | 119=>209 | 139=>212 | 138=>211 | n=>n,fun | 3=>1 | 4=>2 | n=>n⟩
theorem Tryz.lays160:Go.Proofs.Lays.n160 Tryz.prog Tryz.lays160_ren:={
 mixed:=zb
 f119:=Tryz.func198.trans (aY some zb)
 f120:=Tryz.func176.trans (aY some zb)
 f137:=Tryz.func197.trans (aY some zb)
 f151:=Tryz.func133.trans (aY some zb)
 f152:=Tryz.func175.trans (aY some zb)
 f160:=Tryz.func67.trans (aY some zb)
 f197:=Tryz.func92.trans (aY some zb)
 f217:=Tryz.func128.trans (aY some zb)
 f224:=Tryz.func130.trans (aY some zb)
 f225:=Tryz.func129.trans (aY some zb)
 f227:=Tryz.func98.trans (aY some zb)
 f228:=Tryz.func132.trans (aY some zb)
 f231:=Tryz.func96.trans (aY some zb)
 f232:=Tryz.func97.trans (aY some zb)
 f233:=Tryz.func99.trans (aY some zb)
 f234:=Tryz.func100.trans (aY some zb)
 f235:=Tryz.func101.trans (aY some zb)
 f236:=Tryz.func102.trans (aY some zb)
 f260:=Tryz.func127.trans (aY some zb)
 f266:=Tryz.func173.trans (aY some zb)
 f271:=Tryz.func134.trans (aY some zb)
 t0:=Tryz.underlying0
 a0:=Tryz.isAgg0
 z0:=Tryz.sizeOf0
 v0:=Tryz.zeroValue0
 t3:=Tryz.underlying3
 a3:=Tryz.isAgg3
 z3:=Tryz.sizeOf3
 v3:=Tryz.zeroValue3
 t4:=Tryz.underlying4
 a4:=Tryz.isAgg4
 z4:=Tryz.sizeOf4
 v4:=Tryz.zeroValue4
 t5:=Tryz.underlying5
 a5:=Tryz.isAgg5
 z5:=Tryz.sizeOf5
 v5:=Tryz.zeroValue5
 t9:=Tryz.underlying9
 a9:=Tryz.isAgg9
 z9:=Tryz.sizeOf9
 v9:=Tryz.zeroValue9
 t21:=Tryz.underlying21
 a21:=Tryz.isAgg21
 z21:=Tryz.sizeOf21
 v21:=Tryz.zeroValue21
 t46:=Tryz.underlying175
 a46:=Tryz.isAgg175
 z46:=Tryz.sizeOf175
 v46:=Tryz.zeroValue175
 t105:=Tryz.underlying139
 a105:=Tryz.isAgg139
 z105:=Tryz.sizeOf139
 v105:=Tryz.zeroValue139
 t116:=Tryz.underlying144
 a116:=Tryz.isAgg144
 z116:=Tryz.sizeOf144
 t117:=Tryz.underlying145
 a117:=Tryz.isAgg145
 z117:=Tryz.sizeOf145
 v117:=Tryz.zeroValue145
 t119:=Tryz.underlying209
 a119:=Tryz.isAgg209
 z119:=Tryz.sizeOf209
 t124:=Tryz.underlying148
 a124:=Tryz.isAgg148
 z124:=Tryz.sizeOf148
 v124:=Tryz.zeroValue148
 t138:=Tryz.underlying211
 a138:=Tryz.isAgg211
 z138:=Tryz.sizeOf211
 v138:=Tryz.zeroValue211
 t139:=Tryz.underlying212
 a139:=Tryz.isAgg212
 z139:=Tryz.sizeOf212
 v139:=Tryz.zeroValue212
 g3:=zb
 g4:=by kernel_rfl }
def Tryz.lays103_ren:Go.Shelf.Ren:=⟨fun | 103=>66 | 210=>95 | 206=>77 | n=>n,fun | 9=>9 | 4=>4 | 24=>57 | 3=>3 | n=>n,fun | n=>n⟩
theorem Tryz.lays103:Go.Proofs.Lays.n103 Tryz.prog Tryz.lays103_ren:={
 mixed:=zb
 f103:=Tryz.func66.trans (aY some zb)
 f206:=Tryz.func77.trans (aY some zb)
 f210:=Tryz.func95.trans (aY some zb)
 t3:=Tryz.underlying3
 a3:=Tryz.isAgg3
 z3:=Tryz.sizeOf3
 v3:=Tryz.zeroValue3
 t4:=Tryz.underlying4
 a4:=Tryz.isAgg4
 z4:=Tryz.sizeOf4
 v4:=Tryz.zeroValue4
 t9:=Tryz.underlying9
 a9:=Tryz.isAgg9
 z9:=Tryz.sizeOf9
 v9:=Tryz.zeroValue9
 t24:=Tryz.underlying57
 a24:=Tryz.isAgg57
 z24:=Tryz.sizeOf57
 v24:=Tryz.zeroValue57 }
def Tryz.lays106_ren:Go.Shelf.Ren:=⟨fun | 106=>107 | 213=>141 | 265=>180 | n=>n,fun | 9=>9 | 3=>3 | n=>n,fun | n=>n⟩
theorem Tryz.lays106:Go.Proofs.Lays.n106 Tryz.prog Tryz.lays106_ren:={
 mixed:=zb
 f106:=Tryz.func107.trans (aY some zb)
 f213:=Tryz.func141.trans (aY some zb)
 f265:=Tryz.func180.trans (aY some zb)
 t3:=Tryz.underlying3
 a3:=Tryz.isAgg3
 z3:=Tryz.sizeOf3
 v3:=Tryz.zeroValue3
 t9:=Tryz.underlying9
 a9:=Tryz.isAgg9
 z9:=Tryz.sizeOf9
 v9:=Tryz.zeroValue9 }
end Go.Proofs
namespace Go.Proofs.YtoaelidmmcbkfaaGreatDoor
open Go.RowKit Dw
theorem Of_c (n:Nat) (w:World) (h:n≤1000000000):Calls Tryz.prog 149 #[.int .i64 (n:Int)] w (GivesI false n w):=by
 go_enter Tryz.func149,Tryz.ntmps149
 go_wp2_with fail
 with_reducible refine (natOf_c n _ za).mono ?_
 rintro e w1 ⟨A5,c5,rfl,h5,hb⟩;obtain ⟨hc,hf⟩:=bcellK hb;have hz:w.heap.size<w1.heap.size:=xb;have k0:w1.cell? ⟨w.heap.size,0,none⟩=some (.bool false):=yi;have k1:w1.cell? ⟨w.heap.size,1,none⟩=some (.slice none 0 0):=yi;have HB:Hid (Below w.heap.size w w1):=((bS w.heap.size w).alloc (aB _) _).trans (hb.mono zd);go_wp2;refine dD (v:=inV false A5 c5 n) (by simp [results,Tryz.results149,go_sem,hc]) rfl ⟨A5,c5,rfl,?_,?_⟩
 ·exact h5.set2 k0 k1 (nb_ _) (ns_ _ _ _) _ _
 ·exact (HB.o.setCell zd _).setCell zd _
theorem Whole_c (n:Nat) (w:World) (h:n≤1000000000):Calls Tryz.prog 112 #[.int .i64 (n:Int)] w (GivesR false n 1 w):=by
 go_enter Tryz.func112,Tryz.ntmps112
 go_wp2_with fail
 with_reducible refine (Of_c n _ h).mono ?_
 rintro e w1 ⟨A5,c5,rfl,h5,hb⟩
 go_wp2_with fail
 with_reducible refine (One_c _).mono ?_
 rintro e w2 ⟨A6,c6,rfl,h6,hb6⟩;have h56:=h5.below hb6;have hb7:=zAb hb hb6;obtain ⟨hc,hf⟩:=bcellK hb7;have hz:w.heap.size<w2.heap.size:=by have:=hb7.size;simp at this;omega
 have k0:w2.cell? ⟨w.heap.size,0,none⟩=some (.bool false):=yi;have k1:w2.cell? ⟨w.heap.size,1,none⟩=some (.slice none 0 0):=yi;have k2:w2.cell? ⟨w.heap.size,2,none⟩=some (.slice none 0 0):=yi;have HB:Hid (Below w.heap.size w w2):=((bS w.heap.size w).alloc (aB _) _).trans (hb7.mono zd);go_wp2;refine dD (v:=raV false A5 c5 n A6 c6 1) (by simp [results,Tryz.results112,go_sem,hc]) rfl ⟨A5,c5,A6,c6,rfl,?_,?_,?_⟩
 ·exact h56.set3 k0 k1 k2 (nb_ _) (ns_ _ _ _) (ns_ _ _ _) _ _ _
 ·exact h6.set3 k0 k1 k2 (nb_ _) (ns_ _ _ _) (ns_ _ _ _) _ _ _
 ·exact ((HB.o.setCell zd _).setCell zd _).setCell zd _
theorem byte45 (c:UInt8):(45 == c)=decide (c.toNat=45):=by
 have h:∀ n:Nat,n<256→((45:UInt8) == UInt8.ofNat n)=decide ((UInt8.ofNat n).toNat=45):=qx;have:=h c.toNat c.toNat_lt
 simpa using this
theorem cut_c (s:BA) (w:World):Calls Tryz.prog 66 #[.string s,.string ⟨#[45]⟩] w (zAr (.tuple #[.string (zBh s),.bool (zDo s)]) w):=by
 have h:=Any.strings_CutPrefix Tryz.lays103 s ⟨#[45]⟩ w
 change Calls Tryz.prog 66 _ _ _ at h
 have e1:Lib.hasPrefix s.data.toList [45]=zDo s:=by
  unfold Lib.hasPrefix zDo;rw [Lib.size_eq]
  cases s.data.toList with
  | nil=>rfl
  | cons a l =>
   have:(45 == a)=decide (a.toNat=45):=byte45 a;simp [List.isPrefixOf,this]
 have e2:(⟨(Lib.trimPrefix s.data.toList [45]).toArray⟩:BA)=zBh s:=by
  unfold Lib.trimPrefix zBh absL;rw [e1]
  cases zDo s<;>simp
 refine h.mono fun _ _ ⟨he,hw⟩=>⟨?_,hw.symm⟩
 rw [he]
 show Ending.returned (.tuple #[.string ⟨(Lib.trimPrefix s.data.toList [45]).toArray⟩,.bool (Lib.hasPrefix s.data.toList [45])])=_
 rw [e1,e2]
def Bx (w:World) (g:Nat) (cs:Array Value) (T:TypeId):Prop:=w.heap[g]?=some (.cells cs T (0,0))
section
variable {w w':World} {g:Nat} {cs:Array Value} {T:TypeId}
theorem Bx.lt (h:Bx w g cs T):g<w.heap.size:=(Array.getElem?_eq_some_iff.1 h).1
theorem Bx.cell (h:Bx w g cs T) {i:Nat} {v:Value} (hi:cs[i]?=some v):w.cell? ⟨g,i,none⟩=some v:=by
 rw [bQ w g i _ _ _ h];exact hi
theorem Bx.c (h:Bx w g cs T) (i:Nat) {v:Value} (hi:cs[i]?=some v):w.cell? ⟨g,i,none⟩=some v:=h.cell hi
theorem Bx.t {w:World} {g:Nat} {T:TypeId} {a b c:Value} (h:Bx w g #[a,b,c] T):w.cell? ⟨g,0,none⟩=some a∧w.cell? ⟨g,1,none⟩=some b∧w.cell? ⟨g,2,none⟩=some c:=⟨h.c 0 rfl,h.c 1 rfl,h.c 2 rfl⟩
theorem Bx.frozen (h:Bx w g cs T) (i:Nat):w.frozen? ⟨g,i,none⟩=false:=cD w g i _ _ h
theorem Bx.below (h:Bx w g cs T) (hb:Below w.heap.size w w'):Bx w' g cs T:=(hb.block g h.lt).trans h
theorem Bx.drew (h:Bx w g cs T):Bx w.drew g cs T:=h
theorem Bx.drewN (h:Bx w g cs T) (n:Nat):Bx (w.drewN n) g cs T:=h
theorem Bx.alloc (h:Bx w g cs T) (o:Obj):Bx (w.alloc o) g cs T:=(dF w o g h.lt).trans h
theorem Bx.new (w:World) (cs:Array Value) (T:TypeId):Bx (w.alloc (.cells cs T)) w.heap.size cs T:=cI w _
theorem Bx.new1 (w:World) (o:Obj) (cs:Array Value) (T:TypeId):Bx ((w.alloc o).alloc (.cells cs T)) (w.heap.size+1) cs T:=by
 have:=Bx.new (w.alloc o) cs T
 rwa [show (w.alloc o).heap.size=w.heap.size+1 by simp] at this
theorem Bx.new2 (w:World) (o o2:Obj) (cs:Array Value) (T:TypeId):Bx (((w.alloc o).alloc o2).alloc (.cells cs T)) (w.heap.size+1+1) cs T:=by
 have:=Bx.new1 (w.alloc o) o2 cs T
 rwa [show (w.alloc o).heap.size=w.heap.size+1 by simp] at this
end
abbrev zRat:Array Value:=#[.bool false,.slice none 0 0,.slice none 0 0]
theorem Nt.setR {w:World} {A:Option Addr} {c n R:Nat} {T:TypeId} (h:Nt w A c n) (hb:Bx w R zRat T) (u0 u1 u2:Value):Nt (((w.setCell ⟨R,0,none⟩ u0).setCell ⟨R,1,none⟩ u1).setCell ⟨R,2,none⟩ u2) A c n :=
 h.set3 (hb.c 0 rfl) (hb.c 1 rfl) (hb.c 2 rfl) (nb_ _) (ns_ _ _ _) (ns_ _ _ _) _ _ _
def sgB (s:BA):Bool:=zDo s&&decide (zAK (zBh s)≠0)
theorem Parse_c (s:BA) (w:World) (hd:(zBh s).data.toList.all dgB=true) (hs:(zBh s).size≤2000):Calls Tryz.prog 144 #[.string s] w (GivesI (sgB s) (zAK (zBh s)) w):=by
 have HS:Hid ((zAK (zBh s)=0∧sgB s=false)∨(0<(zAe B32 (zAK (zBh s))).length∧sgB s=zDo s)):=by
  by_cases h0:zAK (zBh s)=0
  ·exact .inl ⟨h0,by simp [sgB,h0]⟩
  ·exact .inr ⟨pos_len za,by simp [sgB,h0]⟩
 have HN:=zq (fun W=>natText_c (zBh s) W hd hs)
 have HC:=zq (fun W=>cut_c s W)
 clear hd hs;generalize zBh s=t at *;generalize zAK t=n at *;generalize sgB s=sg at *;generalize zDo s=ng at *
 rcases HS.o with ⟨rfl,rfl⟩ | ⟨hl,rfl⟩
 case' inr=>cases sg
 case' inl=>cases ng
 all_goals
  clear HS
  go_enter Tryz.func144,Tryz.ntmps144
  go_wp2_with fail
  with_reducible refine (HC.o _).mono ?_
  rintro e w1 ⟨rfl,rfl⟩
  go_wp2_with fail
  with_reducible refine (HN.o _).mono ?_
  rintro e w2 ⟨A5,c5,rfl,h5,hb⟩;obtain ⟨hc,hf⟩:=bcellK hb;have hz:w.heap.size<w2.heap.size:=xb;have k0:w2.cell? ⟨w.heap.size,0,none⟩=some (.bool false):=yi;have k1:w2.cell? ⟨w.heap.size,1,none⟩=some (.slice none 0 0):=yi;have HB:Hid (Below w.heap.size w w2):=((bS w.heap.size w).alloc (aB _) _).trans (hb.mono zd);clear HC HN;go_wp2;refine dD (v:=inV _ A5 c5 _) (by first | (simp [results,Tryz.results144,go_sem,hc];done) | (simp [results,Tryz.results144,go_sem,hc];rfl)) rfl ⟨A5,c5,rfl,?_,?_⟩
  ·exact h5.set2 k0 k1 (nb_ _) (ns_ _ _ _) _ _
  ·exact (HB.o.setCell zd _).setCell zd _
theorem From_c (nu de:BA) (w:World) (hd:(zBh nu).data.toList.all dgB=true) (hs:(zBh nu).size≤2000) (hd2:de.data.toList.all dgB=true) (hs2:de.size≤2000) :
  Calls Tryz.prog 109 #[.agg #[.string nu,.string de]] w (GivesR (sgB nu) (zAK (zBh nu)) (zAK de) w):=by
 have HP:=zq (fun W=>Parse_c nu W hd hs)
 have HN:=zq (fun W=>natText_c de W hd2 hs2)
 clear hd hs hd2 hs2;generalize zAK (zBh nu)=n at *;generalize sgB nu=sg at *;generalize zAK de=d at *
 go_enter Tryz.func109,Tryz.ntmps109
 go_wp2;have HX:Hid (Bx ((w.alloc (.cells #[.string nu,.string de] 43)).alloc (.cells zRat 158)) w.heap.size #[.string nu,.string de] 43):=(Bx.new _ _ _).alloc _;have HR:Hid (Bx ((w.alloc (.cells #[.string nu,.string de] 43)).alloc (.cells zRat 158)) (w.heap.size+1) zRat 158):=Bx.new1 _ _ _ _;have HB:Hid (Below w.heap.size w ((w.alloc (.cells #[.string nu,.string de] 43)).alloc (.cells zRat 158))):=((bS w.heap.size w).alloc (aB _) _).alloc zd _
 go_region_held3 (fun w'=>w'.cell? ⟨w.heap.size,0,none⟩=some (.string nu)∧w'.cell? ⟨w.heap.size,1,none⟩=some (.string de)) ((refine ⟨?_,?_⟩<;>first | with_reducible assumption | go_simp))
  (first
   | ((go_at_call 144;(with_reducible refine (HP.o _).mono ?_);rintro e w1 ⟨A5,c5,rfl,h5,hb⟩;have HX1:=zq (HX.o.drew.below hb);have HR1:=zq (HR.o.drew.below hb);have HB1:=zq ((zAc HB.o 1).trans (hb.mono HB.o.size));have a0:=HX1.o.c 0 rfl;have a1:=HX1.o.c 1 rfl;clear hb))
   | ((go_at_call 145;(with_reducible refine (HN.o _).mono ?_);rintro e w2 ⟨A6,c6,rfl,h6,hb6⟩;have h56:=h5.below hb6;have HX2:=zq (HX1.o.below hb6);have HR2:=zq (HR1.o.below hb6);have HB2:=zq (zAb HB1.o hb6);have a2:=HX2.o.c 0 rfl;have a3:=HX2.o.c 1 rfl;obtain ⟨r0,r1,r2⟩:=HR2.o.t;have fr:=HR2.o.frozen;have rl:=HR2.o.lt;clear hb6)))
 clear HX HR HB HX1 HR1 HB1 a0 a1 h5;go_wp2;refine dD (v:=raV sg A5 c5 n A6 c6 d) (by simp [results,Tryz.results109,go_sem,r0,r1,r2]) rfl ⟨A5,c5,A6,c6,rfl,h56.setR HR2.o _ _ _,h6.setR HR2.o _ _ _,?_⟩
 exact ((HB2.o.setCell zd _).setCell zd _).setCell zd _
def lowB (n d:Nat):Bool:=decide (Nat.gcd n d=1)
theorem low_cmp {n d:Nat} (hd:0<d):(zDD (zDj n d).2 d == 0)=lowB n d:=by
 unfold lowB zDj
 show (zDD (d / Nat.gcd n d) d == 0)=_
 have hg:=dE n hd
 by_cases h:Nat.gcd n d=1
 ·have e:d / Nat.gcd n d=d:=by rw [h];exact Nat.div_one d
  rw [e,zDa rfl];simp [h]
 ·have hlt:d / Nat.gcd n d<d:=Nat.div_lt_self hd za
  rw [zBU hlt];simp [h]
theorem fldDen (W:World) (ng:Bool) (A A2:Option Addr) (n c m c2:Nat):(Instr.field 158 (.agg #[.bool ng,.slice A n c,.slice A2 m c2]) 1).run Tryz.prog W = .ok (.slice A2 m c2) W:=zb
theorem Lowest_c (ng:Bool) (A A2:Option Addr) (c c2 n d:Nat) (w:World) (h:Nt w A c n) (h2:Nt w A2 c2 d) (hd:0<d) (hn:(zAe B32 n).length≤400000000) (hm:(zAe B32 d).length≤400000000) :
  Calls Tryz.prog 143 #[raV ng A c n A2 c2 d] w (zAd (.bool (lowB n d)) w):=by
 have hlc:=low_cmp (n:=n) hd;have HL2:Hid ((zAe B32 (zDj n d).2).length≤400000000):=cV (zAL zAJ (Nat.div_le_self d _)) hm;have HO:=zq (fun W (q:Nt W A c n) (q2:Nt W A2 c2 d)=>Over_c A A2 c c2 n d ng W q q2 hd hn hm)
 generalize (ng&&decide (n≠0))=ng2 at *;generalize (zDj n d).1=p1 at *;generalize (zDj n d).2=p2 at *;generalize lowB n d=lb at *;have HLC:=zq hlc;clear hlc hd;have HXX:Hid (Bx (w.alloc (.cells #[.bool ng,.slice A (zAe B32 n).length c,.slice A2 (zAe B32 d).length c2] 158)) w.heap.size #[.bool ng,.slice A (zAe B32 n).length c,.slice A2 (zAe B32 d).length c2] 158):=Bx.new _ _ _;have HB:Hid (Below w.heap.size w (w.alloc (.cells #[.bool ng,.slice A (zAe B32 n).length c,.slice A2 (zAe B32 d).length c2] 158))):=(bS w.heap.size w).alloc (aB _) _
 go_enter Tryz.func143,Tryz.ntmps143
 go_wp2;have hfd:=fldDen
 go_region_held3 (fun w'=>w'.cell? ⟨w.heap.size,0,none⟩=some (.bool ng)∧w'.cell? ⟨w.heap.size,1,none⟩=some (.slice A (zAe B32 n).length c)∧w'.cell? ⟨w.heap.size,2,none⟩=some (.slice A2 (zAe B32 d).length c2)) ((refine ⟨?_,?_,?_⟩<;>first | with_reducible assumption | go_simp))
  (first
   | ((go_at_call 181;(with_reducible refine (HO.o _ (Nt.drew (h.alloc _)) (Nt.drew (h2.alloc _))).mono ?_);rintro e w1 ⟨A5,c5,A6,c6,rfl,h5,h6,hb⟩;have HX1:=zq (HXX.o.drew.below hb);have HB1:=zq ((zAc HB.o 1).trans (hb.mono HB.o.size));obtain ⟨a0,a1,a2⟩:=HX1.o.t;have h21:=(Nt.drew (h2.alloc _)).below hb;clear hb))
   | ((go_at_call 182;(with_reducible refine (Cmp_c A6 A2 c6 c2 p2 d _ h6 h21 (cV HL2.o za)).mono ?_);rintro e w2 ⟨rfl,nd,rfl⟩)))
 clear HXX HB HX1 a0 a1 a2 h5 h6 h21 hfd;go_wp2;go_ret
 exact zAd.mk (zAu HLC.o) (zAc HB1.o nd)
theorem lowP_scale {k x y:Nat} (h:0<k):zDj (k*x) (k*y)=zDj x y:=by
 unfold zDj;rw [Nat.gcd_mul_left,Nat.mul_div_mul_left _ _ h,Nat.mul_div_mul_left _ _ h]
theorem addP_same (n m d:Nat) (h:0<d):addP (n,d) (m,d)=zDj (n+m) d:=by
 unfold addP
 show zDj (n*d+m*d) (d*d)=_
 rw [←aV,aT,lowP_scale h]
theorem len_mul (a b:Nat):(zAe B32 (a*b)).length≤(zAe B32 a).length+(zAe B32 b).length:=by
 refine zBn zAJ ?_
 rw [Nat.pow_add];have h1:=zBM zAJ a;have h2:=zBM zAJ b;exact aW (bC a (bG h2)) (cW h1 (Nat.pow_pos zCw))
theorem len_add (a b:Nat):(zAe B32 (a+b)).length≤max (zAe B32 a).length (zAe B32 b).length+1:=by
 refine zBn zAJ ?_
 have h1:=zBM zAJ a;have h2:=zBM zAJ b;have h3:B32 ^ (zAe B32 a).length≤B32 ^ max (zAe B32 a).length (zAe B32 b).length:=bN zCw (Nat.le_max_left _ _);have h4:B32 ^ (zAe B32 b).length≤B32 ^ max (zAe B32 a).length (zAe B32 b).length:=bN zCw (Nat.le_max_right _ _);rw [aR];have h5:=bC (B32 ^ max (zAe B32 a).length (zAe B32 b).length) (show 2≤B32 by decide)
 omega
abbrev raC (A:Option Addr) (c n:Nat) (A2:Option Addr) (c2 d:Nat):Array Value:=#[.bool false,.slice A (zAe B32 n).length c,.slice A2 (zAe B32 d).length c2]
theorem RCmp_c (A A2 A3 A4:Option Addr) (c c2 c3 c4 n d m e:Nat) (w:World) (h:Nt w A c n) (h2:Nt w A2 c2 d) (h3:Nt w A3 c3 m) (h4:Nt w A4 c4 e)
  (hn:(zAe B32 n).length≤100000000) (hd:(zAe B32 d).length≤100000000) (hm:(zAe B32 m).length≤100000000) (he:(zAe B32 e).length≤100000000) :
  Calls Tryz.prog 111 #[raV false A c n A2 c2 d,raV false A3 c3 m A4 c4 e] w (zAd (.int .i64 (zDD (n*e) (m*d))) w):=by
 have HM1:=zq (fun W (q:Nt W A c n) (q2:Nt W A4 c4 e)=>IMul_c A A4 c c4 n e W q q2 za za)
 have HM2:=zq (fun W (q:Nt W A3 c3 m) (q2:Nt W A2 c2 d)=>IMul_c A3 A2 c3 c2 m d W q q2 za za)
 have HL:Hid ((zAe B32 (n*e)).length≤400000000):=cV (len_mul n e) za;obtain ⟨p,hp⟩:∃ p,n*e=p:=⟨_,rfl⟩;obtain ⟨q,hq⟩:∃ q,m*d=q:=⟨_,rfl⟩;rw [hp] at HM1 HL ⊢;rw [hq] at HM2 ⊢;clear hp hq;have HK:=zq (fun (A5:Option Addr) c5 (A6:Option Addr) c6 W (x:Nt W A5 c5 p) (y:Nt W A6 c6 q)=>ICmp_c A5 A6 c5 c6 p q W x y HL.o)
 have HX:Hid (Bx ((w.alloc (.cells (raC A c n A2 c2 d) 158)).alloc (.cells (raC A3 c3 m A4 c4 e) 158)) w.heap.size (raC A c n A2 c2 d) 158):=(Bx.new _ _ _).alloc _;have HY:Hid (Bx ((w.alloc (.cells (raC A c n A2 c2 d) 158)).alloc (.cells (raC A3 c3 m A4 c4 e) 158)) (w.heap.size+1) (raC A3 c3 m A4 c4 e) 158):=Bx.new1 _ _ _ _;have HB:Hid (Below w.heap.size w ((w.alloc (.cells (raC A c n A2 c2 d) 158)).alloc (.cells (raC A3 c3 m A4 c4 e) 158))):=((bS w.heap.size w).alloc (aB _) _).alloc zd _;clear hn hd hm he
 go_enter Tryz.func111,Tryz.ntmps111
 go_wp2
 go_region_held3 (fun w'=>(w'.cell? ⟨w.heap.size,0,none⟩=some (.bool false)∧w'.cell? ⟨w.heap.size,1,none⟩=some (.slice A (zAe B32 n).length c)∧w'.cell? ⟨w.heap.size,2,none⟩=some (.slice A2 (zAe B32 d).length c2))∧(w'.cell? ⟨w.heap.size+1,0,none⟩=some (.bool false)∧w'.cell? ⟨w.heap.size+1,1,none⟩=some (.slice A3 (zAe B32 m).length c3)∧w'.cell? ⟨w.heap.size+1,2,none⟩=some (.slice A4 (zAe B32 e).length c4)))
  ((refine ⟨⟨?_,?_,?_⟩,?_,?_,?_⟩<;>first | with_reducible assumption | go_simp))
  (first
   | ((go_at_call 147;(with_reducible refine (HM1.o _ (Nt.drew ((h.alloc _).alloc _)) (Nt.drew ((h4.alloc _).alloc _))).mono ?_);rintro e1 w1 ⟨A5,c5,rfl,h5,hb⟩;have HX1:=zq (HX.o.drew.below hb);have HY1:=zq (HY.o.drew.below hb);have HB1:=zq ((zAc HB.o 1).trans (hb.mono HB.o.size));obtain ⟨a0,a1,a2⟩:=HX1.o.t;obtain ⟨b0,b1,b2⟩:=HY1.o.t;have h31:=(Nt.drew ((h3.alloc _).alloc _)).below hb;have h21:=(Nt.drew ((h2.alloc _).alloc _)).below hb;clear hb))
   | ((go_at_call 147;(with_reducible refine (HM2.o _ h31 h21).mono ?_);rintro e2 w2 ⟨A6,c6,rfl,h6,hb6⟩;have h52:=h5.below hb6;have HX2:=zq (HX1.o.below hb6);have HY2:=zq (HY1.o.below hb6);have HB2:=zq (zAb HB1.o hb6);clear a0 a1 a2 b0 b1 b2;obtain ⟨a0,a1,a2⟩:=HX2.o.t;obtain ⟨b0,b1,b2⟩:=HY2.o.t;clear hb6))
   | ((go_at_call 148;(with_reducible refine (HK.o _ _ _ _ _ h52 h6).mono ?_);rintro e3 w3 ⟨rfl,hb7⟩;have HB3:=zq (zAb HB2.o hb7);have HX3:=zq (HX2.o.below hb7);have HY3:=zq (HY2.o.below hb7);clear a0 a1 a2 b0 b1 b2;obtain ⟨a0,a1,a2⟩:=HX3.o.t;obtain ⟨b0,b1,b2⟩:=HY3.o.t;clear hb7)))
 go_wp2;go_ret
 exact zAd.mk rfl HB3.o
theorem RAdd_same (A A2 A3 A4:Option Addr) (c c2 c3 c4 n d m e:Nat) (w:World) (h:Nt w A c n) (h2:Nt w A2 c2 d) (h3:Nt w A3 c3 m) (h4:Nt w A4 c4 e)
  (hn:(zAe B32 n).length≤100000000) (hd:(zAe B32 d).length≤100000000) (hm:(zAe B32 m).length≤100000000) (he:(zAe B32 e).length≤100000000) (hd0:0<d) (he0:0<e) (hde:d=e) :
  Calls Tryz.prog 153 #[raV false A c n A2 c2 d,raV false A3 c3 m A4 c4 e] w (GivesR false (addP (n,d) (m,e)).1 (addP (n,d) (m,e)).2 w):=by
 subst hde;rw [addP_same n m d hd0];have HC:=zq (fun W (x:Nt W A2 c2 d) (y:Nt W A4 c4 d)=>Cmp_c A2 A4 c2 c4 d d W x y za)
 have HA:=zq (fun W (x:Nt W A c n) (y:Nt W A3 c3 m)=>IAdd_c A A3 c c3 n m W x y za za)
 have HO:=zq (fun A5 c5 W (x:Nt W A5 c5 (n+m)) (y:Nt W A2 c2 d)=>Over_c A5 A2 c5 c2 (n+m) d false W x y hd0 (by have:=len_add n m;omega) za)
 rw [zDa rfl] at HC;simp only [Bool.false_and] at HO;generalize (zDj (n+m) d).1=pp at *;generalize (zDj (n+m) d).2=pq at *;generalize n+m=nm at *;have HX0:Hid (Bx (((w.alloc (.cells (raC A c n A2 c2 d) 158)).alloc (.cells (raC A3 c3 m A4 c4 d) 158)).alloc (.cells zRat 158)) w.heap.size (raC A c n A2 c2 d) 158):=((Bx.new _ _ _).alloc _).alloc _;have HY0:Hid (Bx (((w.alloc (.cells (raC A c n A2 c2 d) 158)).alloc (.cells (raC A3 c3 m A4 c4 d) 158)).alloc (.cells zRat 158)) (w.heap.size+1) (raC A3 c3 m A4 c4 d) 158):=(Bx.new1 _ _ _ _).alloc _;have HZ0:Hid (Bx (((w.alloc (.cells (raC A c n A2 c2 d) 158)).alloc (.cells (raC A3 c3 m A4 c4 d) 158)).alloc (.cells zRat 158)) (w.heap.size+1+1) zRat 158):=Bx.new2 _ _ _ _ _;have HB0:Hid (Below w.heap.size w (((w.alloc (.cells (raC A c n A2 c2 d) 158)).alloc (.cells (raC A3 c3 m A4 c4 d) 158)).alloc (.cells zRat 158))):=(((bS w.heap.size w).alloc (aB _) _).alloc zd _).alloc zg _;obtain ⟨W,hW⟩:∃ W,W=(((w.alloc (.cells (raC A c n A2 c2 d) 158)).alloc (.cells (raC A3 c3 m A4 c4 d) 158)).alloc (.cells zRat 158)):=⟨_,rfl⟩;have g1:Nt W A c n:=by rw [hW];exact ((h.alloc _).alloc _).alloc _
 have g2:Nt W A2 c2 d:=by rw [hW];exact ((h2.alloc _).alloc _).alloc _
 have g3:Nt W A3 c3 m:=by rw [hW];exact ((h3.alloc _).alloc _).alloc _
 have g4:Nt W A4 c4 d:=by rw [hW];exact ((h4.alloc _).alloc _).alloc _
 rw [←hW] at HX0 HY0 HZ0 HB0;clear hn hd hm he hd0 he0
 go_enter Tryz.func153,Tryz.ntmps153
 go_wp2_with fail
 rw [←hW];clear hW;obtain ⟨x0,x1,x2⟩:=HX0.o.t;obtain ⟨y0,y1,y2⟩:=HY0.o.t;have z0:=HZ0.o.frozen;have z1:=HZ0.o.lt
 go_wp2_with fail
 with_reducible refine (HC.o _ g2 g4).mono ?_
 rintro e0 w0 ⟨rfl,nd,rfl⟩;clear x0 x1 x2 y0 y1 y2 z0 z1;have HX:=zq (HX0.o.drewN (nd+1));have HY:=zq (HY0.o.drewN (nd+1));have HZ:=zq (HZ0.o.drewN (nd+1));have HB:=zq (zAc HB0.o (nd+1));obtain ⟨x0,x1,x2⟩:=HX.o.t;obtain ⟨y0,y1,y2⟩:=HY.o.t;clear HX0 HY0 HZ0 HB0;go_wp2
 go_region_held3 (fun w'=>(w'.cell? ⟨w.heap.size,0,none⟩=some (.bool false)∧w'.cell? ⟨w.heap.size,1,none⟩=some (.slice A (zAe B32 n).length c)∧w'.cell? ⟨w.heap.size,2,none⟩=some (.slice A2 (zAe B32 d).length c2))∧(w'.cell? ⟨w.heap.size+1,0,none⟩=some (.bool false)∧w'.cell? ⟨w.heap.size+1,1,none⟩=some (.slice A3 (zAe B32 m).length c3)∧w'.cell? ⟨w.heap.size+1,2,none⟩=some (.slice A4 (zAe B32 d).length c4)))
  ((refine ⟨⟨?_,?_,?_⟩,?_,?_,?_⟩<;>first | with_reducible assumption | go_simp))
  (first
   | ((go_at_call 187;(with_reducible refine (HA.o _ (g1.drewN (nd+1)) (g3.drewN (nd+1))).mono ?_);rintro e1 w1 ⟨A5,c5,rfl,h5,hb1⟩;have HX1:=zq (HX.o.below hb1);have HY1:=zq (HY.o.below hb1);have HZ1:=zq (HZ.o.below hb1);have HB1:=zq (HB.o.trans (hb1.mono HB.o.size));have g21:=(g2.drewN (nd+1)).below hb1;obtain ⟨a0,a1,a2⟩:=HX1.o.t;obtain ⟨b0,b1,b2⟩:=HY1.o.t;clear hb1))
   | ((go_at_call 181;(with_reducible refine (HO.o _ _ _ h5 g21).mono ?_);rintro e2 w2 ⟨A6,c6,A7,c7,rfl,h6,h7,hb2⟩;have HX2:=zq (HX1.o.below hb2);have HY2:=zq (HY1.o.below hb2);have HZ2:=zq (HZ1.o.below hb2);have HB2:=zq (zAb HB1.o hb2);clear a0 a1 a2 b0 b1 b2;obtain ⟨a0,a1,a2⟩:=HX2.o.t;obtain ⟨b0,b1,b2⟩:=HY2.o.t;obtain ⟨r0,r1,r2⟩:=HZ2.o.t;have fr:=HZ2.o.frozen;have rl:=HZ2.o.lt;clear hb2)))
 clear HX HY HZ HB;go_wp2;refine dD (v:=raV false A6 c6 pp A7 c7 pq) (by simp [results,Tryz.results153,go_sem,r0,r1,r2]) rfl ⟨A6,c6,A7,c7,rfl,h6.setR HZ2.o _ _ _,h7.setR HZ2.o _ _ _,?_⟩
 exact ((HB2.o.setCell zg _).setCell zg _).setCell zg _
theorem RAdd_diff (A A2 A3 A4:Option Addr) (c c2 c3 c4 n d m e:Nat) (w:World) (h:Nt w A c n) (h2:Nt w A2 c2 d) (h3:Nt w A3 c3 m) (h4:Nt w A4 c4 e)
  (hn:(zAe B32 n).length≤100000000) (hd:(zAe B32 d).length≤100000000) (hm:(zAe B32 m).length≤100000000) (he:(zAe B32 e).length≤100000000) (hd0:0<d) (he0:0<e) (hde:d≠e) :
  Calls Tryz.prog 153 #[raV false A c n A2 c2 d,raV false A3 c3 m A4 c4 e] w (GivesR false (addP (n,d) (m,e)).1 (addP (n,d) (m,e)).2 w):=by
 have HC:=zq (fun W (x:Nt W A2 c2 d) (y:Nt W A4 c4 e)=>Cmp_c A2 A4 c2 c4 d e W x y za)
 have hk:(zDD d e == 0)=false:=by
  rcases Nat.lt_or_gt_of_ne hde with h | h
  ·rw [zBU h];rfl
  ·rw [zBT h];rfl
 have l1:=len_mul n e;have l2:=len_mul m d;have l3:=len_mul d e;have l4:=len_add (n*e) (m*d);have HM1:=zq (fun W (x:Nt W A c n) (y:Nt W A4 c4 e)=>IMul_c A A4 c c4 n e W x y za za)
 have HM2:=zq (fun W (x:Nt W A3 c3 m) (y:Nt W A2 c2 d)=>IMul_c A3 A2 c3 c2 m d W x y za za)
 have HM3:=zq (fun W (x:Nt W A2 c2 d) (y:Nt W A4 c4 e)=>Mul_c A2 A4 c2 c4 d e W x y za za)
 have HA:=zq (fun A5 c5 A6 c6 W (x:Nt W A5 c5 (n*e)) (y:Nt W A6 c6 (m*d))=>IAdd_c A5 A6 c5 c6 (n*e) (m*d) W x y za za)
 have HO:=zq (fun A5 c5 A6 c6 W (x:Nt W A5 c5 (n*e+m*d)) (y:Nt W A6 c6 (d*e))=>Over_c A5 A6 c5 c6 (n*e+m*d) (d*e) false W x y (Nat.mul_pos hd0 he0) za za)
 simp only [Bool.false_and] at HO;have hap:addP (n,d) (m,e)=zDj (n*e+m*d) (d*e):=rfl;rw [hap];clear hap l1 l2 l3 l4;generalize (zDj (n*e+m*d) (d*e)).1=pp at *;generalize (zDj (n*e+m*d) (d*e)).2=pq at *;generalize n*e=p1 at *;generalize m*d=p2 at *;generalize d*e=p3 at *;generalize p1+p2=p4 at *;generalize zDD d e=cz at *;have HX0:Hid (Bx (((w.alloc (.cells (raC A c n A2 c2 d) 158)).alloc (.cells (raC A3 c3 m A4 c4 e) 158)).alloc (.cells zRat 158)) w.heap.size (raC A c n A2 c2 d) 158):=((Bx.new _ _ _).alloc _).alloc _;have HY0:Hid (Bx (((w.alloc (.cells (raC A c n A2 c2 d) 158)).alloc (.cells (raC A3 c3 m A4 c4 e) 158)).alloc (.cells zRat 158)) (w.heap.size+1) (raC A3 c3 m A4 c4 e) 158):=(Bx.new1 _ _ _ _).alloc _;have HZ0:Hid (Bx (((w.alloc (.cells (raC A c n A2 c2 d) 158)).alloc (.cells (raC A3 c3 m A4 c4 e) 158)).alloc (.cells zRat 158)) (w.heap.size+1+1) zRat 158):=Bx.new2 _ _ _ _ _;have HB0:Hid (Below w.heap.size w (((w.alloc (.cells (raC A c n A2 c2 d) 158)).alloc (.cells (raC A3 c3 m A4 c4 e) 158)).alloc (.cells zRat 158))):=(((bS w.heap.size w).alloc (aB _) _).alloc zd _).alloc zg _;obtain ⟨W,hW⟩:∃ W,W=(((w.alloc (.cells (raC A c n A2 c2 d) 158)).alloc (.cells (raC A3 c3 m A4 c4 e) 158)).alloc (.cells zRat 158)):=⟨_,rfl⟩;have g1:Nt W A c n:=by rw [hW];exact ((h.alloc _).alloc _).alloc _
 have g2:Nt W A2 c2 d:=by rw [hW];exact ((h2.alloc _).alloc _).alloc _
 have g3:Nt W A3 c3 m:=by rw [hW];exact ((h3.alloc _).alloc _).alloc _
 have g4:Nt W A4 c4 e:=by rw [hW];exact ((h4.alloc _).alloc _).alloc _
 rw [←hW] at HX0 HY0 HZ0 HB0;clear hn hd hm he hd0 he0 hde
 go_enter Tryz.func153,Tryz.ntmps153
 go_wp2_with fail
 rw [←hW];clear hW;obtain ⟨x0,x1,x2⟩:=HX0.o.t;obtain ⟨y0,y1,y2⟩:=HY0.o.t;have z0:=HZ0.o.frozen;have z1:=HZ0.o.lt
 go_wp2_with fail
 with_reducible refine (HC.o _ g2 g4).mono ?_
 rintro e0 w0 ⟨rfl,nd,rfl⟩;clear x0 x1 x2 y0 y1 y2 z0 z1;have HX:=zq (HX0.o.drewN (nd+1));have HY:=zq (HY0.o.drewN (nd+1));have HZ:=zq (HZ0.o.drewN (nd+1));have HB:=zq (zAc HB0.o (nd+1));obtain ⟨x0,x1,x2⟩:=HX.o.t;obtain ⟨y0,y1,y2⟩:=HY.o.t;clear HX0 HY0 HZ0 HB0;go_wp2
 go_region_held3 (fun w'=>(w'.cell? ⟨w.heap.size,0,none⟩=some (.bool false)∧w'.cell? ⟨w.heap.size,1,none⟩=some (.slice A (zAe B32 n).length c)∧w'.cell? ⟨w.heap.size,2,none⟩=some (.slice A2 (zAe B32 d).length c2))∧(w'.cell? ⟨w.heap.size+1,0,none⟩=some (.bool false)∧w'.cell? ⟨w.heap.size+1,1,none⟩=some (.slice A3 (zAe B32 m).length c3)∧w'.cell? ⟨w.heap.size+1,2,none⟩=some (.slice A4 (zAe B32 e).length c4)))
  ((refine ⟨⟨?_,?_,?_⟩,?_,?_,?_⟩<;>first | with_reducible assumption | go_simp))
  (first
   | ((go_at_call 147;(with_reducible refine (HM1.o _ (g1.drewN (nd+1)) (g4.drewN (nd+1))).mono ?_);rintro e1 w1 ⟨A5,c5,rfl,h5,hb1⟩;have HX1:=zq (HX.o.below hb1);have HY1:=zq (HY.o.below hb1);have HZ1:=zq (HZ.o.below hb1);have HB1:=zq (HB.o.trans (hb1.mono HB.o.size));have g21:=(g2.drewN (nd+1)).below hb1;have g31:=(g3.drewN (nd+1)).below hb1;have g41:=(g4.drewN (nd+1)).below hb1;obtain ⟨a0,a1,a2⟩:=HX1.o.t;obtain ⟨b0,b1,b2⟩:=HY1.o.t;clear hb1))
   | ((go_at_call 147;(with_reducible refine (HM2.o _ g31 g21).mono ?_);rintro e2 w2 ⟨A6,c6,rfl,h6,hb2⟩;have HX2:=zq (HX1.o.below hb2);have HY2:=zq (HY1.o.below hb2);have HZ2:=zq (HZ1.o.below hb2);have HB2:=zq (zAb HB1.o hb2);have h52:=h5.below hb2;have g22:=g21.below hb2;have g42:=g41.below hb2;clear a0 a1 a2 b0 b1 b2;obtain ⟨a0,a1,a2⟩:=HX2.o.t;obtain ⟨b0,b1,b2⟩:=HY2.o.t;clear hb2))
   | ((go_at_call 187;(with_reducible refine (HA.o _ _ _ _ _ h52 h6).mono ?_);rintro e3 w3 ⟨A7,c7,rfl,h7,hb3⟩;have HX3:=zq (HX2.o.below hb3);have HY3:=zq (HY2.o.below hb3);have HZ3:=zq (HZ2.o.below hb3);have HB3:=zq (zAb HB2.o hb3);have g23:=g22.below hb3;have g43:=g42.below hb3;clear a0 a1 a2 b0 b1 b2;obtain ⟨a0,a1,a2⟩:=HX3.o.t;obtain ⟨b0,b1,b2⟩:=HY3.o.t;clear hb3))
   | ((go_at_call 183;(with_reducible refine (HM3.o _ g23 g43).mono ?_);rintro e4 w4 ⟨A8,c8,rfl,h8,hb4⟩;have HX4:=zq (HX3.o.below hb4);have HY4:=zq (HY3.o.below hb4);have HZ4:=zq (HZ3.o.below hb4);have HB4:=zq (zAb HB3.o hb4);have h74:=h7.below hb4;clear a0 a1 a2 b0 b1 b2;obtain ⟨a0,a1,a2⟩:=HX4.o.t;obtain ⟨b0,b1,b2⟩:=HY4.o.t;clear hb4))
   | ((go_at_call 181;(with_reducible refine (HO.o _ _ _ _ _ h74 h8).mono ?_);rintro e5 w5 ⟨A9,c9,AD,cE,rfl,h9,hF,hb5⟩;have HX5:=zq (HX4.o.below hb5);have HY5:=zq (HY4.o.below hb5);have HZ5:=zq (HZ4.o.below hb5);have HB5:=zq (zAb HB4.o hb5);clear a0 a1 a2 b0 b1 b2;obtain ⟨a0,a1,a2⟩:=HX5.o.t;obtain ⟨b0,b1,b2⟩:=HY5.o.t;obtain ⟨r0,r1,r2⟩:=HZ5.o.t;have fr:=HZ5.o.frozen;have rl:=HZ5.o.lt;clear hb5)))
 clear HX HY HZ HB;go_wp2;refine dD (v:=raV false A9 c9 pp AD cE pq) (by simp [results,Tryz.results153,go_sem,r0,r1,r2]) rfl ⟨A9,c9,AD,cE,rfl,h9.setR HZ5.o _ _ _,hF.setR HZ5.o _ _ _,?_⟩
 exact ((HB5.o.setCell zg _).setCell zg _).setCell zg _
theorem RAdd_c (A A2 A3 A4:Option Addr) (c c2 c3 c4 n d m e:Nat) (w:World) (h:Nt w A c n) (h2:Nt w A2 c2 d) (h3:Nt w A3 c3 m) (h4:Nt w A4 c4 e)
  (hn:(zAe B32 n).length≤100000000) (hd:(zAe B32 d).length≤100000000) (hm:(zAe B32 m).length≤100000000) (he:(zAe B32 e).length≤100000000) (hd0:0<d) (he0:0<e) :
  Calls Tryz.prog 153 #[raV false A c n A2 c2 d,raV false A3 c3 m A4 c4 e] w (GivesR false (addP (n,d) (m,e)).1 (addP (n,d) (m,e)).2 w):=by
 by_cases hde:d=e
 ·exact RAdd_same A A2 A3 A4 c c2 c3 c4 n d m e w h h2 h3 h4 hn hd hm he hd0 he0 hde
 ·exact RAdd_diff A A2 A3 A4 c c2 c3 c4 n d m e w h h2 h3 h4 hn hd hm he hd0 he0 hde
theorem zDC:(⟨#[48]⟩:BA).toList=[48]:=by rw [Dw.toList_eq]
theorem zBt {s:BA} (h:zCN s=true):s.data.toList.all dgB=true∧1≤s.size:=by
 unfold zCN at h;simp only [dA,Bool.or_eq_true,aH] at h;refine ⟨h.1,?_⟩
 rcases h.2 with h2 | h2<;>omega
def DigRel (w:World) (s:BA) (m:Nat) (iv:Value) (wr:World):Prop :=
 wr=w∧∃ k:Nat,k+m=s.size∧iv = .int .i64 k∧(s.data.toList.take k).all dgB=true
theorem all_take_succ {s:BA} {k:Nat} (hk:k<s.size) (h:(s.data.toList.take k).all dgB=true) (h2:dgB s[k]=true):(s.data.toList.take (k+1)).all dgB=true:=by
 rw [bD (by simpa using hk),List.all_append,h,zCl s k hk]
 simp [h2]
theorem not_all {s:BA} {k:Nat} (hk:k<s.size) (h2:dgB s[k]=false):s.data.toList.all dgB=false:=by
 rw [List.all_eq_false];exact ⟨s[k],by rw [←zCl s k hk];exact aI _,by simp [h2]⟩
theorem digits_c (s:BA) (w:World) (hs:s.size≤9223372036854775807):Calls Tryz.prog 142 #[.string s] w (zAr (.bool (zCN s)) w):=by
 go_enter Tryz.func142,Tryz.ntmps142
 go_wp2
 go_loopg [6] s.size (DigRel w s)
 case atStart=>exact ⟨rfl,0,za,rfl,rfl⟩
 case round =>
  obtain ⟨hw,k,hkm,rfl,hall⟩:=hrel;subst hw;have HM:=zq hkm;have HA:=zq hall;clear hkm hall
  by_cases hlt:k<s.size
  ·by_cases h1:s[k].toNat<48
   ·have HD:=zq (not_all hlt (show dgB s[k]=false by unfold dgB;simp;omega))
    go_wp2;go_ret
    refine zAr.mk (zAu ?_) rfl
    unfold zCN;rw [HD.o];rfl
   ·by_cases h2:57<s[k].toNat
    ·have HD:=zq (not_all hlt (show dgB s[k]=false by unfold dgB;simp;omega))
     have h1b:(48:Int)≤(s[k].toNat:Int):=za;go_wp2;go_ret
     refine zAr.mk (zAu ?_) rfl
     unfold zCN;rw [HD.o];rfl
    ·have HD:=zq (all_take_succ hlt HA.o (show dgB s[k]=true by unfold dgB;simp;omega))
     have h1b:(48:Int)≤(s[k].toNat:Int):=za;have h2b:(s[k].toNat:Int)≤57:=za;go_wp2
     go_roundg (gk - 1)
     case measure=>have:=HM.o;omega
     case rel=>exact ⟨rfl,k+1,yp,zn,HD.o⟩
  ·obtain rfl:k=s.size:=by have:=HM.o;omega
   have HALL:Hid (s.data.toList.all dgB=true):=by
    show _=_
    have:=HA.o
    rwa [cS zd] at this
   have hr:zCN s=(decide (s.size=1) || decide (1<s.size)&&decide ((s.data.toList.headD 0).toNat≠48)):=by
    unfold zCN;rw [HALL.o];rfl
   rcases bH s.size with h0 | h0
   ·have he:s=emp:=by
     apply Dw.toList_inj
     rw [Dw.toList_eq,Dw.toList_eq,cZ (l:=s.data.toList) (by simpa using h0)]
     rfl
    have hv:zCN s=false:=by rw [hr,h0];rfl
    rw [hv];have q1:=zAm he;have q2:(s.toList == [48])=false:=by rw [←zDC];exact zAo (by rw [he];decide)
    have HV:=zq hv;clear hr hv he;go_wp2;go_ret
    exact zAr.mk (zAu HV.o.symm) rfl
   ·have hne:s≠emp:=fun e=>by rw [e] at h0;exact absurd h0 zc
    have q1:=zAk hne
    by_cases hz:s=zCJ
    ·have hv:zCN s=true:=by rw [hz];decide +kernel
     rw [hv];have q2:(s.toList == [48])=true:=by rw [←zDC];exact zAy hz
     have HV:=zq hv;clear hr hv hz hne;go_wp2;go_ret
     exact zAr.mk (zAu HV.o.symm) rfl
    ·have q2:(s.toList == [48])=false:=by rw [←zDC];exact zAo hz
     have hd0:s.data.toList.headD 0=s[0]:=zCB s h0
     by_cases hh:s[0].toNat=48
     ·have h1:s.size≠1:=fun e=>hz (by
       apply Dw.toList_inj
       rw [Dw.toList_eq,Dw.toList_eq]
       apply List.ext_getElem
       ·simp [zCJ,e]
       ·intro i hi1 hi2
        obtain rfl:i=0:=by simp [e] at hi1;omega
        rw [zCl s 0 h0];have:s[0]=48:=UInt8.toNat_inj.1 (by simpa using hh)
        rw [this];rfl)
      have hv:zCN s=false:=by rw [hr,hd0,hh];simp [h1]
      have q3:((s[0].toNat:Int) != 48)=false:=by simp [hh]
      rw [hv];have HV:=zq hv;clear hr hv hz hne hh hd0 h1;go_wp2;go_ret
      exact zAr.mk (zAu HV.o.symm) rfl
     ·have hv:zCN s=true:=by
       rw [hr,hd0]
       rcases bO 1 s.size with h | h
       ·simp [h,hh]
       ·have:s.size=1:=by omega
        simp [this]
      have q3:((s[0].toNat:Int) != 48)=true:=zg;rw [hv];have HV:=zq hv;clear hr hv hz hne hh hd0;go_wp2;go_ret
      exact zAr.mk (zAu HV.o.symm) rfl
theorem len_val {s:BA} (h:s.data.toList.all dgB=true) (hs:s.size≤2000):(zAe B32 (zAK s)).length≤2000:=by
 have h1:=decV_dg h;have h2:10 ^ s.data.toList.length≤B32 ^ s.data.toList.length:=Nat.pow_le_pow_left zc _;have h3:=zBn zAJ (cX h1 h2);have h4:s.data.toList.length=s.size:=zd;unfold zAK;omega
theorem den_pos {s:BA} (h:zCN s=true) (hz:s≠zCJ):0<zAK s:=by
 obtain ⟨h1,h2⟩:=zBt h;unfold zCN at h;rw [h1] at h;simp only [Bool.true_and,Bool.or_eq_true,aH,dA] at h;have hd0:s.data.toList.headD 0=s[0]:=zCB s za
 have hne:s[0].toNat≠48:=by
  rcases h with h | ⟨_,h⟩
  ·intro e
   apply hz
   apply Dw.toList_inj
   rw [Dw.toList_eq,Dw.toList_eq]
   apply List.ext_getElem
   ·simp [zCJ,h]
   ·intro i hi1 hi2
    obtain rfl:i=0:=by simp [h] at hi1;omega
    rw [zCl s 0 za];have:s[0]=48:=UInt8.toNat_inj.1 jp;rw [this];rfl
  ·rwa [hd0] at h
 have hdg:=dgB_of (List.all_eq_true.1 h1 s[0] (by rw [←zCl s 0 za];exact aI _))
 unfold zAK;rw [decV_cut s.data.toList 1]
 have e1:s.data.toList.take 1=[s[0]]:=by
  rw [bD zg,zCl s 0 za];rfl
 have e2:zBQ [s[0]]=s[0].toNat - 48:=by simp [zBQ]
 rw [e1,e2];have h3:1*10 ^ (s.data.toList.length - 1)≤(s[0].toNat - 48)*10 ^ (s.data.toList.length - 1):=aN _ za;have h4:0<10 ^ (s.data.toList.length - 1):=Nat.pow_pos za;omega
theorem CheckRatio_c (nu de:BA) (w:World) (hs:(zBh nu).size≤9223372036854775807) (hs2:de.size≤9223372036854775807) :
  Calls Tryz.prog 108 #[.agg #[.string nu,.string de]] w (zAd (.int .i64 (ratF nu de)) w):=by
 generalize hres:ratF nu de=res;have HR:=zq hres;clear hres;unfold ratF at HR;have HB0:Hid (Below w.heap.size w (w.alloc (.cells #[.string nu,.string de] 43))):=(bS w.heap.size w).alloc (aB _) _;have HC:=zq (fun W=>cut_c nu W)
 have HD1:=zq (fun W=>digits_c (zBh nu) W hs)
 have HD2:=zq (fun W=>digits_c de W hs2)
 have HF:=zq (fun (h1:zCN (zBh nu)=true) (h2:zCN de=true) (h3:(zBh nu).size≤2000) (h4:de.size≤2000) W=>From_c nu de W (zBt h1).1 h3 (zBt h2).1 h4)
 have HL:=zq (fun (h1:zCN (zBh nu)=true) (h2:zCN de=true) (hz:de≠zCJ) (h3:(zBh nu).size≤2000) (h4:de.size≤2000) A c A2 c2 W (x:Nt W A c (zAK (zBh nu))) (y:Nt W A2 c2 (zAK de)) =>
  Lowest_c (sgB nu) A A2 c c2 (zAK (zBh nu)) (zAK de) W x y (den_pos h2 hz) (cV (len_val (zBt h1).1 h3) za) (cV (len_val (zBt h2).1 h4) za))
 go_enter Tryz.func108,Tryz.ntmps108
 go_wp2_with fail
 with_reducible refine (HC.o _).mono ?_
 rintro e w1 ⟨rfl,rfl⟩
 go_wp2_with fail
 with_reducible refine (HD1.o _).mono ?_
 rintro e w1 ⟨rfl,rfl⟩
 cases h1:zCN (zBh nu) with
 | false =>
  have HS:Hid (res=3):=by show _=_;rw [←HR.o,aE (.inl h1)]
  clear h1;go_wp2;go_ret
  exact zAd.mk (zAC HS.o.symm) HB0.o
 | true =>
  by_cases h2:zDo nu=true∧zBh nu=zCJ
  ·have HS:Hid (res=3):=by show _=_;rw [←HR.o,aE (.inr (.inl h2))]
   have q1:=h2.1;have q2:((zBh nu).toList == [48])=true:=by rw [←zDC];exact zAy h2.2
   rw [q1];clear h1 h2 q1;go_wp2;go_ret
   exact zAd.mk (zAC HS.o.symm) HB0.o
  ·have HQ:Hid (zDo nu=false∨((zBh nu).toList == [48])=false):=by
    show _∨_
    by_cases h3:zDo nu=true
    ·exact .inr (by rw [←zDC];exact zAo fun e=>h2 ⟨h3,e⟩)
    ·exact .inl (by simpa using h3)
   have hr1:=HR.o
   have HR1:Hid ((if zCN de=false∨de=zCJ then 3 else if 2000<(zBh nu).size∨2000<de.size then 2 else if Nat.gcd (zAK (zBh nu)) (zAK de)=1 then 0 else 3)=res):=by
    show _=_
    rw [←hr1]
    by_cases h4:zCN de=false∨de=zCJ
    ·rw [aE h4,aE (.inr (.inr h4))]
    ·have hno:¬(zCN (zBh nu)=false∨(zDo nu=true∧zBh nu=zCJ)∨zCN de=false∨de=zCJ):=by
      rintro (h | h | h)
      ·rw [h1] at h;cases h
      ·exact h2 h
      ·exact h4 h
     rw [aC h4,aC hno]
   have H1:=zq h1;clear hr1 HR h2 h1 HD1 HC
   rcases HQ.o with q | q
   case' inr=>cases hng:zDo nu
   case' inl=>rw [q]
   all_goals
    clear HQ
    go_wp2_with fail
    with_reducible refine (HD2.o _).mono ?_
    rintro e w1 ⟨rfl,rfl⟩
    cases h3:zCN de with
    | false =>
     have HS:Hid (res=3):=by show _=_;rw [←HR1.o,aE (.inl h3)]
     clear h3;go_wp2;go_ret
     exact zAd.mk (zAC HS.o.symm) HB0.o
    | true =>
     by_cases h4:de=zCJ
     ·have HS:Hid (res=3):=by show _=_;rw [←HR1.o,aE (.inr h4)]
      have q2:(de.toList == [48])=true:=by rw [←zDC];exact zAy h4
      clear h3 h4;go_wp2;go_ret
      exact zAd.mk (zAC HS.o.symm) HB0.o
     ·have q2:(de.toList == [48])=false:=by rw [←zDC];exact zAo h4
      have HR2:Hid ((if 2000<(zBh nu).size∨2000<de.size then 2 else if Nat.gcd (zAK (zBh nu)) (zAK de)=1 then 0 else 3)=res):=by
       show _=_
       have hno:¬(zCN de=false∨de=zCJ):=by
        rintro (h | h)
        ·rw [h3] at h;cases h
        ·exact h4 h
       rw [←HR1.o,aC hno]
      by_cases h5:2000<(zBh nu).size
      ·have HS:Hid (res=2):=by show _=_;rw [←HR2.o,aE (.inl h5)]
       clear h3 h4;go_wp2;go_ret
       exact zAd.mk (zAC HS.o.symm) HB0.o
      ·by_cases h6:2000<de.size
       ·have HS:Hid (res=2):=by show _=_;rw [←HR2.o,aE (.inr h6)]
        clear h3 h4;go_wp2;go_ret
        exact zAd.mk (zAC HS.o.symm) HB0.o
       ·have HR3:Hid ((if Nat.gcd (zAK (zBh nu)) (zAK de)=1 then (0:Int) else 3)=res):=by
         show _=_
         rw [←HR2.o,aC (show ¬(2000<(zBh nu).size∨2000<de.size) by omega)]
        have HF2:=zq (HF.o H1.o h3 za za);have HL2:=zq (HL.o H1.o h3 h4 za za);clear h3 h4
        go_wp2_with fail
        with_reducible refine (HF2.o _).mono ?_
        rintro e w2 ⟨A5,c5,A6,c6,rfl,h7,h8,hb2⟩;have HB2:=zq (HB0.o.trans (hb2.mono HB0.o.size));clear hb2
        go_wp2_with fail
        with_reducible refine (HL2.o A5 c5 A6 c6 _ h7 h8).mono ?_
        rintro e w3 ⟨rfl,hb3⟩;have HB3:=zq (zAb HB2.o hb3);clear hb3 HF HL HF2 HL2 HB2
        by_cases h9:Nat.gcd (zAK (zBh nu)) (zAK de)=1
        ·have HS:Hid (res=0):=by show _=_;rw [←HR3.o,aE h9]
         have hlb:lowB (zAK (zBh nu)) (zAK de)=true:=by unfold lowB;exact cP h9
         rw [hlb];clear h9 hlb;go_wp2;go_ret
         exact zAd.mk (zAC HS.o.symm) HB3.o
        ·have HS:Hid (res=3):=by show _=_;rw [←HR3.o,aC h9]
         have hlb:lowB (zAK (zBh nu)) (zAK de)=false:=by unfold lowB;exact cQ h9
         rw [hlb];clear h9 hlb;go_wp2;go_ret
         exact zAd.mk (zAC HS.o.symm) HB3.o
def posS (l:List BA) (s:BA):Int:=match l.findIdx? fun x=>decide (x=s) with
 | some i=>i
 | none=>-1
theorem posS_mem (l:List BA) (s:BA):decide ((0:Int)≤posS l s)=memS l s:=by
 unfold posS memS
 cases h:l.findIdx? fun x=>decide (x=s) with
 | none =>
  have:(l.any fun x=>decide (x=s))=false:=by
   rw [bU];intro x hx;have:=List.findIdx?_eq_none_iff.1 h x hx
   simpa using this
  rw [this];rfl
 | some i =>
  obtain ⟨hi,hp,_⟩:=List.findIdx?_eq_some_iff_getElem.1 h;have:(l.any fun x=>decide (x=s))=true:=List.any_eq_true.2 ⟨l[i],aI hi,hp⟩
  rw [this];simp
def PosIRel (w:World) (l:List BA) (s:BA) (m:Nat) (i:Value) (wr:World):Prop :=
 w=wr∧∃ k:Nat,k+m=l.length∧i = .int .i64 k∧∀ j (h:j<l.length),j<k→l[j]≠s
theorem indexS_c (A:Option Addr) (c:Nat) (l:List BA) (s:BA) (w:World) (hn:l.length≤1000000) (h:Strs w A l) :
  Calls Tryz.prog 207 #[.slice A l.length c,.string s] w (zAr (.int .i64 (posS l s)) w):=by
 generalize hres:posS l s=res;have HR:=zq hres;clear hres
 go_enter Tryz.func207,Tryz.ntmps207
 go_wp2
 go_loopg [8] l.length (PosIRel w l s)
 case atStart=>exact ⟨rfl,0,za,rfl,fun j _ hj=>absurd hj za⟩
 case round =>
  obtain ⟨hw,k,hk,rfl,hpre⟩:=hrel;subst hw;have HK:=zq hk;have HP:=zq hpre;have hk1:k≤l.length:=za;clear hk hpre
  by_cases hlt:k<l.length
  ·obtain ⟨b,o,rfl,hb,hc⟩:=h.at_ za
   have hc0:=hc k hlt;clear hc
   by_cases hq:s=l[k]
   ·have hqb:=zAy hq
    have HQ:=zq hq;clear hq;go_wp2;go_ret
    refine zAr.mk (zAC ?_) rfl
    rw [←HR.o];unfold posS;rw [List.findIdx?_eq_some_iff_getElem.2 ⟨hlt,by simp [HQ.o],fun j hj=>by simpa using HP.o j za hj⟩]
   ·have hqb:=zAo hq
    have HQ:=zq hq;clear hq;go_wp2
    go_roundg (gk - 1)
    case measure=>have:=HK.o;omega
    case rel =>
     refine ⟨rfl,k+1,zl,zn,fun j hj hjk=>?_⟩
     rcases bO j k with h1 | h1
     ·exact HP.o j hj h1
     ·obtain rfl:j=k:=by omega
      exact fun e=>HQ.o e.symm
  ·go_wp2
   go_ret
   refine zAr.mk (zAC ?_) rfl
   rw [←HR.o];unfold posS
   rw [List.findIdx?_eq_none_iff.2 fun x hx=>by
    obtain ⟨j,hj,rfl⟩:=aJ hx
    simpa using HP.o j hj za]
theorem containsS_c (A:Option Addr) (c:Nat) (l:List BA) (s:BA) (w:World) (hn:l.length≤1000000) (h:Strs w A l) :
  Calls Tryz.prog 186 #[.slice A l.length c,.string s] w (zAr (.bool (memS l s)) w):=by
 have hm:=posS_mem l s;generalize memS l s=res at *;have HM:=zq hm;clear hm
 go_enter Tryz.func186,Tryz.ntmps186
 go_wp2_with (go_at_call 207;refine (indexS_c _ _ _ _ _ hn h).mono ?_;rintro e w' ⟨rfl,rfl⟩)
 go_ret
 exact zAr.mk (zAu HM.o) rfl
end Go.Proofs.YtoaelidmmcbkfaaGreatDoor
