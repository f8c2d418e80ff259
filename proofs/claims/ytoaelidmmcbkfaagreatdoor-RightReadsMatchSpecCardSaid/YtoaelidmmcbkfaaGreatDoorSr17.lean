/- The reference's numbers: Of, number, CheckRatio. The reference's CheckRatio. -/
import Derived.Test.YtoaelidmmcbkfaaGreatDoorSr16
set_option maxRecDepth 100000
set_option maxHeartbeats 8000000
namespace Go.Proofs.YtoaelidmmcbkfaaGreatDoor
open Go.RowKit Dw
abbrev rtC (nu de:BA):Array Value:=#[.string nu,.string de]
theorem head_get (s:BA) (h:0<s.size):s[0]'h=s.data.toList.headD 0:=by
 have h1:=Lib.getD_at s 0 h;rw [h1]
 cases s.data.toList<;>rfl
theorem negB_yes {s:BA} (h:zDo s=true):0<s.size∧(∀ h0:0<s.size,(((s[0]'h0).toNat:Int) == 45)=true)∧s.extract 1 s.size=zBh s:=by
 have h':=h;unfold zDo at h';simp only [dA,aH] at h';refine ⟨h'.1,fun h0=>?_,?_⟩
 ·rw [head_get s h0,h'.2];rfl
 ·have e:(s.extract 1 s.size).data.toList=(zBh s).data.toList:=by
   rw [Lib.extract_data];unfold zBh absL;rw [aE h]
   show (s.data.toList.drop 1).take (s.size - 1)=s.data.toList.tail
   rw [cS (by rw [bK,←Lib.size_eq];omega),List.drop_one]
  have e2:=aY List.toArray e;simp only [Array.toArray_toList] at e2;exact aY ByteArray.mk e2
theorem negB_no {s:BA} (h:zDo s=false):(¬ 0<s.size∨(0<s.size∧∀ h0:0<s.size,(((s[0]'h0).toNat:Int) == 45)=false))∧zBh s=s:=by
 have h':=h;unfold zDo at h';refine ⟨?_,?_⟩
 ·rcases bH s.size with h0 | h0
  ·exact .inl za
  ·refine .inr ⟨h0,fun h1=>?_⟩
   simp only [Bool.and_eq_false_iff,decide_eq_false_iff_not] at h';have h2:=h'.resolve_left (fun h=>h h0)
   rw [head_get s h1,aG];intro e;exact h2 za
 ·unfold zBh absL
  rw [aC xi]
theorem Of_neg (nu de:BA) (w:World) (hn:zDo nu=true) (hd:(zBh nu).data.toList.all dgB=true) (hs:(zBh nu).size≤2000) (hd2:de.data.toList.all dgB=true) (hs2:de.size≤2000) :
  Calls Tryz.prog 118 #[.agg (rtC nu de)] w (zDh true (zAK (zBh nu)) (zAK de) w):=by
 have HB0:Hid (Below w.heap.size w ((w.alloc (.cells (rtC nu de) 43)).alloc (.cells zCR 163))):=((bS w.heap.size w).alloc (aB _) _).alloc zd _;have HX0:Hid (Bx ((w.alloc (.cells (rtC nu de) 43)).alloc (.cells zCR 163)) w.heap.size (rtC nu de) 43):=(Bx.new _ _ _).alloc _;have HZ0:Hid (Bx ((w.alloc (.cells (rtC nu de) 43)).alloc (.cells zCR 163)) (w.heap.size+1) zCR 163):=Bx.new1 _ _ _ _;have HL1:=zq (fun W=>zCT (zBh nu) W hd za)
 have HL2:=zq (fun W=>zCT de W hd2 za)
 obtain ⟨W,hW⟩:∃ W,W=((w.alloc (.cells (rtC nu de) 43)).alloc (.cells zCR 163)):=⟨_,rfl⟩;rw [←hW] at HB0 HX0 HZ0;obtain ⟨hz,hb,he⟩:=negB_yes hn;have hb0:=hb hz;clear hn hb
 go_enter Tryz.func118,Tryz.ntmps118
 go_upto_region 4 with fail
 rw [←hW];clear hW;have x0:=HX0.o.c 0 rfl;have x1:=HX0.o.c 1 rfl;have xs:=HX0.o.lt
 go_region_held3 (fun w'=>w'.cell? ⟨w.heap.size,0,none⟩=some (.string nu)∧w'.cell? ⟨w.heap.size,1,none⟩=some (.string de)) (first | (refine ⟨?_,?_⟩<;>with_reducible assumption) | go_keep)
  (first
   | ((go_at_call 159;(with_reducible refine (HL1.o W.drew).mono ?_);rintro x w1 ⟨A1,c1,rfl,h1,hb1⟩;have HX1:=zq (HX0.o.drew.below hb1);have HZ1:=zq (HZ0.o.drew.below hb1);have HB1:=zq ((zAc HB0.o 1).trans (hb1.mono HB0.o.size));have y0:=HX1.o.c 0 rfl;have y1:=HX1.o.c 1 rfl;have ys:=HX1.o.lt;have H1:=zq h1;clear h1 hb1))
   | ((go_at_call 159;(with_reducible refine (HL2.o w1).mono ?_);rintro x w2 ⟨A2,c2,rfl,h2,hb2⟩;have HX2:=zq (HX1.o.below hb2);have HZ2:=zq (HZ1.o.below hb2);have HB2:=zq (zAb HB1.o hb2);have H12:=zq (H1.o.below hb2);have z0:=HX2.o.c 0 rfl;have z1:=HX2.o.c 1 rfl;have zs:=HX2.o.lt;have H2:=zq h2;obtain ⟨r0,r1,r2⟩:=HZ2.o.t;have rf:=HZ2.o.frozen;have rs:=HZ2.o.lt;have rn:¬ (w.heap.size=w.heap.size+1):=za;clear h2 hb2)))
 go_wp2;refine dD (v:=nuV true A1 c1 (zBQ (zBh nu).data.toList) A2 c2 (zBQ de.data.toList)) (by simp [results,Tryz.results118,go_sem,r0,r1,r2]) rfl ⟨A1,c1,A2,c2,rfl,H12.o.setR HZ2.o _ _ _ _ _,H2.o.setR HZ2.o _ _ _ _ _,zCd HB2.o za _ _ _⟩
theorem Of_pos (nu de:BA) (w:World) (hn:zDo nu=false) (hd:(zBh nu).data.toList.all dgB=true) (hs:(zBh nu).size≤2000) (hd2:de.data.toList.all dgB=true) (hs2:de.size≤2000) :
  Calls Tryz.prog 118 #[.agg (rtC nu de)] w (zDh false (zAK (zBh nu)) (zAK de) w):=by
 have HB0:Hid (Below w.heap.size w ((w.alloc (.cells (rtC nu de) 43)).alloc (.cells zCR 163))):=((bS w.heap.size w).alloc (aB _) _).alloc zd _;have HX0:Hid (Bx ((w.alloc (.cells (rtC nu de) 43)).alloc (.cells zCR 163)) w.heap.size (rtC nu de) 43):=(Bx.new _ _ _).alloc _;have HZ0:Hid (Bx ((w.alloc (.cells (rtC nu de) 43)).alloc (.cells zCR 163)) (w.heap.size+1) zCR 163):=Bx.new1 _ _ _ _;have HL1:=zq (fun W=>zCT (zBh nu) W hd za)
 have HL2:=zq (fun W=>zCT de W hd2 za)
 obtain ⟨W,hW⟩:∃ W,W=((w.alloc (.cells (rtC nu de) 43)).alloc (.cells zCR 163)):=⟨_,rfl⟩;rw [←hW] at HB0 HX0 HZ0;obtain ⟨hcase,he⟩:=negB_no hn;rw [he] at HL1 ⊢;clear hn hd hs
 rcases hcase with hz | ⟨hz,hb⟩
 ·clear he
  go_enter Tryz.func118,Tryz.ntmps118
  go_upto_region 4 with fail
  rw [←hW];clear hW;have x0:=HX0.o.c 0 rfl;have x1:=HX0.o.c 1 rfl;have xs:=HX0.o.lt
  go_region_held3 (fun w'=>w'.cell? ⟨w.heap.size,0,none⟩=some (.string nu)∧w'.cell? ⟨w.heap.size,1,none⟩=some (.string de)) (first | (refine ⟨?_,?_⟩<;>with_reducible assumption) | go_keep)
   (first
    | ((go_at_call 159;(with_reducible refine (HL1.o W.drew).mono ?_);rintro x w1 ⟨A1,c1,rfl,h1,hb1⟩;have HX1:=zq (HX0.o.drew.below hb1);have HZ1:=zq (HZ0.o.drew.below hb1);have HB1:=zq ((zAc HB0.o 1).trans (hb1.mono HB0.o.size));have y0:=HX1.o.c 0 rfl;have y1:=HX1.o.c 1 rfl;have ys:=HX1.o.lt;have H1:=zq h1;clear h1 hb1))
    | ((go_at_call 159;(with_reducible refine (HL2.o w1).mono ?_);rintro x w2 ⟨A2,c2,rfl,h2,hb2⟩;have HX2:=zq (HX1.o.below hb2);have HZ2:=zq (HZ1.o.below hb2);have HB2:=zq (zAb HB1.o hb2);have H12:=zq (H1.o.below hb2);have z0:=HX2.o.c 0 rfl;have z1:=HX2.o.c 1 rfl;have zs:=HX2.o.lt;have H2:=zq h2;obtain ⟨r0,r1,r2⟩:=HZ2.o.t;have rf:=HZ2.o.frozen;have rs:=HZ2.o.lt;have rn:¬ (w.heap.size=w.heap.size+1):=za;clear h2 hb2)))
  go_wp2;refine dD (v:=nuV false A1 c1 (zBQ nu.data.toList) A2 c2 (zBQ de.data.toList)) (by simp [results,Tryz.results118,go_sem,r0,r1,r2]) rfl ⟨A1,c1,A2,c2,rfl,H12.o.setR HZ2.o _ _ _ _ _,H2.o.setR HZ2.o _ _ _ _ _,zCd HB2.o za _ _ _⟩
 ·have hb0:=hb hz
  clear hb he
  go_enter Tryz.func118,Tryz.ntmps118
  go_upto_region 4 with fail
  rw [←hW];clear hW;have x0:=HX0.o.c 0 rfl;have x1:=HX0.o.c 1 rfl;have xs:=HX0.o.lt
  go_region_held3 (fun w'=>w'.cell? ⟨w.heap.size,0,none⟩=some (.string nu)∧w'.cell? ⟨w.heap.size,1,none⟩=some (.string de)) (first | (refine ⟨?_,?_⟩<;>with_reducible assumption) | go_keep)
   (first
    | ((go_at_call 159;(with_reducible refine (HL1.o W.drew).mono ?_);rintro x w1 ⟨A1,c1,rfl,h1,hb1⟩;have HX1:=zq (HX0.o.drew.below hb1);have HZ1:=zq (HZ0.o.drew.below hb1);have HB1:=zq ((zAc HB0.o 1).trans (hb1.mono HB0.o.size));have y0:=HX1.o.c 0 rfl;have y1:=HX1.o.c 1 rfl;have ys:=HX1.o.lt;have H1:=zq h1;clear h1 hb1))
    | ((go_at_call 159;(with_reducible refine (HL2.o w1).mono ?_);rintro x w2 ⟨A2,c2,rfl,h2,hb2⟩;have HX2:=zq (HX1.o.below hb2);have HZ2:=zq (HZ1.o.below hb2);have HB2:=zq (zAb HB1.o hb2);have H12:=zq (H1.o.below hb2);have z0:=HX2.o.c 0 rfl;have z1:=HX2.o.c 1 rfl;have zs:=HX2.o.lt;have H2:=zq h2;obtain ⟨r0,r1,r2⟩:=HZ2.o.t;have rf:=HZ2.o.frozen;have rs:=HZ2.o.lt;have rn:¬ (w.heap.size=w.heap.size+1):=za;clear h2 hb2)))
  go_wp2;refine dD (v:=nuV false A1 c1 (zBQ nu.data.toList) A2 c2 (zBQ de.data.toList)) (by simp [results,Tryz.results118,go_sem,r0,r1,r2]) rfl ⟨A1,c1,A2,c2,rfl,H12.o.setR HZ2.o _ _ _ _ _,H2.o.setR HZ2.o _ _ _ _ _,zCd HB2.o za _ _ _⟩
theorem Of_cT (nu de:BA) (w:World) (hd:(zBh nu).data.toList.all dgB=true) (hs:(zBh nu).size≤2000) (hd2:de.data.toList.all dgB=true) (hs2:de.size≤2000) :
  Calls Tryz.prog 118 #[.agg (rtC nu de)] w (zDh (zDo nu) (zAK (zBh nu)) (zAK de) w):=by
 cases hn:zDo nu with
 | true=>exact Of_neg nu de w hn hd hs hd2 hs2
 | false=>exact Of_pos nu de w hn hd hs hd2 hs2
def NumRel (w:World) (s:BA) (m:Nat) (i:Value) (wr:World):Prop :=
 wr=w∧∃ k:Nat,k+m=s.size∧i = .int .i64 k∧(s.data.toList.take k).all dgB=true
theorem get_list (s:BA) (k:Nat) (h:k<s.size):∃ h2:k<s.data.toList.length,s.data.toList[k]=s[k]'h:=by
 have h2:k<s.data.toList.length:=by rw [←Lib.size_eq];exact h
 refine ⟨h2,?_⟩
 rw [Lib.getD_at s k h,List.getD_eq_getElem?_getD,List.getElem?_eq_getElem h2]
 rfl
theorem numB_small {s:BA} (h:¬ 0<s.size):zCN s=false:=by
 unfold zCN;have h1:decide (s.size=1)=false:=zg;have h2:decide (1<s.size)=false:=zg;rw [h1,h2];simp
theorem numB_zero {s:BA} (h:1<s.size) (h0:(s.data.toList.headD 0).toNat=48):zCN s=false:=by
 unfold zCN;have h1:decide (s.size=1)=false:=zg;rw [h1,h0];simp
theorem numB_allT {s:BA} (h:s.size=1∨(1<s.size∧(s.data.toList.headD 0).toNat≠48)):zCN s=s.data.toList.all dgB:=by
 unfold zCN
 rcases h with h | ⟨h1,h2⟩
 ·simp [h]
 ·rw [cP h1,cP h2];simp
theorem number_c (s:BA) (w:World) (hz:s.size≤9223372036854775807):Calls Tryz.prog 156 #[.string s] w (zAr (.bool (zCN s)) w):=by
 rcases bH s.size with h0 | h0
 ·have hs:s=emp:=by
   have h1:s.data.toList=emp.data.toList:=by
    have h2:s.data.toList.length=0:=by rw [←Lib.size_eq];exact h0
    rw [List.length_eq_zero_iff.1 h2];rfl
   have h2:=aY List.toArray h1;simp only [Array.toArray_toList] at h2;exact aY ByteArray.mk h2
  have he:=zAm hs;rw [numB_small za];clear hs
  go_enter Tryz.func156,Tryz.ntmps156
  go_wp2;go_ret
  exact zAr.mk rfl rfl
 ·have he:s.toList.isEmpty=false:=zAk (fun e=>by rw [e] at h0;exact absurd h0 zc)
  have hh:=head_get s h0
  by_cases hA:1<s.size∧(s.data.toList.headD 0).toNat=48
  ·obtain ⟨h1,h48⟩:=hA
   rw [numB_zero h1 h48];have hb:(((s[0]'h0).toNat:Int) == 48)=true:=by rw [hh,h48];rfl
   clear hh h48
   go_enter Tryz.func156,Tryz.ntmps156
   go_wp2;go_ret
   exact zAr.mk rfl rfl
  ·have HN:Hid (zCN s=s.data.toList.all dgB):=numB_allT (by
    by_cases h1:1<s.size
    ·exact .inr ⟨h1,fun e=>hA ⟨h1,e⟩⟩
    ·exact .inl za)
   have hcase:¬ 1<s.size∨(1<s.size∧(((s[0]'h0).toNat:Int) == 48)=false):=by
    by_cases h1:1<s.size
    ·refine .inr ⟨h1,?_⟩
     rw [hh,aG];intro e;exact hA ⟨h1,za⟩
    ·exact .inl h1
   clear hA hh
   rcases hcase with h1 | ⟨h1,hb⟩
   all_goals
    go_enter Tryz.func156,Tryz.ntmps156
    go_wp2
    go_loopg [3] s.size (NumRel w s)
    case atStart=>exact ⟨rfl,0,za,rfl,zd⟩
    case round =>
     obtain ⟨hw,k,hk,rfl,hall⟩:=hrel;subst hw;have HA:=zq hall;have HK:=zq hk;clear hall hk
     by_cases hlt:k<s.size
     ·obtain ⟨h2,hg⟩:=get_list s k hlt
      have HG:=zq hg;clear hg
      by_cases h48:48≤(s[k]'hlt).toNat
      ·by_cases h57:(s[k]'hlt).toNat≤57
       ·go_wp2
        go_roundg (gk - 1)
        case measure=>have:=HK.o;omega
        case rel =>
         refine ⟨rfl,k+1,zl,zn,?_⟩
         rw [bD h2,List.all_append,HA.o,HG.o];simp [dgB,h48,h57]
       ·have HF:Hid (zCN s=false):=by
         show _=_
         rw [HN.o,List.all_eq_false];exact ⟨_,aI h2,by rw [HG.o];simp [dgB,h57]⟩
        go_wp2;go_ret
        exact zAr.mk (by rw [HF.o];rfl) rfl
      ·have HF:Hid (zCN s=false):=by
        show _=_
        rw [HN.o,List.all_eq_false];exact ⟨_,aI h2,by rw [HG.o];simp [dgB,h48]⟩
       go_wp2;go_ret
       exact zAr.mk (by rw [HF.o];rfl) rfl
     ·obtain rfl:k=s.size:=by have:=HK.o;omega
      have HF:Hid (zCN s=true):=by
       show _=_
       rw [HN.o];have:=HA.o
       rwa [cS (by rw [←Lib.size_eq];exact aB _)] at this
      go_wp2;go_ret
      exact zAr.mk (by rw [HF.o];rfl) rfl
end Go.Proofs.YtoaelidmmcbkfaaGreatDoor
