/- Parts of the proof, joined: Package num: small, natOf, One, Cmp. Package num: Add and sub. DERIVED. -/
import Derived.Test.YtieoifkdobcpiaaGreatDoorSa01
import Derived.Laws.BitsAllLaws
import Derived.Ground.NamesProg
import Derived.Shelf.Small.Bits
import Derived.Shelf.Bits.Mul64
set_option maxRecDepth 100000
set_option maxHeartbeats 8000000
namespace Go.Proofs.YtieoifkdobcpiaaGreatDoor
open Go.RowKit Dw
theorem or_u64n (x y:Nat) (hx:x<4294967296):y*4294967296 ||| x=x+4294967296*y:=by
 have:=Nat.two_pow_add_eq_or_of_lt (i:=32) (b:=x) za y;rw [Nat.mul_comm y,show (4294967296:Nat)=2 ^ 32 from rfl,←this,Nat.add_comm]
theorem or_u64 (x y:Nat) (hx:x<4294967296) (hy:y<4294967296):bits .or .u64 (x:Int) ((y:Int)*4294967296)=(x:Int)+4294967296*(y:Int):=by
 have e:(y:Int)*4294967296=((y*4294967296:Nat):Int):=by rw [Int.natCast_mul];rfl
 rw [e,u64_or_nat x (y*4294967296) za za,Nat.or_comm,or_u64n x y hx];omega
theorem or_u64' (x y:Nat) (hx:x<4294967296) (hy:y<4294967296):bits .or .u64 ((y:Int)*4294967296) (x:Int)=(x:Int)+4294967296*(y:Int):=by
 have e:(y:Int)*4294967296=((y*4294967296:Nat):Int):=by rw [Int.natCast_mul];rfl
 rw [e,u64_or_nat (y*4294967296) x za za,or_u64n x y hx];omega
theorem small_l (A:Option Addr) (c:Nat) (L:List Nat) (w:World) (h:Wds w A L) (hl:WLt B32 L) (hn:L.length≤1000000000) :
  Calls Tryz.prog 166 #[.slice A L.length c] w (zBc (.tuple #[.int .u64 (if L.length≤2 then ((zAf B32 L:Nat):Int) else 0),.bool (decide (L.length≤2))]) w):=by
 match L,h,hl,hn with
 | [],_,_,_ =>
  go_enter Tryz.func166,Tryz.ntmps166
  go_wp2;go_ret2
  exact zBc.mk rfl ⟨0,rfl⟩
 | [x],h,hl,_ =>
  obtain ⟨b,o,rfl,hb,hcl⟩:=h.at_ zd;have hx:=hl.head;rw [zCg] at hx;have hc0:=hcl 0 zd;rw [zBr] at hc0;simp only [List.getElem_cons_zero,Nat.add_zero] at hc0;clear hcl
  go_enter Tryz.func166,Tryz.ntmps166
  go_wp2;go_ret2
  exact zBc.mk qe ⟨0,rfl⟩
 | [x,y],h,hl,_ =>
  obtain ⟨b,o,rfl,hb,hcl⟩:=h.at_ zd;have hx:=hl.head;have hy:=hl.tail.head;rw [zCg] at hx hy;have hc0:=hcl 0 zd;have hc1:=hcl 1 zd;rw [zBr] at hc0 hc1;simp only [List.getElem_cons_zero,List.getElem_cons_succ,Nat.add_zero] at hc0 hc1;clear hcl
  go_enter Tryz.func166,Tryz.ntmps166
  go_wp2
  go_quiet (fail)
  go_wp2;go_ret2
  refine zBc.mk ?_ ⟨_,rfl⟩
  simp only [zAf];simp [or_u64 x y hx hy,zCg]
 | x::y::z::l,h,hl,hn =>
  have hk:(x::y::z::l).length=l.length+3:=rfl;have e0:¬ l.length+3≤2:=za;rw [hk] at hn ⊢;clear hk
  go_enter Tryz.func166,Tryz.ntmps166
  go_wp2;go_ret2
  exact zBc.mk rfl ⟨0,rfl⟩
def smV (n:Nat):Value:=.tuple #[.int .u64 (if (zAc B32 n).length≤2 then (n:Int) else 0),.bool (decide ((zAc B32 n).length≤2))]
theorem small_c (A:Option Addr) (c n:Nat) (w:World) (h:Nt w A c n) (hn:(zAc B32 n).length≤1000000000):Calls Tryz.prog 166 #[ntV A c n] w (zBc (smV n) w):=by
 have:=small_l A c (zAc B32 n) w h.rd (zAE zAo n) hn;rw [zAj zAo] at this;exact this
theorem wval2 (n:Nat) (h:n<18446744073709551616):zAf B32 [n % 4294967296,n / 4294967296]=n∧WLt B32 [n % 4294967296,n / 4294967296]:=by
 refine ⟨?_,WLt.cons ?_ (WLt.cons ?_ WLt.nil)⟩
 ·simp [zAf,zCg];omega
 ·rw [zCg];omega
 ·rw [zCg];omega
theorem wds_new (w:World) (cs:Array Value) (L:List Nat) (h:cs.toList=L.map u32V):Wds (w.alloc (.cells cs 197)) (some ⟨w.heap.size,0,none⟩) L:=by
 intro _;refine ⟨w.heap.size,0,rfl,fun i hi=>?_⟩
 rw [cell_of_row _ _ _ _ _ _ (heap_alloc_new w _),←Array.getElem?_toList,h];simp [hi]
theorem trim2 (n:Nat) (w:World) (h:n<18446744073709551616):Calls Tryz.prog 172 #[.slice (some ⟨w.heap.size,0,none⟩) 2 2]
  (w.alloc (.cells #[.int .u32 ((n:Int) % 4294967296),.int .u32 ((n:Int) / 4294967296)] 197)) (zDg n w) :=
 trim_n _ 2 [n % 4294967296,n / 4294967296] _ w zd zd (wds_new w _ _ (by simp [u32V])) (wval2 n h).2 ((Below.refl _ _).alloc (Nat.le_refl _) _) (wval2 n h).1
theorem natOf_c (n:Nat) (w:World) (h:n<18446744073709551616):Calls Tryz.prog 120 #[.int .u64 (n:Int)] w (zDg n w):=by
 go_enter Tryz.func120,Tryz.ntmps120
 go_wp2_with fail
 with_reducible refine (trim2 n w h).mono ?_
 rintro e w' ⟨A,c,rfl,hn,hb⟩;go_wp2;go_ret
 exact ⟨A,c,rfl,hn,hb⟩
theorem one_words:zAc B32 1=[1]:=qi
theorem Nt.one (w:World):Nt (w.alloc (.cells #[.int .u32 1] 197)) (some ⟨w.heap.size,0,none⟩) 1 1 :=
 ⟨by rw [one_words];exact wds_new w _ _ rfl,by rw [one_words];decide⟩
theorem One_c (w:World):Calls Tryz.prog 79 #[] w (zDg 1 w):=by
 go_enter Tryz.func79,Tryz.ntmps79
 go_wp2;go_ret
 exact ⟨_,1,by unfold ntV;rw [one_words];rfl,Nt.one w,(Below.refl _ _).alloc (Nat.le_refl _) _⟩
def CmpRel (w:World) (l r:List Nat) (m:Nat) (i:Value) (wr:World):Prop :=
 (∃ n,wr=w.drewN n)∧m≤l.length∧(∃ z:Int,z=(m:Int) - 1∧i = .int .i64 z)∧l.drop m=r.drop m
theorem Cmp_l (A A2:Option Addr) (c c2:Nat) (l r:List Nat) (w:World) (h:Wds w A l) (h2:Wds w A2 r) (hl:WLt B32 l) (hr:WLt B32 r) (hn:l.length≤1000000000) (he:l.length=r.length) :
  Calls Tryz.prog 116 #[.slice A l.length c,.slice A2 l.length c2] w (zBc (.int .i64 (zCM (zAf B32 l) (zAf B32 r))) w):=by
 have HE:=zq he;clear he
 go_enter Tryz.func116,Tryz.ntmps116
 go_wp2
 go_loopg [5] l.length (CmpRel w l r)
 case atStart=>exact ⟨⟨0,rfl⟩,Nat.le_refl _,⟨_,rfl,rfl⟩,by rw [List.drop_of_length_le (Nat.le_refl _),List.drop_of_length_le (by rw [HE.o];omega)]⟩
 case round =>
  obtain ⟨⟨nd,hw⟩,hk,⟨z,hz,rfl⟩,hd⟩:=hrel;subst hw;have HD:=zq hd;clear hd
  rcases Nat.eq_zero_or_pos gk with h0 | h0
  ·subst h0
   obtain rfl:z = -1:=hz;go_wp2;go_ret
   refine zBc.mk ?_ ⟨_,rfl⟩
   have e:l=r:=by simpa using HD.o
   rw [e,zCq rfl]
   rfl
  ·obtain ⟨j,rfl⟩:∃ j,gk=j+1:=⟨gk - 1,za⟩
   obtain rfl:z=(j:Int):=za;clear hz;have hjr:j<r.length:=by have:=HE.o;omega
   obtain ⟨b,o,rfl,hb,hcl⟩:=h.at_ za;obtain ⟨b2,o2,rfl,hb2,hcl2⟩:=h2.at_ za;have hc0:=hcl j za;have hc1:=hcl2 j hjr;rw [zBr] at hc0 hc1;clear hcl hcl2;have hx:l[j]<B32:=hl.get j za;have hy:r[j]<B32:=hr.get j hjr
   by_cases hq:l[j]=r[j]
   ·have hqb:(((l[j]:Nat):Int) != ((r[j]:Nat):Int))=false:=by simp [hq]
    have HQ:=zq hq;clear hq;go_wp2
    go_quiet (fail)
    go_wp2
    go_roundg j
    case measure=>omega
    case rel =>
     refine ⟨⟨_,rfl⟩,za,⟨_,rfl,rfl⟩,?_⟩
     rw [List.drop_eq_getElem_cons za,List.drop_eq_getElem_cons hjr,HQ.o,HD.o]
   ·have hqb:(((l[j]:Nat):Int) != ((r[j]:Nat):Int))=true:=by simp;omega
    by_cases hlt:l[j]<r[j]
    ·have hltb:decide (l[j]<r[j])=true:=decide_eq_true hlt
     have HQ:=zq hlt;clear hq hlt;go_wp2
     go_quiet (fail)
     go_wp2
     go_quiet (fail)
     go_wp2;go_ret
     refine zBc.mk ?_ qh
     rw [zBw (wval_lt_of hl HE.o za hjr HD.o HQ.o)]
     rfl
    ·have hltb:decide (l[j]<r[j])=false:=decide_eq_false hlt
     have HQ:=zq (show r[j]<l[j] by omega)
     clear hq hlt;go_wp2
     go_quiet (fail)
     go_wp2
     go_quiet (fail)
     go_wp2;go_ret
     refine zBc.mk ?_ qh
     rw [zBu (wval_lt_of hr HE.o.symm hjr za HD.o.symm HQ.o)]
     rfl
theorem Cmp_len (A A2:Option Addr) (c c2 n m:Nat) (w:World) (hne:n≠m) :
  Calls Tryz.prog 116 #[.slice A n c,.slice A2 m c2] w (zBc (.int .i64 (zCM n m)) w):=by
 have hnb:((n:Int) != (m:Int))=true:=ze
 rcases Nat.lt_or_ge n m with hlt | hge
 ·have hltb:decide (n<m)=true:=decide_eq_true hlt
  have hv:zCM n m = -1:=zBw hlt;rw [hv];have HV:=zq hv;clear hv
  go_enter Tryz.func116,Tryz.ntmps116
  go_wp2;go_ret
  exact zBc.mk rfl ⟨0,rfl⟩
 ·have hltb:decide (n<m)=false:=decide_eq_false za
  have hv:zCM n m=1:=zBu za;rw [hv];have HV:=zq hv;clear hv
  go_enter Tryz.func116,Tryz.ntmps116
  go_wp2;go_ret
  exact zBc.mk rfl ⟨0,rfl⟩
theorem Cmp_c (A A2:Option Addr) (c c2 a b:Nat) (w:World) (h:Nt w A c a) (h2:Nt w A2 c2 b) (hn:(zAc B32 a).length≤1000000000) :
  Calls Tryz.prog 116 #[ntV A c a,ntV A2 c2 b] w (zBc (.int .i64 (zCM a b)) w):=by
 by_cases he:(zAc B32 a).length=(zAc B32 b).length
 ·have:=Cmp_l A A2 c c2 (zAc B32 a) (zAc B32 b) w h.rd h2.rd (zAE zAo a) (zAE zAo b) hn he
  rw [zAj zAo,zAj zAo] at this;unfold ntV;rw [←he];exact this
 ·have:=Cmp_len A A2 c c2 _ _ w he
  have e:zCM (zAc B32 a).length (zAc B32 b).length=zCM a b:=by
   rcases Nat.lt_or_ge (zAc B32 a).length (zAc B32 b).length with h1 | h1
   ·rw [zBw h1,zBw (lt_of_len zAo h1)]
   ·rw [zBu za,zBu (lt_of_len zAo za)]
  rw [e] at this;exact this
def AddRel (w:World) (g:Nat) (l r:List Nat) (m:Nat) (cv iv:Value) (wr:World):Prop :=
 ∃ (k cy:Nat) (L:List Nat),k+m=l.length∧iv = .int .i64 k∧cv = .int .u64 (cy:Int)∧cy≤1∧zBN wr g L∧L.length=l.length+1∧WLt B32 L ∧
  zAf B32 (L.take k)+B32 ^ k*cy=zAf B32 (l.take k)+zAf B32 (r.take k)∧(∀ x (h:x<L.length),k≤x→L[x]=0)∧Below w.heap.size w wr∧w.heap.size≤g
theorem zDE {L:List Nat} {k x:Nat} (h:k<L.length):zAf B32 ((L.set k x).take (k+1))=zAf B32 (L.take k)+B32 ^ k*x:=by
 rw [take_set_succ L k x h,zAH,zBt,List.length_take,Nat.min_eq_left za]
theorem zeros_set {L:List Nat} {k x:Nat} (h:∀ i (h:i<L.length),k≤i→L[i]=0):∀ i (h:i<(L.set k x).length),k+1≤i→(L.set k x)[i]=0:=fun i hi hk=>by
 rw [List.getElem_set_ne za];exact h i yh za
theorem modB (s:Nat):s % 4294967296<B32:=Nat.mod_lt _ zc
theorem AddRel.step {w wr:World} {g:Nat} {l r L:List Nat} {k cy gk s y:Nat} (hkm:k+gk=l.length) (hlt:k<l.length) (hA:zBN wr g L) (hL:L.length=l.length+1) (hLt:WLt B32 L)
  (hV:zAf B32 (L.take k)+B32 ^ k*cy=zAf B32 (l.take k)+zAf B32 (r.take k)) (hZ:∀ x (h:x<L.length),k≤x→L[x]=0) (hbw:Below w.heap.size w wr) (hwg:w.heap.size≤g)
  (hy:zAf B32 (r.take (k+1))=zAf B32 (r.take k)+B32 ^ k*y) (hs:s=cy+l[k]+y) (hs2:s≤8589934591) {cv iv mv:Value} (hc:cv = .int .u64 ((s / 4294967296:Nat):Int)) (hi:iv = .int .i64 ((k:Int)+1)) (hm:mv = .int .u32 ((s % 4294967296:Nat):Int)) :
  AddRel w g l r (gk - 1) cv iv (wr.setCell ⟨g,k,none⟩ mv):=by
 subst hc hi hm;refine ⟨k+1,s / 4294967296,L.set k (s % 4294967296),za,zi,rfl,za,hA.set k _,by simpa using hL,hLt.set (modB s) k,?_,zeros_set hZ,hbw.setCell hwg _,hwg⟩
 rw [zDE za,hy,zAr hlt];exact add_col hV hs
theorem Add_l (A A2:Option Addr) (c c2:Nat) (l r:List Nat) (w:World) (h:Wds w A l) (h2:Wds w A2 r) (hl:WLt B32 l) (hr:WLt B32 r) (hn:l.length≤900000000) (he:r.length≤l.length) :
  Calls Tryz.prog 169 #[.slice A l.length c,.slice A2 r.length c2] w (zDg (zAf B32 l+zAf B32 r) w):=by
 have hltb:decide (l.length<r.length)=false:=decide_eq_false za;have hmk:∀ w:World,(Instr.makeSlice 85 (.int .i64 ((l.length:Int)+1)) (.int .i64 ((l.length:Int)+1))).run Tryz.prog w = .ok (.slice (some ⟨w.heap.size,0,none⟩) (l.length+1) (l.length+1)) (w.alloc (.cells (Array.replicate (l.length+1) (.int .u32 0)) 197)):=mk_nat (l.length+1) za
 go_enter Tryz.func169,Tryz.ntmps169
 go_wp2;clear hmk;have hnew:=zBN.new w (l.length+1);have hbel:Below w.heap.size w (w.alloc (.cells (Array.replicate (l.length+1) (.int .u32 0)) 197)):=(Below.refl _ _).alloc (Nat.le_refl _) _;obtain ⟨g,hg⟩:∃ g,g=w.heap.size:=⟨_,rfl⟩;rw [←hg] at hnew;obtain ⟨w1,hw1⟩:∃ w1,w1=w.alloc (.cells (Array.replicate (l.length+1) (.int .u32 0)) 197):=⟨_,rfl⟩;rw [←hw1] at hnew hbel;rw [←hg,←hw1];have HG:=zq hg;have HB:=zq hbel;clear hg hbel hw1
 go_loopg [6,21] l.length (AddRel w g l r)
 case atStart=>exact ⟨0,0,List.replicate (l.length+1) 0,za,rfl,rfl,za,hnew,zd,WLt.zeros zBT _,qe,fun x hx _=>zd,HB.o,ya⟩
 case round =>
  obtain ⟨k,cy,L,hkm,rfl,rfl,hcy,hA,hL,hLt,hV,hZ,hbw,hwg⟩:=hrel;have HM:=zq hkm;have HV:=zq hV;have HZ:=zq hZ;have HL:=zq hL;clear hkm hV hZ hL
  by_cases hlt:k<l.length
  ·have hkL:k<L.length:=by have:=HL.o;omega
   obtain ⟨b,o,hA0,hb,hcl⟩:=(h.below hbw).at_ za;subst hA0;have hc0:=hcl k hlt;rw [zBr] at hc0;have hx:l[k]<4294967296:=hl.get k hlt;have hc1:=hA.cell k hkL;have hf1:=hA.frozen k;clear hcl
   by_cases hlr:k<r.length
   ·obtain ⟨b2,o2,hA2,hb2,hcl2⟩:=(h2.below hbw).at_ za
    subst hA2;have hc2:=hcl2 k hlr;rw [zBr] at hc2;have hy:r[k]<4294967296:=hr.get k hlr;clear hcl2;go_wp2
    go_roundg (gk - 1)
    case measure=>have:=HM.o;omega
    case rel=>exact AddRel.step HM.o hlt hA HL.o hLt HV.o HZ.o hbw hwg (zAr hlr) rfl za zd rfl zd
   ·have HR:Hid (zAf B32 (r.take (k+1))=zAf B32 (r.take k)+B32 ^ k*0):=by
     show zAf B32 (r.take (k+1))=zAf B32 (r.take k)+B32 ^ k*0
     rw [List.take_of_length_le za,List.take_of_length_le za];simp
    go_wp2
    go_roundg (gk - 1)
    case measure=>have:=HM.o;omega
    case rel=>exact AddRel.step HM.o hlt hA HL.o hLt HV.o HZ.o hbw hwg HR.o (s:=cy+l[k]) rfl za zd rfl zd
  ·obtain rfl:k=l.length:=by have:=HM.o;omega
   have hkL:l.length<L.length:=by have:=HL.o;omega
   have hc1:=hA.cell l.length hkL;have hf1:=hA.frozen l.length
   go_wp2_with fail
   have HT:Hid (zAf B32 (L.set l.length cy)=zAf B32 l+zAf B32 r):=by
    have e:L.set l.length cy=(L.set l.length cy).take (l.length+1):=by rw [List.take_of_length_le (by rw [List.length_set,HL.o];omega)]
    show zAf B32 (L.set l.length cy)=_
    rw [e,zDE hkL];have:=HV.o
    rwa [List.take_of_length_le (Nat.le_refl _),List.take_of_length_le he] at this
   have hA2:=hA.set l.length cy;have hl2:(L.set l.length cy).length=l.length+1:=by rw [List.length_set,HL.o]
   rw [←hl2];with_reducible refine (trim_n _ _ (L.set l.length cy) _ w za (Nat.le_refl _) (by have:=hA2.rd (L.set l.length cy).length;rwa [List.take_length] at this) (hLt.set ym _) (hbw.setCell hwg _) HT.o).mono ?_
   rintro e w' ⟨A,c,rfl,hn,hb⟩;clear hl2 hA2;go_wp2;go_ret
   exact ⟨A,c,rfl,hn,hb⟩
theorem Add_s (A A2:Option Addr) (c c2:Nat) (l r:List Nat) (w:World) (h:Wds w A l) (h2:Wds w A2 r) (hl:WLt B32 l) (hr:WLt B32 r) (hn:l.length≤900000000) (he:r.length<l.length) :
  Calls Tryz.prog 169 #[.slice A2 r.length c2,.slice A l.length c] w (zDg (zAf B32 l+zAf B32 r) w):=by
 have hltb:decide (r.length<l.length)=true:=decide_eq_true he;have hmk:∀ w:World,(Instr.makeSlice 85 (.int .i64 ((l.length:Int)+1)) (.int .i64 ((l.length:Int)+1))).run Tryz.prog w = .ok (.slice (some ⟨w.heap.size,0,none⟩) (l.length+1) (l.length+1)) (w.alloc (.cells (Array.replicate (l.length+1) (.int .u32 0)) 197)):=mk_nat (l.length+1) za
 go_enter Tryz.func169,Tryz.ntmps169
 go_wp2;clear hmk;have hnew:=zBN.new w (l.length+1);have hbel:Below w.heap.size w (w.alloc (.cells (Array.replicate (l.length+1) (.int .u32 0)) 197)):=(Below.refl _ _).alloc (Nat.le_refl _) _;obtain ⟨g,hg⟩:∃ g,g=w.heap.size:=⟨_,rfl⟩;rw [←hg] at hnew;obtain ⟨w1,hw1⟩:∃ w1,w1=w.alloc (.cells (Array.replicate (l.length+1) (.int .u32 0)) 197):=⟨_,rfl⟩;rw [←hw1] at hnew hbel;rw [←hg,←hw1];have HG:=zq hg;have HB:=zq hbel;clear hg hbel hw1
 go_loopg [6,21] l.length (AddRel w g l r)
 case atStart=>exact ⟨0,0,List.replicate (l.length+1) 0,za,rfl,rfl,za,hnew,zd,WLt.zeros zBT _,qe,fun x hx _=>zd,HB.o,ya⟩
 case round =>
  obtain ⟨k,cy,L,hkm,rfl,rfl,hcy,hA,hL,hLt,hV,hZ,hbw,hwg⟩:=hrel;have HM:=zq hkm;have HV:=zq hV;have HZ:=zq hZ;have HL:=zq hL;clear hkm hV hZ hL
  by_cases hlt:k<l.length
  ·have hkL:k<L.length:=by have:=HL.o;omega
   obtain ⟨b,o,hA0,hb,hcl⟩:=(h.below hbw).at_ za;subst hA0;have hc0:=hcl k hlt;rw [zBr] at hc0;have hx:l[k]<4294967296:=hl.get k hlt;have hc1:=hA.cell k hkL;have hf1:=hA.frozen k;clear hcl
   by_cases hlr:k<r.length
   ·obtain ⟨b2,o2,hA2,hb2,hcl2⟩:=(h2.below hbw).at_ za
    subst hA2;have hc2:=hcl2 k hlr;rw [zBr] at hc2;have hy:r[k]<4294967296:=hr.get k hlr;clear hcl2;go_wp2
    go_roundg (gk - 1)
    case measure=>have:=HM.o;omega
    case rel=>exact AddRel.step HM.o hlt hA HL.o hLt HV.o HZ.o hbw hwg (zAr hlr) rfl za zd rfl zd
   ·have HR:Hid (zAf B32 (r.take (k+1))=zAf B32 (r.take k)+B32 ^ k*0):=by
     show zAf B32 (r.take (k+1))=zAf B32 (r.take k)+B32 ^ k*0
     rw [List.take_of_length_le za,List.take_of_length_le za];simp
    go_wp2
    go_roundg (gk - 1)
    case measure=>have:=HM.o;omega
    case rel=>exact AddRel.step HM.o hlt hA HL.o hLt HV.o HZ.o hbw hwg HR.o (s:=cy+l[k]) rfl za zd rfl zd
  ·obtain rfl:k=l.length:=by have:=HM.o;omega
   have hkL:l.length<L.length:=by have:=HL.o;omega
   have hc1:=hA.cell l.length hkL;have hf1:=hA.frozen l.length
   go_wp2_with fail
   have HT:Hid (zAf B32 (L.set l.length cy)=zAf B32 l+zAf B32 r):=by
    have e:L.set l.length cy=(L.set l.length cy).take (l.length+1):=by rw [List.take_of_length_le (by rw [List.length_set,HL.o];omega)]
    show zAf B32 (L.set l.length cy)=_
    rw [e,zDE hkL];have:=HV.o
    rwa [List.take_of_length_le (Nat.le_refl _),List.take_of_length_le (Nat.le_of_lt he)] at this
   have hA2:=hA.set l.length cy;have hl2:(L.set l.length cy).length=l.length+1:=by rw [List.length_set,HL.o]
   rw [←hl2];with_reducible refine (trim_n _ _ (L.set l.length cy) _ w za (Nat.le_refl _) (by have:=hA2.rd (L.set l.length cy).length;rwa [List.take_length] at this) (hLt.set ym _) (hbw.setCell hwg _) HT.o).mono ?_
   rintro e w' ⟨A,c,rfl,hn,hb⟩;clear hl2 hA2;go_wp2;go_ret
   exact ⟨A,c,rfl,hn,hb⟩
theorem Add_c (A A2:Option Addr) (c c2 a b:Nat) (w:World) (h:Nt w A c a) (h2:Nt w A2 c2 b) (hn:(zAc B32 a).length≤900000000) (hm:(zAc B32 b).length≤900000000) :
  Calls Tryz.prog 169 #[ntV A c a,ntV A2 c2 b] w (zDg (a+b) w):=by
 have e1:=zAj zAo a;have e2:=zAj zAo b
 rcases Nat.lt_or_ge (zAc B32 a).length (zAc B32 b).length with h1 | h1
 ·have:=Add_s A2 A c2 c (zAc B32 b) (zAc B32 a) w h2.rd h.rd (zAE zAo b) (zAE zAo a) hm h1
  rw [e1,e2,Nat.add_comm] at this;exact this
 ·have:=Add_l A A2 c c2 (zAc B32 a) (zAc B32 b) w h.rd h2.rd (zAE zAo a) (zAE zAo b) hn h1
  rw [e1,e2] at this;exact this
def SubRel (w:World) (g:Nat) (l r:List Nat) (m:Nat) (cv iv:Value) (wr:World):Prop :=
 ∃ (k:Nat) (cy:Int) (L:List Nat),k+m=l.length∧iv = .int .i64 k∧cv = .int .i64 cy∧-1≤cy∧cy≤0∧zBN wr g L∧L.length=l.length∧WLt B32 L ∧
  (zAf B32 (L.take k):Int)+(B32:Int) ^ k*cy=(zAf B32 (l.take k):Int) - (zAf B32 (r.take k):Int)∧Below w.heap.size w wr∧w.heap.size≤g
theorem SubRel.step {w wr:World} {g:Nat} {l r L:List Nat} {k gk y:Nat} {cy s:Int} (hkm:k+gk=l.length) (hlt:k<l.length) (hA:zBN wr g L) (hL:L.length=l.length) (hLt:WLt B32 L)
  (hV:(zAf B32 (L.take k):Int)+(B32:Int) ^ k*cy=(zAf B32 (l.take k):Int) - (zAf B32 (r.take k):Int)) (hbw:Below w.heap.size w wr) (hwg:w.heap.size≤g)
  (hy:zAf B32 (r.take (k+1))=zAf B32 (r.take k)+B32 ^ k*y) (hs:s=cy+l[k] - y) (hs1 : -4294967296≤s) (hs2:s≤4294967295) {cv iv mv:Value} (hc:cv = .int .i64 (s / 4294967296)) (hi:iv = .int .i64 ((k:Int)+1)) (hm:mv = .int .u32 (s % 4294967296)) :
  SubRel w g l r (gk - 1) cv iv (wr.setCell ⟨g,k,none⟩ mv):=by
 have hx:((s % 4294967296).toNat:Int)=s % 4294967296:=Int.toNat_of_nonneg za;rw [←hx] at hm;subst hc hi hm;refine ⟨k+1,s / 4294967296,L.set k (s % 4294967296).toNat,za,zi,rfl,za,za,hA.set k _,by simpa using hL,hLt.set ym k,?_,hbw.setCell hwg _,hwg⟩
 rw [zDE za,hy,zAr hlt];have:=sub_col hV hs;simp only [Int.natCast_add,Int.natCast_mul,Int.natCast_pow,hx];exact this
theorem sub_l (A A2:Option Addr) (c c2:Nat) (l r:List Nat) (w:World) (h:Wds w A l) (h2:Wds w A2 r) (hl:WLt B32 l) (hr:WLt B32 r) (hn:l.length≤900000000) (he:r.length≤l.length) (hv:zAf B32 r≤zAf B32 l) :
  Calls Tryz.prog 170 #[.slice A l.length c,.slice A2 r.length c2] w (zDg (zAf B32 l - zAf B32 r) w):=by
 have hmk:∀ w:World,(Instr.makeSlice 85 (.int .i64 (l.length:Int)) (.int .i64 (l.length:Int))).run Tryz.prog w = .ok (.slice (some ⟨w.heap.size,0,none⟩) l.length l.length) (w.alloc (.cells (Array.replicate l.length (.int .u32 0)) 197)):=mk_nat l.length za;have HVL:=zq hv;clear hv
 go_enter Tryz.func170,Tryz.ntmps170
 go_wp2;clear hmk;have hnew:=zBN.new w l.length;have hbel:Below w.heap.size w (w.alloc (.cells (Array.replicate l.length (.int .u32 0)) 197)):=(Below.refl _ _).alloc (Nat.le_refl _) _;obtain ⟨g,hg⟩:∃ g,g=w.heap.size:=⟨_,rfl⟩;rw [←hg] at hnew;obtain ⟨w1,hw1⟩:∃ w1,w1=w.alloc (.cells (Array.replicate l.length (.int .u32 0)) 197):=⟨_,rfl⟩;rw [←hw1] at hnew hbel;rw [←hg,←hw1];have HG:=zq hg;have HB:=zq hbel;clear hg hbel hw1
 go_loopg [6,13] l.length (SubRel w g l r)
 case atStart=>exact ⟨0,0,List.replicate l.length 0,za,rfl,rfl,za,za,hnew,zd,WLt.zeros zBT _,qe,HB.o,ya⟩
 case round =>
  obtain ⟨k,cy,L,hkm,rfl,rfl,hcy1,hcy2,hA,hL,hLt,hV,hbw,hwg⟩:=hrel;have HM:=zq hkm;have HV:=zq hV;have HL:=zq hL;clear hkm hV hL
  by_cases hlt:k<l.length
  ·have hkL:k<L.length:=by have:=HL.o;omega
   obtain ⟨b,o,hA0,hb,hcl⟩:=(h.below hbw).at_ za;subst hA0;have hc0:=hcl k hlt;rw [zBr] at hc0;have hx:l[k]<4294967296:=hl.get k hlt;have hc1:=hA.cell k hkL;have hf1:=hA.frozen k;clear hcl
   by_cases hlr:k<r.length
   ·obtain ⟨b2,o2,hA2,hb2,hcl2⟩:=(h2.below hbw).at_ za
    subst hA2;have hc2:=hcl2 k hlr;rw [zBr] at hc2;have hy:r[k]<4294967296:=hr.get k hlr;clear hcl2;go_wp2
    go_roundg (gk - 1)
    case measure=>have:=HM.o;omega
    case rel=>exact SubRel.step HM.o hlt hA HL.o hLt HV.o hbw hwg (zAr hlr) rfl za za rfl rfl rfl
   ·have HR:Hid (zAf B32 (r.take (k+1))=zAf B32 (r.take k)+B32 ^ k*0):=by
     show zAf B32 (r.take (k+1))=zAf B32 (r.take k)+B32 ^ k*0
     rw [List.take_of_length_le za,List.take_of_length_le za];simp
    go_wp2
    go_roundg (gk - 1)
    case measure=>have:=HM.o;omega
    case rel=>exact SubRel.step HM.o hlt hA HL.o hLt HV.o hbw hwg HR.o (s:=cy+l[k]) zd za za rfl rfl rfl
  ·obtain rfl:k=l.length:=by have:=HM.o;omega
   go_wp2_with fail
   have HT:Hid (zAf B32 L=zAf B32 l - zAf B32 r):=by
    show zAf B32 L=_
    have h1:=HV.o;rw [List.take_of_length_le (by rw [HL.o];omega),List.take_of_length_le (Nat.le_refl _),List.take_of_length_le he] at h1
    have h2:=HVL.o;have h3:=zCV hLt;rw [HL.o] at h3;have h4:(zAf B32 L:Int)<(B32:Int) ^ l.length:=by rw [←Int.natCast_pow];omega
    have h5:cy=0∨cy = -1:=za
    rcases h5 with rfl | rfl
    ·omega
    ·omega
   have hl2:=HL.o;rw [←hl2];with_reducible refine (trim_n _ _ L _ w za (Nat.le_refl _) (by have:=hA.rd L.length;rwa [List.take_length] at this) hLt hbw HT.o).mono ?_
   rintro e w' ⟨A,c,rfl,hn,hb⟩;clear hl2;go_wp2;go_ret
   exact ⟨A,c,rfl,hn,hb⟩
theorem sub_c (A A2:Option Addr) (c c2 a b:Nat) (w:World) (h:Nt w A c a) (h2:Nt w A2 c2 b) (hn:(zAc B32 a).length≤900000000) (hv:b≤a) :
  Calls Tryz.prog 170 #[ntV A c a,ntV A2 c2 b] w (zDg (a - b) w):=by
 have e1:=zAj zAo a;have e2:=zAj zAo b;have:=sub_l A A2 c c2 (zAc B32 a) (zAc B32 b) w h.rd h2.rd (zAE zAo a) (zAE zAo b) hn (zAq zAo hv) (by rw [e1,e2];exact hv)
 rw [e1,e2] at this;exact this
end Go.Proofs.YtieoifkdobcpiaaGreatDoor
namespace Go.Proofs
open Go.Shelf
def Tryz.lays133_ren:Go.Shelf.Ren:=⟨fun | 133=>225 | 128=>160 | n=>n,fun | 51=>197 | 3=>3 | 4=>4 | 46=>188 | 5=>5 | 9=>9 | n=>n,fun | n=>n⟩
theorem Tryz.lays133:Go.Proofs.Lays.n133 Tryz.prog Tryz.lays133_ren:={
 mixed:=zb
 f128:=Tryz.func160.trans (congrArg some zb)
 f133:=Tryz.func225.trans (congrArg some zb)
 t3:=Tryz.underlying3
 a3:=Tryz.isAgg3
 z3:=Tryz.sizeOf3
 v3:=Tryz.zeroValue3
 t4:=Tryz.underlying4
 a4:=Tryz.isAgg4
 z4:=Tryz.sizeOf4
 v4:=Tryz.zeroValue4
 t5:=Tryz.underlying5
 a5:=Tryz.isAgg5
 z5:=Tryz.sizeOf5
 v5:=Tryz.zeroValue5
 t9:=Tryz.underlying9
 a9:=Tryz.isAgg9
 z9:=Tryz.sizeOf9
 v9:=Tryz.zeroValue9
 t46:=Tryz.underlying188
 a46:=Tryz.isAgg188
 z46:=Tryz.sizeOf188
 v46:=Tryz.zeroValue188
 t51:=Tryz.underlying197
 a51:=Tryz.isAgg197
 z51:=Tryz.sizeOf197
 v51:=Tryz.zeroValue197 }
def Tryz.lays264_ren:Go.Shelf.Ren:=⟨fun | 264=>171 | n=>n,fun | 53=>95 | 46=>188 | n=>n,fun | n=>n⟩
theorem Tryz.lays264:Go.Proofs.Lays.n264 Tryz.prog Tryz.lays264_ren:={
 mixed:=zb
 f264:=Tryz.func171.trans (congrArg some zb)
 t46:=Tryz.underlying188
 a46:=Tryz.isAgg188
 z46:=Tryz.sizeOf188
 v46:=Tryz.zeroValue188
 t53:=Tryz.underlying95
 a53:=Tryz.isAgg95
 z53:=Tryz.sizeOf95
 v53:=Tryz.zeroValue95 }
end Go.Proofs
namespace Go.Proofs.YtieoifkdobcpiaaGreatDoor
open Go.RowKit Dw
theorem zCC (A:Option Addr) (c n:Nat) (w:World) (h:Nt w A c n) (hn:(zAc B32 n).length≤2):Calls Tryz.prog 166 #[ntV A c n] w (zBc (.tuple #[.int .u64 (n:Int),.bool true]) w):=by
 have:=small_c A c n w h za;unfold smV at this;rw [if_pos hn,decide_eq_true hn] at this;exact this
theorem small_no (A:Option Addr) (c n:Nat) (w:World) (h:Nt w A c n) (hn:2<(zAc B32 n).length) (hm:(zAc B32 n).length≤1000000000):Calls Tryz.prog 166 #[ntV A c n] w (zBc (.tuple #[.int .u64 0,.bool false]) w):=by
 have:=small_c A c n w h hm;unfold smV at this;rw [if_neg za,decide_eq_false za] at this;exact this
theorem small_lt {n:Nat} (hn:(zAc B32 n).length≤2):n≤18446744073709551615:=by
 have h1:=zBe zAo n;have h2:B32 ^ (zAc B32 n).length≤B32 ^ 2:=Nat.pow_le_pow_right zBT hn;have h3:B32 ^ 2=18446744073709551616:=zc;omega
def GivesM (x y:Nat) (w:World) (e:Ending) (w':World):Prop :=
 ∃ hi lo:Nat,e = .returned (.tuple #[.int .u64 (hi:Int),.int .u64 (lo:Int)])∧hi≤18446744073709551615∧lo≤18446744073709551615∧Hid (x*y=lo+18446744073709551616*hi)∧w=w'
theorem mul64_c (x y:Nat) (w:World) (hx:x≤18446744073709551615) (hy:y≤18446744073709551615):Calls Tryz.prog 171 #[.int .u64 (x:Int),.int .u64 (y:Int)] w (GivesM x y w):=by
 have h:=Any.bits_Mul64 Tryz.lays264 x y za za w
 change Calls Tryz.prog 171 _ _ _ at h
 refine h.mono fun e w' ⟨he,hw⟩=>⟨_,_,he,?_,?_,?_,hw.symm⟩
 ·have h1:x*y≤18446744073709551615*18446744073709551615:=Nat.mul_le_mul hx hy
  generalize x*y=p at *;omega
 ·omega
 ·show x*y=_
  generalize x*y=p at *;omega
theorem trim4 (hi lo nd:Nat) (w:World) (h1:hi≤18446744073709551615) (h2:lo≤18446744073709551615) {n:Nat} (hv:n=lo+18446744073709551616*hi):Calls Tryz.prog 172 #[.slice (some ⟨w.heap.size,0,none⟩) 4 4]
  ((w.drewN nd).alloc (.cells #[.int .u32 ((lo:Int) % 4294967296),.int .u32 ((lo:Int) / 4294967296),.int .u32 ((hi:Int) % 4294967296),.int .u32 ((hi:Int) / 4294967296)] 197)) (zDg n w) :=
 trim_n _ 4 [lo % 4294967296,lo / 4294967296,hi % 4294967296,hi / 4294967296] _ w zd zd (wds_new (w.drewN nd) _ _ (by simp [u32V]))
  (WLt.cons ym (WLt.cons ym (WLt.cons ym (WLt.cons ym WLt.nil)))) ((zAd (Below.refl _ _) nd).alloc (Nat.le_refl _) _) (by
   rw [hv];simp [zAf,zCg];omega)
def MulRel (w:World) (g:Nat) (l r:List Nat) (m:Nat) (iv:Value) (wr:World):Prop :=
 ∃ (k:Nat) (L:List Nat),k+m=l.length∧iv = .int .i64 k∧zBN wr g L∧L.length=l.length+r.length∧WLt B32 L∧zAf B32 L=zAf B32 (l.take k)*zAf B32 r ∧
  (∀ x (h:x<L.length),k+r.length≤x→L[x]=0)∧Below w.heap.size w wr∧w.heap.size≤g
def MulRel2 (w:World) (g:Nat) (l r:List Nat) (k x:Nat) (m:Nat) (cv jv:Value) (wr:World):Prop :=
 ∃ (j cy:Nat) (L:List Nat),j+m=r.length∧jv = .int .i64 j∧cv = .int .u64 (cy:Int)∧cy≤4294967295∧zBN wr g L∧L.length=l.length+r.length∧WLt B32 L ∧
  zAf B32 L+B32 ^ (k+j)*cy=zAf B32 (l.take k)*zAf B32 r+B32 ^ k*(x*zAf B32 (r.take j))∧(∀ x (h:x<L.length),k+r.length≤x→L[x]=0)∧Below w.heap.size w wr∧w.heap.size≤g
theorem MulRel2.step {w wr:World} {g:Nat} {l r L:List Nat} {k x j cy gk t:Nat} (hkm:j+gk=r.length) (hlt:j<r.length) (hk:k<l.length) (hcy:cy≤4294967295) (hx:x≤4294967295) (hA:zBN wr g L) (hL:L.length=l.length+r.length) (hr:WLt B32 r) (hLt:WLt B32 L)
  (hV:zAf B32 L+B32 ^ (k+j)*cy=zAf B32 (l.take k)*zAf B32 r+B32 ^ k*(x*zAf B32 (r.take j))) (hZ:∀ x (h:x<L.length),k+r.length≤x→L[x]=0) (hbw:Below w.heap.size w wr) (hwg:w.heap.size≤g)
  (ht:t=cy+(x*r[j]+L[k+j])) {cv iv mv:Value} (hc:cv = .int .u64 ((t / 4294967296:Nat):Int)) (hi:iv = .int .i64 ((j:Int)+1)) (hm:mv = .int .u32 ((t % 4294967296:Nat):Int)) :
  MulRel2 w g l r k x (gk - 1) cv iv (wr.setCell ⟨g,k+j,none⟩ mv):=by
 subst hc hi hm;have hy:r[j]≤4294967295:=by have:=hr.get j hlt;rw [zCg] at this;omega
 have hz:L[k+j]≤4294967295:=by have:=hLt.get (k+j) za;rw [zCg] at this;omega
 have hxy:x*r[j]≤4294967295*4294967295:=Nat.mul_le_mul hx hy;refine ⟨j+1,t / 4294967296,L.set (k+j) (t % 4294967296),za,zi,rfl,by rw [ht];generalize x*r[j]=p at *;omega,hA.set (k+j) _,by simpa using hL,hLt.set (modB t) _,?_,fun i hi hki=>?_,hbw.setCell hwg _,hwg⟩
 ·have e1:=zDF B32 L (k+j) (t % 4294967296) za
  rw [zAr hlt]
  have e2:B32 ^ (k+j)*(t % 4294967296)+B32 ^ (k+(j+1))*(t / 4294967296)=B32 ^ (k+j)*t:=by
   rw [show k+(j+1)=(k+j)+1 by omega,Nat.pow_succ,Nat.mul_assoc,←Nat.mul_add,zCg,Nat.mod_add_div]
  have e3:B32 ^ (k+j)*t=B32 ^ (k+j)*cy+B32 ^ (k+j)*(x*r[j])+B32 ^ (k+j)*L[k+j]:=by
   rw [ht,Nat.mul_add,Nat.mul_add,Nat.add_assoc]
  have e4:B32 ^ k*(x*(zAf B32 (r.take j)+B32 ^ j*r[j]))=B32 ^ k*(x*zAf B32 (r.take j))+B32 ^ (k+j)*(x*r[j]):=by
   rw [Nat.mul_add,Nat.mul_add,Nat.pow_add,Nat.mul_left_comm x,Nat.mul_assoc]
  rw [e4];omega
 ·rw [List.getElem_set_ne za]
  exact hZ i yh za
theorem MulRel.next {w wr:World} {g:Nat} {l r L:List Nat} {k cy gk:Nat} (hkm:k+1+gk=l.length) (hlt:k<l.length) (hcy:cy≤4294967295) (hA:zBN wr g L) (hL:L.length=l.length+r.length) (hLt:WLt B32 L)
  (hV:zAf B32 L+B32 ^ (k+r.length)*cy=zAf B32 (l.take k)*zAf B32 r+B32 ^ k*(l[k]*zAf B32 (r.take r.length))) (hZ:∀ x (h:x<L.length),k+r.length≤x→L[x]=0) (hbw:Below w.heap.size w wr) (hwg:w.heap.size≤g)
  {iv mv:Value} (hi:iv = .int .i64 ((k:Int)+1)) (hm:mv = .int .u32 (cy:Int)) :
  MulRel w g l r gk iv (wr.setCell ⟨g,k+r.length,none⟩ mv):=by
 subst hi hm;refine ⟨k+1,L.set (k+r.length) cy,za,zi,hA.set _ _,by simpa using hL,hLt.set ym _,?_,fun i hi hki=>?_,hbw.setCell hwg _,hwg⟩
 ·have e1:=zDF B32 L (k+r.length) cy za
  rw [hZ (k+r.length) za (Nat.le_refl _)] at e1;rw [List.take_of_length_le (Nat.le_refl _)] at hV;rw [zAr hlt,Nat.add_mul,Nat.mul_assoc (B32 ^ k)];omega
 ·rw [List.getElem_set_ne za]
  exact hZ i yh za
theorem Mul_c (A A2:Option Addr) (c c2:Nat) (a b:Nat) (w:World) (h:Nt w A c a) (h2:Nt w A2 c2 b) (hn:(zAc B32 a).length≤400000000) (hm:(zAc B32 b).length≤400000000) :
  Calls Tryz.prog 119 #[ntV A c a,ntV A2 c2 b] w (zDg (a*b) w):=by
 by_cases h1:(zAc B32 a).length≤2∧(zAc B32 b).length≤2
 ·obtain ⟨ha,hb⟩:=h1
  have la:=small_lt ha;have lb:=small_lt hb
  go_enter Tryz.func119,Tryz.ntmps119
  go_wp2_with fail
  with_reducible refine (zCC A c a _ h ha).mono ?_
  rintro e w' ⟨rfl,nd,rfl⟩
  go_wp2_with fail
  with_reducible refine (zCC A2 c2 b _ (h2.drewN nd) hb).mono ?_
  rintro e w' ⟨rfl,nd2,rfl⟩
  go_wp2_with fail
  with_reducible refine (mul64_c a b _ la lb).mono ?_
  rintro e w' ⟨hi,lo,rfl,h3,h4,hv,rfl⟩
  go_wp2_with fail
  with_reducible refine (trim4 hi lo (nd+nd2) w h3 h4 hv.out).mono ?_
  rintro e w' ⟨A,c,rfl,hn,hb⟩;go_wp2;go_ret
  exact ⟨A,c,rfl,hn,hb⟩
 ·have hmk:∀ w:World,(Instr.makeSlice 85 (.int .i64 (((zAc B32 a).length:Int)+((zAc B32 b).length:Int))) (.int .i64 (((zAc B32 a).length:Int)+((zAc B32 b).length:Int)))).run Tryz.prog w =
    .ok (.slice (some ⟨w.heap.size,0,none⟩) ((zAc B32 a).length+(zAc B32 b).length) ((zAc B32 a).length+(zAc B32 b).length)) (w.alloc (.cells (Array.replicate ((zAc B32 a).length+(zAc B32 b).length) (.int .u32 0)) 197)) :=
   mk_nat ((zAc B32 a).length+(zAc B32 b).length) za
  by_cases ha:(zAc B32 a).length≤2
  case' pos =>
   have hb:2<(zAc B32 b).length:=za
   go_enter Tryz.func119,Tryz.ntmps119
   go_wp2_with fail
   with_reducible refine (zCC A c a _ h ha).mono ?_
   rintro e w' ⟨rfl,nd,rfl⟩
   go_wp2_with fail
   with_reducible refine (small_no A2 c2 b _ (h2.drewN nd) hb za).mono ?_
   rintro e w' ⟨rfl,nd2,rfl⟩;rw [World.drewN_drewN];clear hb;generalize nd+nd2=nd
  case' neg =>
   go_enter Tryz.func119,Tryz.ntmps119
   go_wp2_with fail
   with_reducible refine (small_no A c a _ h za za).mono ?_
   rintro e w' ⟨rfl,nd,rfl⟩
  all_goals
   clear ha h1;unfold ntV;go_wp2;clear hmk;have hnew:=zBN.new (w.drewN nd) ((zAc B32 a).length+(zAc B32 b).length);have hbel:Below w.heap.size w ((w.drewN nd).alloc (.cells (Array.replicate ((zAc B32 a).length+(zAc B32 b).length) (.int .u32 0)) 197)):=(zAd (Below.refl _ _) nd).alloc (Nat.le_refl _) _;have hg0:(w.drewN nd).heap.size=w.heap.size:=rfl;rw [hg0] at hnew;clear hg0;obtain ⟨g,hg⟩:∃ g,g=w.heap.size:=⟨_,rfl⟩;rw [←hg] at hnew;obtain ⟨w1,hw1⟩:∃ w1,w1=(w.drewN nd).alloc (.cells (Array.replicate ((zAc B32 a).length+(zAc B32 b).length) (.int .u32 0)) 197):=⟨_,rfl⟩;rw [←hw1] at hnew hbel;rw [←hg,←hw1];have HG:=zq hg;have HB:=zq hbel;clear hg hbel hw1;have hl:=zAE zAo a;have hr:=zAE zAo b;have HVA:=zq (zAj zAo a);have HVB:=zq (zAj zAo b);obtain ⟨h,hcap⟩:=h;obtain ⟨h2,hcap2⟩:=h2;generalize zAc B32 a=l at *;generalize zAc B32 b=r at *
   go_loopg [55] l.length (MulRel w g l r)
   case atStart=>exact ⟨0,List.replicate (l.length+r.length) 0,za,rfl,hnew,zd,WLt.zeros zBT _,by rw [wval_zeros];simp [zAf],fun x hx _=>zd,HB.o,ya⟩
   case round =>
    obtain ⟨k,L,hkm,rfl,hA,hL,hLt,hV,hZ,hbw,hwg⟩:=hrel;have HM:=zq hkm;have HV:=zq hV;have HZ:=zq hZ;have HL:=zq hL;clear hkm hV hZ hL
    by_cases hlt:k<l.length
    ·obtain ⟨b1,o1,hA0,hb1,hcl⟩:=(h.below hbw).at_ za
     subst hA0;have hc0:=hcl k hlt;rw [zBr] at hc0;have hx:l[k]<4294967296:=hl.get k hlt;clear hcl;go_wp2;clear hc0;obtain ⟨wo,hwo⟩:∃ wo:World,wo=wr:=⟨_,rfl⟩;subst hwo
     go_loopg [14,62] r.length (MulRel2 w g l r k l[k])
     case atStart=>exact ⟨0,0,L,za,rfl,rfl,za,hA,HL.o,hLt,by rw [HV.o];simp [zAf],HZ.o,hbw,hwg⟩
     case round =>
      clear hA hbw;obtain ⟨j,cy,L2,hjm,rfl,rfl,hcy,hA2,hL2,hLt2,hV2,hZ2,hbw2,hwg2⟩:=hrel;have HM2:=zq hjm;have HV2:=zq hV2;have HZ2:=zq hZ2;have HL2:=zq hL2;clear hjm hV2 hZ2 hL2
      by_cases hj:j<r.length
      ·obtain ⟨b2,o2,hA02,hb2,hcl2⟩:=(h2.below hbw2).at_ za
       subst hA02;have hc2:=hcl2 j hj;rw [zBr] at hc2;have hy:r[j]<4294967296:=hr.get j hj;have hkj:k+j<L2.length:=by have:=HL2.o;omega
       have hz:L2[k+j]<4294967296:=hLt2.get (k+j) hkj;have hc1:=hA2.cell (k+j) hkj;have hf1:=hA2.frozen (k+j);have hxy0:l[k]*r[j]≤4294967295*4294967295:=Nat.mul_le_mul za za
       have hxy:(l[k]:Int)*(r[j]:Int)≤18446744065119617025:=by
        have:((l[k]*r[j]:Nat):Int)≤((4294967295*4294967295:Nat):Int):=za
        rwa [Int.natCast_mul] at this
       have hxy2:0≤(l[k]:Int)*(r[j]:Int):=Int.mul_nonneg za za;clear hcl2 hxy0;go_wp2
       go_roundg (gk - 1)
       case measure=>have:=HM2.o;omega
       case rel=>exact MulRel2.step HM2.o hj hlt hcy za hA2 HL2.o hr hLt2 HV2.o HZ2.o hbw2 hwg2 rfl zd rfl zd
      ·obtain rfl:j=r.length:=by have:=HM2.o;omega
       have hkj:k+r.length<L2.length:=by have:=HL2.o;omega
       have hc1:=hA2.cell (k+r.length) hkj;have hf1:=hA2.frozen (k+r.length);go_wp2
       go_roundg (l.length - k - 1)
       case measure=>have:=HM.o;omega
       case rel=>exact MulRel.next za hlt hcy hA2 HL2.o hLt2 HV2.o HZ2.o hbw2 hwg2 rfl rfl
    ·obtain rfl:k=l.length:=by have:=HM.o;omega
     go_wp2_with fail
     have HT:Hid (zAf B32 L=a*b):=by
      show zAf B32 L=_
      have:=HV.o
      rwa [List.take_of_length_le (Nat.le_refl _),HVA.o,HVB.o] at this
     have hl2:=HL.o;rw [←hl2];with_reducible refine (trim_n _ _ L _ w za (Nat.le_refl _) (by have:=hA.rd L.length;rwa [List.take_length] at this) hLt hbw HT.o).mono ?_
     rintro e w' ⟨A,c,rfl,hn,hb⟩;clear hl2;go_wp2;go_ret
     exact ⟨A,c,rfl,hn,hb⟩
def GivesNN (q r:Nat) (w:World) (e:Ending) (w':World):Prop :=
 ∃ A c A2 c2,e = .returned (.tuple #[ntV A c q,ntV A2 c2 r])∧Nt w' A c q∧Nt w' A2 c2 r∧Below w.heap.size w w'
def DwRel (w:World) (g:Nat) (l:List Nat) (b:Nat) (m:Nat) (rv iv:Value) (wr:World):Prop :=
 ∃ (rr:Nat) (Q:List Nat) (z:Int),m≤l.length∧z=(m:Int) - 1∧iv = .int .i64 z∧rv = .int .u64 (rr:Int)∧rr<b∧zBN wr g Q∧Q.length=l.length∧WLt B32 Q ∧
  zAf B32 (l.drop m)=zAf B32 (Q.drop m)*b+rr∧Below w.heap.size w wr∧w.heap.size≤g
theorem DwRel.step {w wr:World} {g:Nat} {l Q:List Nat} {j b rr X:Nat} (hj:j<l.length) (hrr:rr<b) (hA:zBN wr g Q) (hQ:Q.length=l.length) (hLt:WLt B32 Q) (hb:b≤4294967295)
  (hV:zAf B32 (l.drop (j+1))=zAf B32 (Q.drop (j+1))*b+rr) (hbw:Below w.heap.size w wr) (hwg:w.heap.size≤g) (hX:X=l[j]+4294967296*rr) (hl:l[j]<4294967296)
  {rv iv mv:Value} (hi:iv = .int .i64 ((j:Int) - 1)) (hr:rv = .int .u64 ((X % b:Nat):Int)) (hm:mv = .int .u32 ((X / b:Nat):Int)):DwRel w g l b j rv iv (wr.setCell ⟨g,j,none⟩ mv):=by
 subst hi hr hm;have hq:X / b<B32:=quot_lt (B:=B32) (by rw [hX];exact next_lt (B:=B32) hrr hl)
 refine ⟨X % b,Q.set j (X / b),_,za,rfl,rfl,rfl,Nat.mod_lt _ za,hA.set j _,by simpa using hQ,hLt.set hq j,?_,hbw.setCell hwg _,hwg⟩
 rw [zDx Q j _ za,zAf,zCU hj,hV];have h1:=Nat.div_add_mod X b;have h2:B32*(zAf B32 (Q.drop (j+1))*b+rr)=B32*zAf B32 (Q.drop (j+1))*b+4294967296*rr:=by rw [Nat.mul_add,Nat.mul_assoc];rfl
 rw [h2,Nat.add_mul,Nat.mul_comm (X / b)];omega
theorem divWord_c (A:Option Addr) (c a b:Nat) (w:World) (h:Nt w A c a) (hn:(zAc B32 a).length≤900000000) (hb1:1≤b) (hb2:b≤4294967295) :
  Calls Tryz.prog 165 #[ntV A c a,.int .u64 (b:Int)] w (GivesNN (a / b) (a % b) w):=by
 have hmk:∀ w:World,(Instr.makeSlice 85 (.int .i64 ((zAc B32 a).length:Int)) (.int .i64 ((zAc B32 a).length:Int))).run Tryz.prog w =
   .ok (.slice (some ⟨w.heap.size,0,none⟩) (zAc B32 a).length (zAc B32 a).length) (w.alloc (.cells (Array.replicate (zAc B32 a).length (.int .u32 0)) 197)):=mk_nat _ za
 unfold ntV;have hl:=zAE zAo a;have HVA:=zq (zAj zAo a);obtain ⟨h,hcap⟩:=h;generalize zAc B32 a=l at *
 go_enter Tryz.func165,Tryz.ntmps165
 go_wp2;clear hmk;have hnew:=zBN.new w l.length;have hbel:Below w.heap.size w (w.alloc (.cells (Array.replicate l.length (.int .u32 0)) 197)):=(Below.refl _ _).alloc (Nat.le_refl _) _;obtain ⟨g,hg⟩:∃ g,g=w.heap.size:=⟨_,rfl⟩;rw [←hg] at hnew;obtain ⟨w1,hw1⟩:∃ w1,w1=w.alloc (.cells (Array.replicate l.length (.int .u32 0)) 197):=⟨_,rfl⟩;rw [←hw1] at hnew hbel;rw [←hg,←hw1];have HG:=zq hg;have HB:=zq hbel;clear hg hbel hw1
 go_loopg [7,8] l.length (DwRel w g l b)
 case atStart=>exact ⟨0,List.replicate l.length 0,_,Nat.le_refl _,rfl,rfl,rfl,za,hnew,zd,WLt.zeros zBT _,by rw [List.drop_of_length_le (Nat.le_refl _),List.drop_of_length_le zd];simp [zAf],HB.o,ya⟩
 case round =>
  obtain ⟨rr,Q,z,hm,hz,rfl,rfl,hrr,hA,hQ,hLt,hV,hbw,hwg⟩:=hrel;have HV:=zq hV;have HQ:=zq hQ;clear hV hQ
  rcases Nat.eq_zero_or_pos gk with h0 | h0
  ·subst h0
   obtain rfl:z = -1:=hz
   have HT:Hid (zAf B32 Q=a / b∧rr=a % b):=by
    have h1:=HV.o;rw [List.drop_zero,List.drop_zero,HVA.o] at h1;have h2:=Nat.div_mod_unique (a:=a) (b:=b) (c:=rr) (d:=zAf B32 Q) za;have h3:=h2.2 ⟨by rw [h1,Nat.mul_comm b];omega,hrr⟩
    exact ⟨h3.1.symm,h3.2.symm⟩
   go_wp2_with fail
   have hq2:=HQ.o;rw [←hq2];with_reducible refine (trim_n _ _ Q _ w za (Nat.le_refl _) (by have:=hA.rd Q.length;rwa [List.take_length] at this) hLt hbw HT.o.1).mono ?_
   rintro e w' ⟨A1,c1,rfl,hn1,hb1'⟩;clear hq2
   go_wp2_with fail
   have hnat:=natOf_c rr w' za;rw [HT.o.2] at hnat;rw [HT.o.2];with_reducible refine hnat.mono ?_
   rintro e w'' ⟨A2,c2,rfl,hn2,hb2'⟩;clear hnat;go_wp2;go_ret2
   exact ⟨A1,c1,A2,c2,rfl,hn1.below hb2',hn2,hb1'.trans (hb2'.mono hb1'.size)⟩
  ·obtain ⟨j,rfl⟩:∃ j,gk=j+1:=⟨gk - 1,za⟩
   obtain rfl:z=(j:Int):=za;clear hz;have hj:j<l.length:=za;obtain ⟨b1,o1,hA0,hb,hcl⟩:=(h.below hbw).at_ za;subst hA0;have hc0:=hcl j hj;rw [zBr] at hc0;have hx:l[j]<4294967296:=hl.get j hj;have hjQ:j<Q.length:=by have:=HQ.o;omega
   have hc1:=hA.cell j hjQ;have hf1:=hA.frozen j;clear hcl;obtain ⟨X,hX⟩:∃ X,X=l[j]+4294967296*rr:=⟨_,rfl⟩;have hor:bits .or .u64 ((rr:Int)*4294967296) (l[j]:Int)=(X:Int):=by rw [or_u64' l[j] rr hx za,hX];simp
   have hX1:X≤18446744073709551615:=za
   have hq0:X / b≤4294967295:=by
    have:X / b<B32:=quot_lt (B:=B32) (by rw [hX];exact next_lt (B:=B32) hrr hx)
    rw [zCg] at this;omega
   have hq1:(X:Int) / (b:Int)≤4294967295:=by rw [←Int.natCast_ediv];omega
   have hq2:0≤(X:Int) / (b:Int):=Int.ediv_nonneg (Int.natCast_nonneg X) (Int.natCast_nonneg b);have HX:=zq hX;clear hX hq0;go_wp2
   go_roundg j
   case measure=>omega
   case rel=>exact DwRel.step hj hrr hA HQ.o hLt hb2 HV.o hbw hwg HX.o hx rfl rfl rfl
theorem left_nat {x s h:Nat} (hs:s<32) (hh:h<2 ^ s):(h ||| x*2 ^ s % 4294967296)=h+x*2 ^ s % 4294967296∧h+x*2 ^ s % 4294967296<4294967296:=by
 have e1:(4294967296:Nat)=2 ^ (32 - s)*2 ^ s:=by rw [←Nat.pow_add,show 32 - s+s=32 by omega]
 have e2:x*2 ^ s % 4294967296=(x % 2 ^ (32 - s))*2 ^ s:=by rw [e1,Nat.mul_mod_mul_right]
 have e3:=Nat.two_pow_add_eq_or_of_lt (i:=s) (b:=h) hh (x % 2 ^ (32 - s));have e4:x % 2 ^ (32 - s)+1≤2 ^ (32 - s):=Nat.mod_lt _ (Nat.two_pow_pos _);have e5:(x % 2 ^ (32 - s)+1)*2 ^ s≤2 ^ (32 - s)*2 ^ s:=Nat.mul_le_mul_right _ e4;rw [←e1,Nat.add_mul,Nat.one_mul] at e5;rw [e2];refine ⟨?_,za⟩
 rw [Nat.or_comm,Nat.mul_comm,←e3,Nat.add_comm]
theorem left_or {x s h:Nat} (hs:s<32) (hh:h<2 ^ s):bits .or .u32 (h:Int) (((x*2 ^ s:Nat):Int) % 4294967296)=((h+x*2 ^ s % 4294967296:Nat):Int):=by
 have e:(((x*2 ^ s:Nat):Int) % 4294967296)=((x*2 ^ s % 4294967296:Nat):Int):=rfl;obtain ⟨h1,h2⟩:=left_nat (x:=x) hs hh;rw [e,u32_or_nat _ _ za za,h1]
def LfRel (w:World) (g:Nat) (l:List Nat) (D:Nat) (m:Nat) (iv:Value) (wr:World):Prop :=
 ∃ (k:Nat) (L:List Nat),k+m=l.length∧iv = .int .i64 k∧zBN wr g L∧L.length=l.length+1∧WLt B32 L∧zAf B32 L=zAf B32 (l.take k)*D∧(∀ x (h:x<L.length),k+1≤x→L[x]=0) ∧
  (∀ h:k<L.length,L[k]<D)∧Below w.heap.size w wr∧w.heap.size≤g
def GivesBlk (n v:Nat) (w:World) (e:Ending) (w':World):Prop :=
 ∃ g L,e = .returned (.slice (some ⟨g,0,none⟩) n n)∧zBN w' g L∧L.length=n∧WLt B32 L∧zAf B32 L=v∧Below w.heap.size w w'∧w.heap.size≤g
theorem left_l (A:Option Addr) (c s:Nat) (l:List Nat) (w:World) (h:Wds w A l) (hl:WLt B32 l) (hn:l.length≤900000000) (hs:s<32) :
  Calls Tryz.prog 226 #[.slice A l.length c,.int .u64 (s:Int)] w (GivesBlk (l.length+1) (zAf B32 l*2 ^ s) w):=by
 have hmk:∀ w:World,(Instr.makeSlice 85 (.int .i64 ((l.length:Int)+1)) (.int .i64 ((l.length:Int)+1))).run Tryz.prog w =
   .ok (.slice (some ⟨w.heap.size,0,none⟩) (l.length+1) (l.length+1)) (w.alloc (.cells (Array.replicate (l.length+1) (.int .u32 0)) 197)):=mk_nat (l.length+1) za
 go_enter Tryz.func226,Tryz.ntmps226
 go_wp2;clear hmk;have hnew:=zBN.new w (l.length+1);have hbel:Below w.heap.size w (w.alloc (.cells (Array.replicate (l.length+1) (.int .u32 0)) 197)):=(Below.refl _ _).alloc (Nat.le_refl _) _;obtain ⟨g,hg⟩:∃ g,g=w.heap.size:=⟨_,rfl⟩;rw [←hg] at hnew;obtain ⟨w1,hw1⟩:∃ w1,w1=w.alloc (.cells (Array.replicate (l.length+1) (.int .u32 0)) 197):=⟨_,rfl⟩;rw [←hw1] at hnew hbel;rw [←hg,←hw1];have HG:=zq hg;have HB:=zq hbel;clear hg hbel hw1;obtain ⟨D,hD⟩:∃ D,D=2 ^ s:=⟨_,rfl⟩;have hD1:1≤D:=by rw [hD];exact Nat.two_pow_pos s
 have HD:=zq hD;clear hD
 go_loopg [15] l.length (LfRel w g l D)
 case atStart=>exact ⟨0,List.replicate (l.length+1) 0,za,rfl,hnew,zd,WLt.zeros zBT _,by rw [wval_zeros];simp [zAf],fun x hx _=>zd,fun hx=>ze,HB.o,ya⟩
 case round =>
  obtain ⟨k,L,hkm,rfl,hA,hL,hLt,hV,hZ,hT,hbw,hwg⟩:=hrel;have HM:=zq hkm;have HV:=zq hV;have HZ:=zq hZ;have HL:=zq hL;have HT:=zq hT;clear hkm hV hZ hL hT
  by_cases hlt:k<l.length
  ·have hkL:k<L.length:=by have:=HL.o;omega
   have hkL1:k+1<L.length:=by have:=HL.o;omega
   obtain ⟨b,o,hA0,hb,hcl⟩:=(h.below hbw).at_ za;subst hA0;have hc0:=hcl k hlt;rw [zBr] at hc0;have hx:l[k]<4294967296:=hl.get k hlt;have hc1:=hA.cell k hkL;have hf1:=hA.frozen k;have hc2:=hA.cell (k+1) hkL1;have hf2:=hA.frozen (k+1);clear hcl;have hh:L[k]<2 ^ s:=by have:=HT.o hkL;rwa [HD.o] at this
   have hDB:D≤2147483648:=by
    rw [HD.o];exact Nat.le_trans (Nat.pow_le_pow_right za (show s≤31 by omega)) zc
   obtain ⟨y,hy⟩:∃ y,y=l[k]*2 ^ s:=⟨_,rfl⟩;have hyB:y<4294967296*D:=by rw [hy,HD.o];exact Nat.mul_lt_mul_of_pos_right hx (Nat.two_pow_pos s)
   have hy2:y≤9223372036854775807:=za
   have hwr:IntKind.u64.wrap ((l[k]:Int)*2 ^ s)=(y:Int):=by
    have e:(l[k]:Int)*2 ^ s=(y:Int):=by rw [hy,Int.natCast_mul,Int.natCast_pow];rfl
    rw [e];exact IntWalk.u64_in _ za
   obtain ⟨z,hz⟩:∃ z,z=L[k]+y % 4294967296:=⟨_,rfl⟩;have hor:bits .or .u32 (L[k]:Int) ((y:Int) % 4294967296)=(z:Int):=by rw [hz,hy];exact left_or hs hh
   have hzB:z<4294967296:=by rw [hz,hy];exact (left_nat hs hh).2
   have HY:=zq hy;have HZ2:=zq hz;have HH:=zq hh;have HYB:=zq hyB;clear hy hz hh hyB hDB;go_wp2
   go_roundg (gk - 1)
   case measure=>have:=HM.o;omega
   case rel =>
    clear hor hwr;refine ⟨k+1,(L.set k z).set (k+1) (y / 4294967296),zx,zi,(hA.set k z).set (k+1) _,by simpa using HL.o,(hLt.set ym k).set ym _,?_,fun i hi hki=>?_,fun hi=>?_,(hbw.setCell hwg _).setCell hwg _,hwg⟩
    ·have e1:=zDF B32 L k z hkL
     have e2:=zDF B32 (L.set k z) (k+1) (y / 4294967296) (by simpa using hkL1)
     rw [List.getElem_set_ne za,HZ.o (k+1) hkL1 (Nat.le_refl _)] at e2;rw [zAr hlt,Nat.add_mul,←HV.o]
     have e3:B32 ^ k*(y % 4294967296)+B32 ^ (k+1)*(y / 4294967296)=B32 ^ k*y:=by
      rw [Nat.pow_succ,Nat.mul_assoc,←Nat.mul_add,zCg,Nat.mod_add_div]
     have e4:B32 ^ k*l[k]*D=B32 ^ k*y:=by rw [Nat.mul_assoc,HY.o,HD.o]
     have e5:B32 ^ k*z=B32 ^ k*L[k]+B32 ^ k*(y % 4294967296):=by rw [HZ2.o,Nat.mul_add]
     rw [e4];omega
    ·rw [List.getElem_set_ne za,List.getElem_set_ne za]
     exact HZ.o i yh za
    ·have h1:=HYB.o
     simp
     omega
  ·obtain rfl:k=l.length:=by have:=HM.o;omega
   have hVV:=HV.o;rw [List.take_of_length_le (Nat.le_refl _),HD.o] at hVV;have HVV:=zq hVV;clear hVV;go_wp2;go_ret
   exact ⟨g,L,rfl,hA,HL.o,hLt,HVV.o,hbw,hwg⟩
end Go.Proofs.YtieoifkdobcpiaaGreatDoor
