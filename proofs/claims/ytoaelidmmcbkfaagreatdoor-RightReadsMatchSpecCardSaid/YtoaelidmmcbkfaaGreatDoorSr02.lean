/- Parts of the proof, joined: Package num: Add and sub. DERIVED: THE SHELF's CONTRACTS AT THIS DUMP,. -/
import Derived.Test.YtoaelidmmcbkfaaGreatDoorSr01
import Derived.Ground.NamesProg
import Derived.Shelf.Small.Bits
import Derived.Shelf.Bits.Mul64
import Derived.Laws.CopyOwn
import Derived.Deep.DeepCutAuto
import Derived.Deep.RegionHeld3
import Derived.StillTailTactics
set_option maxRecDepth 100000
set_option maxHeartbeats 8000000
namespace Go.Proofs.YtoaelidmmcbkfaaGreatDoor
open Go.RowKit Dw
def AddRel (w:World) (g:Nat) (l r:List Nat) (m:Nat) (cv iv:Value) (wr:World):Prop :=
 ∃ (k cy:Nat) (L:List Nat),k+m=l.length∧iv = .int .i64 k∧cv = .int .u64 (cy:Int)∧cy≤1∧zCj wr g L∧L.length=l.length+1∧WLt B32 L ∧
  zAi B32 (L.take k)+B32 ^ k*cy=zAi B32 (l.take k)+zAi B32 (r.take k)∧(∀ x (h:x<L.length),k≤x→L[x]=0)∧Below w.heap.size w wr∧w.heap.size≤g
theorem wval_put {L:List Nat} {k x:Nat} (h:k<L.length):zAi B32 ((L.set k x).take (k+1))=zAi B32 (L.take k)+B32 ^ k*x:=by
 rw [take_set_succ L k x h,zAY,zBR,bE,bF za]
theorem zeros_set {L:List Nat} {k x:Nat} (h:∀ i (h:i<L.length),k≤i→L[i]=0):∀ i (h:i<(L.set k x).length),k+1≤i→(L.set k x)[i]=0:=fun i hi hk=>by
 rw [cR za];exact h i jc za
theorem modB (s:Nat):s % 4294967296<B32:=bA _ zc
theorem AddRel.step {w wr:World} {g:Nat} {l r L:List Nat} {k cy gk s y:Nat} (hkm:k+gk=l.length) (hlt:k<l.length) (hA:zCj wr g L) (hL:L.length=l.length+1) (hLt:WLt B32 L)
  (hV:zAi B32 (L.take k)+B32 ^ k*cy=zAi B32 (l.take k)+zAi B32 (r.take k)) (hZ:∀ x (h:x<L.length),k≤x→L[x]=0) (hbw:Below w.heap.size w wr) (hwg:w.heap.size≤g)
  (hy:zAi B32 (r.take (k+1))=zAi B32 (r.take k)+B32 ^ k*y) (hs:s=cy+l[k]+y) (hs2:s≤8589934591) {cv iv mv:Value} (hc:cv = .int .u64 ((s / 4294967296:Nat):Int)) (hi:iv = .int .i64 ((k:Int)+1)) (hm:mv = .int .u32 ((s % 4294967296:Nat):Int)) :
  AddRel w g l r (gk - 1) cv iv (wr.setCell ⟨g,k,none⟩ mv):=by
 subst hc hi hm;refine ⟨k+1,s / 4294967296,L.set k (s % 4294967296),za,zn,rfl,za,hA.set k _,by simpa using hL,hLt.set (modB s) k,?_,zeros_set hZ,hbw.setCell hwg _,hwg⟩
 rw [wval_put za,hy,zAH hlt];exact add_col hV hs
theorem Add_l (A A2:Option Addr) (c c2:Nat) (l r:List Nat) (w:World) (h:Wds w A l) (h2:Wds w A2 r) (hl:WLt B32 l) (hr:WLt B32 r) (hn:l.length≤900000000) (he:r.length≤l.length) :
  Calls Tryz.prog 208 #[.slice A l.length c,.slice A2 r.length c2] w (GivesN (zAi B32 l+zAi B32 r) w):=by
 have hltb:decide (l.length<r.length)=false:=cQ za;have hmk:∀ w:World,(Instr.makeSlice 154 (.int .i64 ((l.length:Int)+1)) (.int .i64 ((l.length:Int)+1))).run Tryz.prog w = .ok (.slice (some ⟨w.heap.size,0,none⟩) (l.length+1) (l.length+1)) (w.alloc (.cells (Array.replicate (l.length+1) (.int .u32 0)) 213)):=mk_nat (l.length+1) za
 go_enter Tryz.func208,Tryz.ntmps208
 go_wp2;clear hmk;have hnew:=zCj.new w (l.length+1);have hbel:Below w.heap.size w (w.alloc (.cells (Array.replicate (l.length+1) (.int .u32 0)) 213)):=(bS _ _).alloc (aB _) _;obtain ⟨g,hg⟩:∃ g,g=w.heap.size:=⟨_,rfl⟩;rw [←hg] at hnew;obtain ⟨w1,hw1⟩:∃ w1,w1=w.alloc (.cells (Array.replicate (l.length+1) (.int .u32 0)) 213):=⟨_,rfl⟩;rw [←hw1] at hnew hbel;rw [←hg,←hw1];have HG:=zq hg;have HB:=zq hbel;clear hg hbel hw1
 go_loopg [6,21] l.length (AddRel w g l r)
 case atStart=>exact ⟨0,0,List.replicate (l.length+1) 0,za,rfl,rfl,za,hnew,zd,WLt.zeros zCw _,vh,fun x hx _=>zd,HB.o,qy⟩
 case round =>
  obtain ⟨k,cy,L,hkm,rfl,rfl,hcy,hA,hL,hLt,hV,hZ,hbw,hwg⟩:=hrel;have HM:=zq hkm;have HV:=zq hV;have HZ:=zq hZ;have HL:=zq hL;clear hkm hV hZ hL
  by_cases hlt:k<l.length
  ·have hkL:k<L.length:=by have:=HL.o;omega
   obtain ⟨b,o,hA0,hb,hcl⟩:=(h.below hbw).at_ za;subst hA0;have hc0:=hcl k hlt;rw [zCb] at hc0;have hx:l[k]<4294967296:=hl.get k hlt;have hc1:=hA.cell k hkL;have hf1:=hA.frozen k;clear hcl
   by_cases hlr:k<r.length
   ·obtain ⟨b2,o2,hA2,hb2,hcl2⟩:=(h2.below hbw).at_ za
    subst hA2;have hc2:=hcl2 k hlr;rw [zCb] at hc2;have hy:r[k]<4294967296:=hr.get k hlr;clear hcl2;go_wp2
    go_roundg (gk - 1)
    case measure=>have:=HM.o;omega
    case rel=>exact AddRel.step HM.o hlt hA HL.o hLt HV.o HZ.o hbw hwg (zAH hlr) rfl za zd rfl zd
   ·have HR:Hid (zAi B32 (r.take (k+1))=zAi B32 (r.take k)+B32 ^ k*0):=by
     show zAi B32 (r.take (k+1))=zAi B32 (r.take k)+B32 ^ k*0
     rw [cS za,cS za];simp
    go_wp2
    go_roundg (gk - 1)
    case measure=>have:=HM.o;omega
    case rel=>exact AddRel.step HM.o hlt hA HL.o hLt HV.o HZ.o hbw hwg HR.o (s:=cy+l[k]) rfl za zd rfl zd
  ·obtain rfl:k=l.length:=by have:=HM.o;omega
   have hkL:l.length<L.length:=by have:=HL.o;omega
   have hc1:=hA.cell l.length hkL;have hf1:=hA.frozen l.length
   go_wp2_with fail
   have HT:Hid (zAi B32 (L.set l.length cy)=zAi B32 l+zAi B32 r):=by
    have e:L.set l.length cy=(L.set l.length cy).take (l.length+1):=by rw [cS (by rw [List.length_set,HL.o];omega)]
    show zAi B32 (L.set l.length cy)=_
    rw [e,wval_put hkL];have:=HV.o
    rwa [cS (aB _),cS he] at this
   have hA2:=hA.set l.length cy;have hl2:(L.set l.length cy).length=l.length+1:=by rw [List.length_set,HL.o]
   rw [←hl2];with_reducible refine (trim_n _ _ (L.set l.length cy) _ w za (aB _) (by have:=hA2.rd (L.set l.length cy).length;rwa [bM] at this) (hLt.set jj _) (hbw.setCell hwg _) HT.o).mono ?_
   rintro e w' ⟨A,c,rfl,hn,hb⟩;clear hl2 hA2;go_wp2;go_ret
   exact ⟨A,c,rfl,hn,hb⟩
theorem Add_s (A A2:Option Addr) (c c2:Nat) (l r:List Nat) (w:World) (h:Wds w A l) (h2:Wds w A2 r) (hl:WLt B32 l) (hr:WLt B32 r) (hn:l.length≤900000000) (he:r.length<l.length) :
  Calls Tryz.prog 208 #[.slice A2 r.length c2,.slice A l.length c] w (GivesN (zAi B32 l+zAi B32 r) w):=by
 have hltb:decide (r.length<l.length)=true:=cP he;have hmk:∀ w:World,(Instr.makeSlice 154 (.int .i64 ((l.length:Int)+1)) (.int .i64 ((l.length:Int)+1))).run Tryz.prog w = .ok (.slice (some ⟨w.heap.size,0,none⟩) (l.length+1) (l.length+1)) (w.alloc (.cells (Array.replicate (l.length+1) (.int .u32 0)) 213)):=mk_nat (l.length+1) za
 go_enter Tryz.func208,Tryz.ntmps208
 go_wp2;clear hmk;have hnew:=zCj.new w (l.length+1);have hbel:Below w.heap.size w (w.alloc (.cells (Array.replicate (l.length+1) (.int .u32 0)) 213)):=(bS _ _).alloc (aB _) _;obtain ⟨g,hg⟩:∃ g,g=w.heap.size:=⟨_,rfl⟩;rw [←hg] at hnew;obtain ⟨w1,hw1⟩:∃ w1,w1=w.alloc (.cells (Array.replicate (l.length+1) (.int .u32 0)) 213):=⟨_,rfl⟩;rw [←hw1] at hnew hbel;rw [←hg,←hw1];have HG:=zq hg;have HB:=zq hbel;clear hg hbel hw1
 go_loopg [6,21] l.length (AddRel w g l r)
 case atStart=>exact ⟨0,0,List.replicate (l.length+1) 0,za,rfl,rfl,za,hnew,zd,WLt.zeros zCw _,vh,fun x hx _=>zd,HB.o,qy⟩
 case round =>
  obtain ⟨k,cy,L,hkm,rfl,rfl,hcy,hA,hL,hLt,hV,hZ,hbw,hwg⟩:=hrel;have HM:=zq hkm;have HV:=zq hV;have HZ:=zq hZ;have HL:=zq hL;clear hkm hV hZ hL
  by_cases hlt:k<l.length
  ·have hkL:k<L.length:=by have:=HL.o;omega
   obtain ⟨b,o,hA0,hb,hcl⟩:=(h.below hbw).at_ za;subst hA0;have hc0:=hcl k hlt;rw [zCb] at hc0;have hx:l[k]<4294967296:=hl.get k hlt;have hc1:=hA.cell k hkL;have hf1:=hA.frozen k;clear hcl
   by_cases hlr:k<r.length
   ·obtain ⟨b2,o2,hA2,hb2,hcl2⟩:=(h2.below hbw).at_ za
    subst hA2;have hc2:=hcl2 k hlr;rw [zCb] at hc2;have hy:r[k]<4294967296:=hr.get k hlr;clear hcl2;go_wp2
    go_roundg (gk - 1)
    case measure=>have:=HM.o;omega
    case rel=>exact AddRel.step HM.o hlt hA HL.o hLt HV.o HZ.o hbw hwg (zAH hlr) rfl za zd rfl zd
   ·have HR:Hid (zAi B32 (r.take (k+1))=zAi B32 (r.take k)+B32 ^ k*0):=by
     show zAi B32 (r.take (k+1))=zAi B32 (r.take k)+B32 ^ k*0
     rw [cS za,cS za];simp
    go_wp2
    go_roundg (gk - 1)
    case measure=>have:=HM.o;omega
    case rel=>exact AddRel.step HM.o hlt hA HL.o hLt HV.o HZ.o hbw hwg HR.o (s:=cy+l[k]) rfl za zd rfl zd
  ·obtain rfl:k=l.length:=by have:=HM.o;omega
   have hkL:l.length<L.length:=by have:=HL.o;omega
   have hc1:=hA.cell l.length hkL;have hf1:=hA.frozen l.length
   go_wp2_with fail
   have HT:Hid (zAi B32 (L.set l.length cy)=zAi B32 l+zAi B32 r):=by
    have e:L.set l.length cy=(L.set l.length cy).take (l.length+1):=by rw [cS (by rw [List.length_set,HL.o];omega)]
    show zAi B32 (L.set l.length cy)=_
    rw [e,wval_put hkL];have:=HV.o
    rwa [cS (aB _),cS (bG he)] at this
   have hA2:=hA.set l.length cy;have hl2:(L.set l.length cy).length=l.length+1:=by rw [List.length_set,HL.o]
   rw [←hl2];with_reducible refine (trim_n _ _ (L.set l.length cy) _ w za (aB _) (by have:=hA2.rd (L.set l.length cy).length;rwa [bM] at this) (hLt.set jj _) (hbw.setCell hwg _) HT.o).mono ?_
   rintro e w' ⟨A,c,rfl,hn,hb⟩;clear hl2 hA2;go_wp2;go_ret
   exact ⟨A,c,rfl,hn,hb⟩
theorem Add_c (A A2:Option Addr) (c c2 a b:Nat) (w:World) (h:Nt w A c a) (h2:Nt w A2 c2 b) (hn:(zAe B32 a).length≤900000000) (hm:(zAe B32 b).length≤900000000) :
  Calls Tryz.prog 208 #[ntV A c a,ntV A2 c2 b] w (GivesN (a+b) w):=by
 have e1:=zAw zAJ a;have e2:=zAw zAJ b
 rcases bO (zAe B32 a).length (zAe B32 b).length with h1 | h1
 ·have:=Add_s A2 A c2 c (zAe B32 b) (zAe B32 a) w h2.rd h.rd (zBb zAJ b) (zBb zAJ a) hm h1
  rw [e1,e2,Nat.add_comm] at this;exact this
 ·have:=Add_l A A2 c c2 (zAe B32 a) (zAe B32 b) w h.rd h2.rd (zBb zAJ a) (zBb zAJ b) hn h1
  rw [e1,e2] at this;exact this
end Go.Proofs.YtoaelidmmcbkfaaGreatDoor
namespace Go.Proofs
open Go.Shelf
def Tryz.lays133_ren:Go.Shelf.Ren:=⟨fun | 133=>214 | 128=>217 | n=>n,fun | 51=>213 | 3=>3 | 4=>4 | 46=>175 | 5=>5 | 9=>9 | n=>n,fun | n=>n⟩
theorem Tryz.lays133:Go.Proofs.Lays.n133 Tryz.prog Tryz.lays133_ren:={
 mixed:=zb
 f128:=Tryz.func217.trans (aY some zb)
 f133:=Tryz.func214.trans (aY some zb)
 t3:=Tryz.underlying3
 a3:=Tryz.isAgg3
 z3:=Tryz.sizeOf3
 v3:=Tryz.zeroValue3
 t4:=Tryz.underlying4
 a4:=Tryz.isAgg4
 z4:=Tryz.sizeOf4
 v4:=Tryz.zeroValue4
 t5:=Tryz.underlying5
 a5:=Tryz.isAgg5
 z5:=Tryz.sizeOf5
 v5:=Tryz.zeroValue5
 t9:=Tryz.underlying9
 a9:=Tryz.isAgg9
 z9:=Tryz.sizeOf9
 v9:=Tryz.zeroValue9
 t46:=Tryz.underlying175
 a46:=Tryz.isAgg175
 z46:=Tryz.sizeOf175
 v46:=Tryz.zeroValue175
 t51:=Tryz.underlying213
 a51:=Tryz.isAgg213
 z51:=Tryz.sizeOf213
 v51:=Tryz.zeroValue213 }
def Tryz.lays264_ren:Go.Shelf.Ren:=⟨fun | 264=>204 | n=>n,fun | 53=>198 | 46=>175 | n=>n,fun | n=>n⟩
theorem Tryz.lays264:Go.Proofs.Lays.n264 Tryz.prog Tryz.lays264_ren:={
 mixed:=zb
 f264:=Tryz.func204.trans (aY some zb)
 t46:=Tryz.underlying175
 a46:=Tryz.isAgg175
 z46:=Tryz.sizeOf175
 v46:=Tryz.zeroValue175
 t53:=Tryz.underlying198
 a53:=Tryz.isAgg198
 z53:=Tryz.sizeOf198
 v53:=Tryz.zeroValue198 }
end Go.Proofs
namespace Go.Proofs.YtoaelidmmcbkfaaGreatDoor
open Go.RowKit Dw
theorem zDy (A:Option Addr) (c n:Nat) (w:World) (h:Nt w A c n) (hn:(zAe B32 n).length≤2):Calls Tryz.prog 203 #[ntV A c n] w (zBx (.tuple #[.int .u64 (n:Int),.bool true]) w):=by
 have:=small_c A c n w h za;unfold smV at this;rw [aE hn,cP hn] at this;exact this
theorem small_no (A:Option Addr) (c n:Nat) (w:World) (h:Nt w A c n) (hn:2<(zAe B32 n).length) (hm:(zAe B32 n).length≤1000000000):Calls Tryz.prog 203 #[ntV A c n] w (zBx (.tuple #[.int .u64 0,.bool false]) w):=by
 have:=small_c A c n w h hm;unfold smV at this;rw [aC za,cQ za] at this;exact this
theorem small_lt {n:Nat} (hn:(zAe B32 n).length≤2):n≤18446744073709551615:=by
 have h1:=zBM zAJ n;have h2:B32 ^ (zAe B32 n).length≤B32 ^ 2:=bN zCw hn;have h3:B32 ^ 2=18446744073709551616:=zc;omega
def GivesM (x y:Nat) (w:World) (e:Ending) (w':World):Prop :=
 ∃ hi lo:Nat,e = .returned (.tuple #[.int .u64 (hi:Int),.int .u64 (lo:Int)])∧hi≤18446744073709551615∧lo≤18446744073709551615∧Hid (x*y=lo+18446744073709551616*hi)∧w=w'
theorem mul64_c (x y:Nat) (w:World) (hx:x≤18446744073709551615) (hy:y≤18446744073709551615):Calls Tryz.prog 204 #[.int .u64 (x:Int),.int .u64 (y:Int)] w (GivesM x y w):=by
 have h:=Any.bits_Mul64 Tryz.lays264 x y za za w
 change Calls Tryz.prog 204 _ _ _ at h
 refine h.mono fun e w' ⟨he,hw⟩=>⟨_,_,he,?_,?_,?_,hw.symm⟩
 ·have h1:x*y≤18446744073709551615*18446744073709551615:=Nat.mul_le_mul hx hy
  generalize x*y=p at *;omega
 ·omega
 ·show x*y=_
  generalize x*y=p at *;omega
theorem trim4 (hi lo nd:Nat) (w:World) (h1:hi≤18446744073709551615) (h2:lo≤18446744073709551615) {n:Nat} (hv:n=lo+18446744073709551616*hi):Calls Tryz.prog 205 #[.slice (some ⟨w.heap.size,0,none⟩) 4 4]
  ((w.drewN nd).alloc (.cells #[.int .u32 ((lo:Int) % 4294967296),.int .u32 ((lo:Int) / 4294967296),.int .u32 ((hi:Int) % 4294967296),.int .u32 ((hi:Int) / 4294967296)] 213)) (GivesN n w) :=
 trim_n _ 4 [lo % 4294967296,lo / 4294967296,hi % 4294967296,hi / 4294967296] _ w zd zd (wds_new (w.drewN nd) _ _ (by simp [u32V]))
  (WLt.cons jj (WLt.cons jj (WLt.cons jj (WLt.cons jj WLt.nil)))) ((zAc (bS _ _) nd).alloc (aB _) _) (by
   rw [hv];simp [zAi,zCK];omega)
def MulRel (w:World) (g:Nat) (l r:List Nat) (m:Nat) (iv:Value) (wr:World):Prop :=
 ∃ (k:Nat) (L:List Nat),k+m=l.length∧iv = .int .i64 k∧zCj wr g L∧L.length=l.length+r.length∧WLt B32 L∧zAi B32 L=zAi B32 (l.take k)*zAi B32 r ∧
  (∀ x (h:x<L.length),k+r.length≤x→L[x]=0)∧Below w.heap.size w wr∧w.heap.size≤g
def MulRel2 (w:World) (g:Nat) (l r:List Nat) (k x:Nat) (m:Nat) (cv jv:Value) (wr:World):Prop :=
 ∃ (j cy:Nat) (L:List Nat),j+m=r.length∧jv = .int .i64 j∧cv = .int .u64 (cy:Int)∧cy≤4294967295∧zCj wr g L∧L.length=l.length+r.length∧WLt B32 L ∧
  zAi B32 L+B32 ^ (k+j)*cy=zAi B32 (l.take k)*zAi B32 r+B32 ^ k*(x*zAi B32 (r.take j))∧(∀ x (h:x<L.length),k+r.length≤x→L[x]=0)∧Below w.heap.size w wr∧w.heap.size≤g
theorem MulRel2.step {w wr:World} {g:Nat} {l r L:List Nat} {k x j cy gk t:Nat} (hkm:j+gk=r.length) (hlt:j<r.length) (hk:k<l.length) (hcy:cy≤4294967295) (hx:x≤4294967295) (hA:zCj wr g L) (hL:L.length=l.length+r.length) (hr:WLt B32 r) (hLt:WLt B32 L)
  (hV:zAi B32 L+B32 ^ (k+j)*cy=zAi B32 (l.take k)*zAi B32 r+B32 ^ k*(x*zAi B32 (r.take j))) (hZ:∀ x (h:x<L.length),k+r.length≤x→L[x]=0) (hbw:Below w.heap.size w wr) (hwg:w.heap.size≤g)
  (ht:t=cy+(x*r[j]+L[k+j])) {cv iv mv:Value} (hc:cv = .int .u64 ((t / 4294967296:Nat):Int)) (hi:iv = .int .i64 ((j:Int)+1)) (hm:mv = .int .u32 ((t % 4294967296:Nat):Int)) :
  MulRel2 w g l r k x (gk - 1) cv iv (wr.setCell ⟨g,k+j,none⟩ mv):=by
 subst hc hi hm;have hy:r[j]≤4294967295:=by have:=hr.get j hlt;rw [zCK] at this;omega
 have hz:L[k+j]≤4294967295:=by have:=hLt.get (k+j) za;rw [zCK] at this;omega
 have hxy:x*r[j]≤4294967295*4294967295:=Nat.mul_le_mul hx hy;refine ⟨j+1,t / 4294967296,L.set (k+j) (t % 4294967296),za,zn,rfl,by rw [ht];generalize x*r[j]=p at *;omega,hA.set (k+j) _,by simpa using hL,hLt.set (modB t) _,?_,fun i hi hki=>?_,hbw.setCell hwg _,hwg⟩
 ·have e1:=zEw B32 L (k+j) (t % 4294967296) za
  rw [zAH hlt]
  have e2:B32 ^ (k+j)*(t % 4294967296)+B32 ^ (k+(j+1))*(t / 4294967296)=B32 ^ (k+j)*t:=by
   rw [show k+(j+1)=(k+j)+1 by omega,aR,aU,←aS,zCK,bB]
  have e3:B32 ^ (k+j)*t=B32 ^ (k+j)*cy+B32 ^ (k+j)*(x*r[j])+B32 ^ (k+j)*L[k+j]:=by
   rw [ht,aS,aS,bZ]
  have e4:B32 ^ k*(x*(zAi B32 (r.take j)+B32 ^ j*r[j]))=B32 ^ k*(x*zAi B32 (r.take j))+B32 ^ (k+j)*(x*r[j]):=by
   rw [aS,aS,Nat.pow_add,Nat.mul_left_comm x,aU]
  rw [e4];omega
 ·rw [cR za]
  exact hZ i jc za
theorem MulRel.next {w wr:World} {g:Nat} {l r L:List Nat} {k cy gk:Nat} (hkm:k+1+gk=l.length) (hlt:k<l.length) (hcy:cy≤4294967295) (hA:zCj wr g L) (hL:L.length=l.length+r.length) (hLt:WLt B32 L)
  (hV:zAi B32 L+B32 ^ (k+r.length)*cy=zAi B32 (l.take k)*zAi B32 r+B32 ^ k*(l[k]*zAi B32 (r.take r.length))) (hZ:∀ x (h:x<L.length),k+r.length≤x→L[x]=0) (hbw:Below w.heap.size w wr) (hwg:w.heap.size≤g)
  {iv mv:Value} (hi:iv = .int .i64 ((k:Int)+1)) (hm:mv = .int .u32 (cy:Int)) :
  MulRel w g l r gk iv (wr.setCell ⟨g,k+r.length,none⟩ mv):=by
 subst hi hm;refine ⟨k+1,L.set (k+r.length) cy,za,zn,hA.set _ _,by simpa using hL,hLt.set jj _,?_,fun i hi hki=>?_,hbw.setCell hwg _,hwg⟩
 ·have e1:=zEw B32 L (k+r.length) cy za
  rw [hZ (k+r.length) za (aB _)] at e1;rw [cS (aB _)] at hV;rw [zAH hlt,aV,aU (B32 ^ k)];omega
 ·rw [cR za]
  exact hZ i jc za
theorem Mul_c (A A2:Option Addr) (c c2:Nat) (a b:Nat) (w:World) (h:Nt w A c a) (h2:Nt w A2 c2 b) (hn:(zAe B32 a).length≤400000000) (hm:(zAe B32 b).length≤400000000) :
  Calls Tryz.prog 183 #[ntV A c a,ntV A2 c2 b] w (GivesN (a*b) w):=by
 by_cases h1:(zAe B32 a).length≤2∧(zAe B32 b).length≤2
 ·obtain ⟨ha,hb⟩:=h1
  have la:=small_lt ha;have lb:=small_lt hb
  go_enter Tryz.func183,Tryz.ntmps183
  go_wp2_with fail
  with_reducible refine (zDy A c a _ h ha).mono ?_
  rintro e w' ⟨rfl,nd,rfl⟩
  go_wp2_with fail
  with_reducible refine (zDy A2 c2 b _ (h2.drewN nd) hb).mono ?_
  rintro e w' ⟨rfl,nd2,rfl⟩
  go_wp2_with fail
  with_reducible refine (mul64_c a b _ la lb).mono ?_
  rintro e w' ⟨hi,lo,rfl,h3,h4,hv,rfl⟩
  go_wp2_with fail
  with_reducible refine (trim4 hi lo (nd+nd2) w h3 h4 hv.out).mono ?_
  rintro e w' ⟨A,c,rfl,hn,hb⟩;go_wp2;go_ret
  exact ⟨A,c,rfl,hn,hb⟩
 ·have hmk:∀ w:World,(Instr.makeSlice 154 (.int .i64 (((zAe B32 a).length:Int)+((zAe B32 b).length:Int))) (.int .i64 (((zAe B32 a).length:Int)+((zAe B32 b).length:Int)))).run Tryz.prog w =
    .ok (.slice (some ⟨w.heap.size,0,none⟩) ((zAe B32 a).length+(zAe B32 b).length) ((zAe B32 a).length+(zAe B32 b).length)) (w.alloc (.cells (Array.replicate ((zAe B32 a).length+(zAe B32 b).length) (.int .u32 0)) 213)) :=
   mk_nat ((zAe B32 a).length+(zAe B32 b).length) za
  by_cases ha:(zAe B32 a).length≤2
  case' pos =>
   have hb:2<(zAe B32 b).length:=za
   go_enter Tryz.func183,Tryz.ntmps183
   go_wp2_with fail
   with_reducible refine (zDy A c a _ h ha).mono ?_
   rintro e w' ⟨rfl,nd,rfl⟩
   go_wp2_with fail
   with_reducible refine (small_no A2 c2 b _ (h2.drewN nd) hb za).mono ?_
   rintro e w' ⟨rfl,nd2,rfl⟩;rw [World.drewN_drewN];clear hb;generalize nd+nd2=nd
  case' neg =>
   go_enter Tryz.func183,Tryz.ntmps183
   go_wp2_with fail
   with_reducible refine (small_no A c a _ h za za).mono ?_
   rintro e w' ⟨rfl,nd,rfl⟩
  all_goals
   clear ha h1;unfold ntV;go_wp2;clear hmk;have hnew:=zCj.new (w.drewN nd) ((zAe B32 a).length+(zAe B32 b).length);have hbel:Below w.heap.size w ((w.drewN nd).alloc (.cells (Array.replicate ((zAe B32 a).length+(zAe B32 b).length) (.int .u32 0)) 213)):=(zAc (bS _ _) nd).alloc (aB _) _;have hg0:(w.drewN nd).heap.size=w.heap.size:=rfl;rw [hg0] at hnew;clear hg0;obtain ⟨g,hg⟩:∃ g,g=w.heap.size:=⟨_,rfl⟩;rw [←hg] at hnew;obtain ⟨w1,hw1⟩:∃ w1,w1=(w.drewN nd).alloc (.cells (Array.replicate ((zAe B32 a).length+(zAe B32 b).length) (.int .u32 0)) 213):=⟨_,rfl⟩;rw [←hw1] at hnew hbel;rw [←hg,←hw1];have HG:=zq hg;have HB:=zq hbel;clear hg hbel hw1;have hl:=zBb zAJ a;have hr:=zBb zAJ b;have HVA:=zq (zAw zAJ a);have HVB:=zq (zAw zAJ b);obtain ⟨h,hcap⟩:=h;obtain ⟨h2,hcap2⟩:=h2;generalize zAe B32 a=l at *;generalize zAe B32 b=r at *
   go_loopg [55] l.length (MulRel w g l r)
   case atStart=>exact ⟨0,List.replicate (l.length+r.length) 0,za,rfl,hnew,zd,WLt.zeros zCw _,by rw [wval_zeros];simp [zAi],fun x hx _=>zd,HB.o,qy⟩
   case round =>
    obtain ⟨k,L,hkm,rfl,hA,hL,hLt,hV,hZ,hbw,hwg⟩:=hrel;have HM:=zq hkm;have HV:=zq hV;have HZ:=zq hZ;have HL:=zq hL;clear hkm hV hZ hL
    by_cases hlt:k<l.length
    ·obtain ⟨b1,o1,hA0,hb1,hcl⟩:=(h.below hbw).at_ za
     subst hA0;have hc0:=hcl k hlt;rw [zCb] at hc0;have hx:l[k]<4294967296:=hl.get k hlt;clear hcl;go_wp2;clear hc0;obtain ⟨wo,hwo⟩:∃ wo:World,wo=wr:=⟨_,rfl⟩;subst hwo
     go_loopg [14,62] r.length (MulRel2 w g l r k l[k])
     case atStart=>exact ⟨0,0,L,za,rfl,rfl,za,hA,HL.o,hLt,by rw [HV.o];simp [zAi],HZ.o,hbw,hwg⟩
     case round =>
      clear hA hbw;obtain ⟨j,cy,L2,hjm,rfl,rfl,hcy,hA2,hL2,hLt2,hV2,hZ2,hbw2,hwg2⟩:=hrel;have HM2:=zq hjm;have HV2:=zq hV2;have HZ2:=zq hZ2;have HL2:=zq hL2;clear hjm hV2 hZ2 hL2
      by_cases hj:j<r.length
      ·obtain ⟨b2,o2,hA02,hb2,hcl2⟩:=(h2.below hbw2).at_ za
       subst hA02;have hc2:=hcl2 j hj;rw [zCb] at hc2;have hy:r[j]<4294967296:=hr.get j hj;have hkj:k+j<L2.length:=by have:=HL2.o;omega
       have hz:L2[k+j]<4294967296:=hLt2.get (k+j) hkj;have hc1:=hA2.cell (k+j) hkj;have hf1:=hA2.frozen (k+j);have hxy0:l[k]*r[j]≤4294967295*4294967295:=Nat.mul_le_mul za za
       have hxy:(l[k]:Int)*(r[j]:Int)≤18446744065119617025:=by
        have:((l[k]*r[j]:Nat):Int)≤((4294967295*4294967295:Nat):Int):=za
        rwa [cJ] at this
       have hxy2:0≤(l[k]:Int)*(r[j]:Int):=Int.mul_nonneg za za;clear hcl2 hxy0;go_wp2
       go_roundg (gk - 1)
       case measure=>have:=HM2.o;omega
       case rel=>exact MulRel2.step HM2.o hj hlt hcy za hA2 HL2.o hr hLt2 HV2.o HZ2.o hbw2 hwg2 rfl zd rfl zd
      ·obtain rfl:j=r.length:=by have:=HM2.o;omega
       have hkj:k+r.length<L2.length:=by have:=HL2.o;omega
       have hc1:=hA2.cell (k+r.length) hkj;have hf1:=hA2.frozen (k+r.length);go_wp2
       go_roundg (l.length - k - 1)
       case measure=>have:=HM.o;omega
       case rel=>exact MulRel.next za hlt hcy hA2 HL2.o hLt2 HV2.o HZ2.o hbw2 hwg2 rfl rfl
    ·obtain rfl:k=l.length:=by have:=HM.o;omega
     go_wp2_with fail
     have HT:Hid (zAi B32 L=a*b):=by
      show zAi B32 L=_
      have:=HV.o
      rwa [cS (aB _),HVA.o,HVB.o] at this
     have hl2:=HL.o;rw [←hl2];with_reducible refine (trim_n _ _ L _ w za (aB _) (by have:=hA.rd L.length;rwa [bM] at this) hLt hbw HT.o).mono ?_
     rintro e w' ⟨A,c,rfl,hn,hb⟩;clear hl2;go_wp2;go_ret
     exact ⟨A,c,rfl,hn,hb⟩
def GivesNN (q r:Nat) (w:World) (e:Ending) (w':World):Prop :=
 ∃ A c A2 c2,e = .returned (.tuple #[ntV A c q,ntV A2 c2 r])∧Nt w' A c q∧Nt w' A2 c2 r∧Below w.heap.size w w'
def DwRel (w:World) (g:Nat) (l:List Nat) (b:Nat) (m:Nat) (rv iv:Value) (wr:World):Prop :=
 ∃ (rr:Nat) (Q:List Nat) (z:Int),m≤l.length∧z=(m:Int) - 1∧iv = .int .i64 z∧rv = .int .u64 (rr:Int)∧rr<b∧zCj wr g Q∧Q.length=l.length∧WLt B32 Q ∧
  zAi B32 (l.drop m)=zAi B32 (Q.drop m)*b+rr∧Below w.heap.size w wr∧w.heap.size≤g
theorem DwRel.step {w wr:World} {g:Nat} {l Q:List Nat} {j b rr X:Nat} (hj:j<l.length) (hrr:rr<b) (hA:zCj wr g Q) (hQ:Q.length=l.length) (hLt:WLt B32 Q) (hb:b≤4294967295)
  (hV:zAi B32 (l.drop (j+1))=zAi B32 (Q.drop (j+1))*b+rr) (hbw:Below w.heap.size w wr) (hwg:w.heap.size≤g) (hX:X=l[j]+4294967296*rr) (hl:l[j]<4294967296)
  {rv iv mv:Value} (hi:iv = .int .i64 ((j:Int) - 1)) (hr:rv = .int .u64 ((X % b:Nat):Int)) (hm:mv = .int .u32 ((X / b:Nat):Int)):DwRel w g l b j rv iv (wr.setCell ⟨g,j,none⟩ mv):=by
 subst hi hr hm;have hq:X / b<B32:=quot_lt (B:=B32) (by rw [hX];exact next_lt (B:=B32) hrr hl)
 refine ⟨X % b,Q.set j (X / b),_,za,rfl,rfl,rfl,bA _ za,hA.set j _,by simpa using hQ,hLt.set hq j,?_,hbw.setCell hwg _,hwg⟩
 rw [zEk Q j _ za,zAi,zDB hj,hV];have h1:=Nat.div_add_mod X b;have h2:B32*(zAi B32 (Q.drop (j+1))*b+rr)=B32*zAi B32 (Q.drop (j+1))*b+4294967296*rr:=by rw [aS,aU];rfl
 rw [h2,aV,aT (X / b)];omega
theorem divWord_c (A:Option Addr) (c a b:Nat) (w:World) (h:Nt w A c a) (hn:(zAe B32 a).length≤900000000) (hb1:1≤b) (hb2:b≤4294967295) :
  Calls Tryz.prog 213 #[ntV A c a,.int .u64 (b:Int)] w (GivesNN (a / b) (a % b) w):=by
 have hmk:∀ w:World,(Instr.makeSlice 154 (.int .i64 ((zAe B32 a).length:Int)) (.int .i64 ((zAe B32 a).length:Int))).run Tryz.prog w =
   .ok (.slice (some ⟨w.heap.size,0,none⟩) (zAe B32 a).length (zAe B32 a).length) (w.alloc (.cells (Array.replicate (zAe B32 a).length (.int .u32 0)) 213)):=mk_nat _ za
 unfold ntV;have hl:=zBb zAJ a;have HVA:=zq (zAw zAJ a);obtain ⟨h,hcap⟩:=h;generalize zAe B32 a=l at *
 go_enter Tryz.func213,Tryz.ntmps213
 go_wp2;clear hmk;have hnew:=zCj.new w l.length;have hbel:Below w.heap.size w (w.alloc (.cells (Array.replicate l.length (.int .u32 0)) 213)):=(bS _ _).alloc (aB _) _;obtain ⟨g,hg⟩:∃ g,g=w.heap.size:=⟨_,rfl⟩;rw [←hg] at hnew;obtain ⟨w1,hw1⟩:∃ w1,w1=w.alloc (.cells (Array.replicate l.length (.int .u32 0)) 213):=⟨_,rfl⟩;rw [←hw1] at hnew hbel;rw [←hg,←hw1];have HG:=zq hg;have HB:=zq hbel;clear hg hbel hw1
 go_loopg [7,8] l.length (DwRel w g l b)
 case atStart=>exact ⟨0,List.replicate l.length 0,_,aB _,rfl,rfl,rfl,za,hnew,zd,WLt.zeros zCw _,by rw [aA (aB _),aA zd];simp [zAi],HB.o,qy⟩
 case round =>
  obtain ⟨rr,Q,z,hm,hz,rfl,rfl,hrr,hA,hQ,hLt,hV,hbw,hwg⟩:=hrel;have HV:=zq hV;have HQ:=zq hQ;clear hV hQ
  rcases bH gk with h0 | h0
  ·subst h0
   obtain rfl:z = -1:=hz
   have HT:Hid (zAi B32 Q=a / b∧rr=a % b):=by
    have h1:=HV.o;rw [cT,cT,HVA.o] at h1;have h2:=Nat.div_mod_unique (a:=a) (b:=b) (c:=rr) (d:=zAi B32 Q) za;have h3:=h2.2 ⟨by rw [h1,aT b];omega,hrr⟩
    exact ⟨h3.1.symm,h3.2.symm⟩
   go_wp2_with fail
   have hq2:=HQ.o;rw [←hq2];with_reducible refine (trim_n _ _ Q _ w za (aB _) (by have:=hA.rd Q.length;rwa [bM] at this) hLt hbw HT.o.1).mono ?_
   rintro e w' ⟨A1,c1,rfl,hn1,hb1'⟩;clear hq2
   go_wp2_with fail
   have hnat:=natOf_c rr w' za;rw [HT.o.2] at hnat;rw [HT.o.2];with_reducible refine hnat.mono ?_
   rintro e w'' ⟨A2,c2,rfl,hn2,hb2'⟩;clear hnat;go_wp2;go_ret2
   exact ⟨A1,c1,A2,c2,rfl,hn1.below hb2',hn2,hb1'.trans (hb2'.mono hb1'.size)⟩
  ·obtain ⟨j,rfl⟩:∃ j,gk=j+1:=⟨gk - 1,za⟩
   obtain rfl:z=(j:Int):=za;clear hz;have hj:j<l.length:=za;obtain ⟨b1,o1,hA0,hb,hcl⟩:=(h.below hbw).at_ za;subst hA0;have hc0:=hcl j hj;rw [zCb] at hc0;have hx:l[j]<4294967296:=hl.get j hj;have hjQ:j<Q.length:=by have:=HQ.o;omega
   have hc1:=hA.cell j hjQ;have hf1:=hA.frozen j;clear hcl;obtain ⟨X,hX⟩:∃ X,X=l[j]+4294967296*rr:=⟨_,rfl⟩;have hor:bits .or .u64 ((rr:Int)*4294967296) (l[j]:Int)=(X:Int):=by rw [or_u64' l[j] rr hx za,hX];simp
   have hX1:X≤18446744073709551615:=za
   have hq0:X / b≤4294967295:=by
    have:X / b<B32:=quot_lt (B:=B32) (by rw [hX];exact next_lt (B:=B32) hrr hx)
    rw [zCK] at this;omega
   have hq1:(X:Int) / (b:Int)≤4294967295:=by rw [←Int.natCast_ediv];omega
   have hq2:0≤(X:Int) / (b:Int):=Int.ediv_nonneg (Int.natCast_nonneg X) (Int.natCast_nonneg b);have HX:=zq hX;clear hX hq0;go_wp2
   go_roundg j
   case measure=>omega
   case rel=>exact DwRel.step hj hrr hA HQ.o hLt hb2 HV.o hbw hwg HX.o hx rfl rfl rfl
theorem left_nat {x s h:Nat} (hs:s<32) (hh:h<2 ^ s):(h ||| x*2 ^ s % 4294967296)=h+x*2 ^ s % 4294967296∧h+x*2 ^ s % 4294967296<4294967296:=by
 have e1:(4294967296:Nat)=2 ^ (32 - s)*2 ^ s:=by rw [←Nat.pow_add,show 32 - s+s=32 by omega]
 have e2:x*2 ^ s % 4294967296=(x % 2 ^ (32 - s))*2 ^ s:=by rw [e1,Nat.mul_mod_mul_right]
 have e3:=Nat.two_pow_add_eq_or_of_lt (i:=s) (b:=h) hh (x % 2 ^ (32 - s));have e4:x % 2 ^ (32 - s)+1≤2 ^ (32 - s):=bA _ (cU _);have e5:(x % 2 ^ (32 - s)+1)*2 ^ s≤2 ^ (32 - s)*2 ^ s:=aN _ e4;rw [←e1,aV,Nat.one_mul] at e5;rw [e2];refine ⟨?_,za⟩
 rw [Nat.or_comm,aT,←e3,Nat.add_comm]
theorem left_or {x s h:Nat} (hs:s<32) (hh:h<2 ^ s):bits .or .u32 (h:Int) (((x*2 ^ s:Nat):Int) % 4294967296)=((h+x*2 ^ s % 4294967296:Nat):Int):=by
 have e:(((x*2 ^ s:Nat):Int) % 4294967296)=((x*2 ^ s % 4294967296:Nat):Int):=rfl;obtain ⟨h1,h2⟩:=left_nat (x:=x) hs hh;rw [e,u32_or_nat _ _ za za,h1]
def LfRel (w:World) (g:Nat) (l:List Nat) (D:Nat) (m:Nat) (iv:Value) (wr:World):Prop :=
 ∃ (k:Nat) (L:List Nat),k+m=l.length∧iv = .int .i64 k∧zCj wr g L∧L.length=l.length+1∧WLt B32 L∧zAi B32 L=zAi B32 (l.take k)*D∧(∀ x (h:x<L.length),k+1≤x→L[x]=0) ∧
  (∀ h:k<L.length,L[k]<D)∧Below w.heap.size w wr∧w.heap.size≤g
def GivesBlk (n v:Nat) (w:World) (e:Ending) (w':World):Prop :=
 ∃ g L,e = .returned (.slice (some ⟨g,0,none⟩) n n)∧zCj w' g L∧L.length=n∧WLt B32 L∧zAi B32 L=v∧Below w.heap.size w w'∧w.heap.size≤g
theorem left_l (A:Option Addr) (c s:Nat) (l:List Nat) (w:World) (h:Wds w A l) (hl:WLt B32 l) (hn:l.length≤900000000) (hs:s<32) :
  Calls Tryz.prog 215 #[.slice A l.length c,.int .u64 (s:Int)] w (GivesBlk (l.length+1) (zAi B32 l*2 ^ s) w):=by
 have hmk:∀ w:World,(Instr.makeSlice 154 (.int .i64 ((l.length:Int)+1)) (.int .i64 ((l.length:Int)+1))).run Tryz.prog w =
   .ok (.slice (some ⟨w.heap.size,0,none⟩) (l.length+1) (l.length+1)) (w.alloc (.cells (Array.replicate (l.length+1) (.int .u32 0)) 213)):=mk_nat (l.length+1) za
 go_enter Tryz.func215,Tryz.ntmps215
 go_wp2;clear hmk;have hnew:=zCj.new w (l.length+1);have hbel:Below w.heap.size w (w.alloc (.cells (Array.replicate (l.length+1) (.int .u32 0)) 213)):=(bS _ _).alloc (aB _) _;obtain ⟨g,hg⟩:∃ g,g=w.heap.size:=⟨_,rfl⟩;rw [←hg] at hnew;obtain ⟨w1,hw1⟩:∃ w1,w1=w.alloc (.cells (Array.replicate (l.length+1) (.int .u32 0)) 213):=⟨_,rfl⟩;rw [←hw1] at hnew hbel;rw [←hg,←hw1];have HG:=zq hg;have HB:=zq hbel;clear hg hbel hw1;obtain ⟨D,hD⟩:∃ D,D=2 ^ s:=⟨_,rfl⟩;have hD1:1≤D:=by rw [hD];exact cU s
 have HD:=zq hD;clear hD
 go_loopg [15] l.length (LfRel w g l D)
 case atStart=>exact ⟨0,List.replicate (l.length+1) 0,za,rfl,hnew,zd,WLt.zeros zCw _,by rw [wval_zeros];simp [zAi],fun x hx _=>zd,fun hx=>zg,HB.o,qy⟩
 case round =>
  obtain ⟨k,L,hkm,rfl,hA,hL,hLt,hV,hZ,hT,hbw,hwg⟩:=hrel;have HM:=zq hkm;have HV:=zq hV;have HZ:=zq hZ;have HL:=zq hL;have HT:=zq hT;clear hkm hV hZ hL hT
  by_cases hlt:k<l.length
  ·have hkL:k<L.length:=by have:=HL.o;omega
   have hkL1:k+1<L.length:=by have:=HL.o;omega
   obtain ⟨b,o,hA0,hb,hcl⟩:=(h.below hbw).at_ za;subst hA0;have hc0:=hcl k hlt;rw [zCb] at hc0;have hx:l[k]<4294967296:=hl.get k hlt;have hc1:=hA.cell k hkL;have hf1:=hA.frozen k;have hc2:=hA.cell (k+1) hkL1;have hf2:=hA.frozen (k+1);clear hcl;have hh:L[k]<2 ^ s:=by have:=HT.o hkL;rwa [HD.o] at this
   have hDB:D≤2147483648:=by
    rw [HD.o];exact cV (bN za (show s≤31 by omega)) zc
   obtain ⟨y,hy⟩:∃ y,y=l[k]*2 ^ s:=⟨_,rfl⟩;have hyB:y<4294967296*D:=by rw [hy,HD.o];exact cW hx (cU s)
   have hy2:y≤9223372036854775807:=za
   have hwr:IntKind.u64.wrap ((l[k]:Int)*2 ^ s)=(y:Int):=by
    have e:(l[k]:Int)*2 ^ s=(y:Int):=by rw [hy,cJ,Int.natCast_pow];rfl
    rw [e];exact IntWalk.u64_in _ za
   obtain ⟨z,hz⟩:∃ z,z=L[k]+y % 4294967296:=⟨_,rfl⟩;have hor:bits .or .u32 (L[k]:Int) ((y:Int) % 4294967296)=(z:Int):=by rw [hz,hy];exact left_or hs hh
   have hzB:z<4294967296:=by rw [hz,hy];exact (left_nat hs hh).2
   have HY:=zq hy;have HZ2:=zq hz;have HH:=zq hh;have HYB:=zq hyB;clear hy hz hh hyB hDB;go_wp2
   go_roundg (gk - 1)
   case measure=>have:=HM.o;omega
   case rel =>
    clear hor hwr;refine ⟨k+1,(L.set k z).set (k+1) (y / 4294967296),yp,zn,(hA.set k z).set (k+1) _,by simpa using HL.o,(hLt.set jj k).set jj _,?_,fun i hi hki=>?_,fun hi=>?_,(hbw.setCell hwg _).setCell hwg _,hwg⟩
    ·have e1:=zEw B32 L k z hkL
     have e2:=zEw B32 (L.set k z) (k+1) (y / 4294967296) (by simpa using hkL1)
     rw [cR za,HZ.o (k+1) hkL1 (aB _)] at e2;rw [zAH hlt,aV,←HV.o]
     have e3:B32 ^ k*(y % 4294967296)+B32 ^ (k+1)*(y / 4294967296)=B32 ^ k*y:=by
      rw [aR,aU,←aS,zCK,bB]
     have e4:B32 ^ k*l[k]*D=B32 ^ k*y:=by rw [aU,HY.o,HD.o]
     have e5:B32 ^ k*z=B32 ^ k*L[k]+B32 ^ k*(y % 4294967296):=by rw [HZ2.o,aS]
     rw [e4];omega
    ·rw [cR za,cR za]
     exact HZ.o i jc za
    ·have h1:=HYB.o
     simp
     omega
  ·obtain rfl:k=l.length:=by have:=HM.o;omega
   have hVV:=HV.o;rw [cS (aB _),HD.o] at hVV;have HVV:=zq hVV;clear hVV;go_wp2;go_ret
   exact ⟨g,L,rfl,hA,HL.o,hLt,HVV.o,hbw,hwg⟩
theorem infoU32:(Tryz.prog.info? 213).map (·.size)=some 1:=zb
theorem wpList_copyU {ops:Array Oper} {rest:List Oper} {o:Oper} {a:Act} {w:World} {Q:Exit→Act→World→Prop} (d s:Operand) (hgd:o.guard=none) (ho:o.op = .call { callee:=.builtin .copy,args:=#[d,s],argTypes:=#[154,154] })
  (g j n cd cs g2:Nat) (U W:List Nat) (hd:a.eval d = .slice (some ⟨g,j,none⟩) n cd) (hs:a.eval s = .slice (some ⟨g2,0,none⟩) n cs) (hA:zCj w g U) (hA2:zCj w g2 W) (hn:W.length=n) (hj:j+n≤U.length)
  (h:∀ w',zCj w' g (U.take j++W++U.drop (j+n))→w.grownBy w' (some g)→wpList Tryz.prog ops Q rest (a.put o.dst (goInt n)) w'):wpList Tryz.prog ops Q (o::rest) a w:=by
 subst hn;refine wpList_copy_own hgd d s _ _ ho 213 Tryz.underlying154 infoU32 g j W.length cd ⟨g2,0,none⟩ W.length cs hd hs (U.map u32V).toArray 213 hA (W.map u32V) zd ?_ xg (by simp [u32V,Value.oneCell']) ?_
 ·intro i v hv
  have hi:i<W.length:=by
   have:=(List.getElem?_eq_some_iff.1 hv).1
   simpa using this
  have:=hA2.cell i hi;have e:(⟨g2,0,none⟩:Addr).add i=⟨g2,i,none⟩:=by simp [Addr.add];exact fun h=>h.symm
  rw [e,this,←hv];simp [hi,u32V]
 ·have hl:(W.map u32V).length=W.length:=aK _
  rw [hl];refine h _ ?_ ⟨rfl,rfl,rfl,zd,fun k _ hk=>setRow_other w g k _ (fun e=>hk (by rw [e]))⟩
  unfold zCj;rw [setRow_heap w g _ _ _ _ hA];simp
def GivesSt (g j n q r:Nat) (U:List Nat) (w:World) (e:Ending) (w':World):Prop :=
 e = .returned (.int .u32 (q:Int))∧∃ W:List Nat,W.length=n∧WLt B32 W∧zAi B32 W=r∧zCj w' g (U.take j++W++U.drop (j+n))∧w.grownBy w' (some g)
def StRel (w:World) (x v:Nat) (m:Nat) (qv:Value) (wr:World):Prop :=
 qv = .int .u64 (m:Int)∧m≤4294967295∧x / v≤m∧Below w.heap.size w wr
def StRel2 (w:World) (g2:Nat) (X V:List Nat) (n q:Nat) (m:Nat) (bv cv iv:Value) (wr:World):Prop :=
 ∃ (i bo cy:Nat) (W:List Nat),i+m=n+1∧iv = .int .i64 i∧bv = .int .u64 (bo:Int)∧cv = .int .u64 (cy:Int)∧bo≤1∧cy≤4294967295∧(i=n+1→cy=0)∧zCj wr g2 W∧W.length=n+1∧WLt B32 W ∧
  (zAi B32 (W.take i):Int)=(zAi B32 (X.take i):Int) - (q:Int)*(zAi B32 (V.take i):Int)+(B32:Int) ^ i*((cy:Int)+(bo:Int))∧Below w.heap.size w wr∧w.heap.size≤g2
theorem and_mask (C:Nat) (h:C<18446744073709551616):bits .and .u64 (C:Int) 4294967295=((C % 4294967296:Nat):Int):=by
 have e:(4294967295:Int)=((4294967295:Nat):Int):=rfl;rw [e,u64_and_nat C 4294967295 h za,show (4294967295:Nat)=2 ^ 32 - 1 from rfl,Nat.and_two_pow_sub_one_eq_mod]
theorem wrap_nat (x:Int):∃ t:Nat,IntKind.u64.wrap x=(t:Int)∧(t:Int)=x % 18446744073709551616:=by
 refine ⟨(x % 18446744073709551616).toNat,?_,?_⟩
 ·rw [IntKind.wrap_u64,Int.toNat_of_nonneg za]
 ·rw [Int.toNat_of_nonneg za]
theorem StRel2.step {w wr:World} {g2:Nat} {X V W:List Nat} {n q i bo cy gk u v C t1 t:Nat} (him:i+gk=n+1) (hi:i<n+1) (hA:zCj wr g2 W) (hW:W.length=n+1) (hLt:WLt B32 W) (hbo:bo≤1)
  (hV:(zAi B32 (W.take i):Int)=(zAi B32 (X.take i):Int) - (q:Int)*(zAi B32 (V.take i):Int)+(B32:Int) ^ i*((cy:Int)+(bo:Int))) (hbw:Below w.heap.size w wr) (hwg:w.heap.size≤g2)
  (hX:zAi B32 (X.take (i+1))=zAi B32 (X.take i)+B32 ^ i*u) (hVv:zAi B32 (V.take (i+1))=zAi B32 (V.take i)+B32 ^ i*v) (hu:u<4294967296) (hC:C=cy+q*v) (hC2:C≤18446744069414584320) (hlast:i=n→C≤4294967295)
  (h1:(t1:Int)=((u:Int) - ((C % 4294967296:Nat):Int)) % 18446744073709551616) (h2:(t:Int)=((t1:Int) - (bo:Int)) % 18446744073709551616)
  {bv cv iv mv:Value} (hb:bv = .int .u64 ((t / 9223372036854775808:Nat):Int)) (hc:cv = .int .u64 ((C / 4294967296:Nat):Int)) (hiv:iv = .int .i64 ((i:Int)+1)) (hm:mv = .int .u32 ((t % 4294967296:Nat):Int)) :
  StRel2 w g2 X V n q (gk - 1) bv cv iv (wr.setCell ⟨g2,i,none⟩ mv):=by
 subst hb hc hiv hm;have hlo:=bA C (show 0<4294967296 by decide)
 have hhi:C / 4294967296≤4294967295:=za;have key:((t % 4294967296:Nat):Int)=(u:Int) - ((C % 4294967296:Nat):Int) - (bo:Int)+4294967296*((t / 9223372036854775808:Nat):Int):=za;refine ⟨i+1,t / 9223372036854775808,C / 4294967296,W.set i (t % 4294967296),za,zn,rfl,rfl,za,hhi,fun e=>by have:=hlast za;omega,hA.set i _,by simpa using hW,hLt.set (modB t) i,?_,hbw.setCell hwg _,hwg⟩
 rw [wval_put za,hX,hVv]
 have hCI:(cy:Int)+(q:Int)*(v:Int)=((C % 4294967296:Nat):Int)+(B32:Int)*((C / 4294967296:Nat):Int):=by
  have e:(B32:Int)=4294967296:=rfl;have e2:(q:Int)*(v:Int)=((q*v:Nat):Int):=(cJ q v).symm;rw [e,e2];generalize q*v=p at *;omega
 have:=step_col (B:=B32) hV hCI (w:=((t % 4294967296:Nat):Int)) (u:=(u:Int)) (b':=((t / 9223372036854775808:Nat):Int)) key;simp only [Int.natCast_add,cJ,Int.natCast_pow] at this ⊢;exact this
theorem step_c (g j cu cv m:Nat) (A2:Option Addr) (U V X:List Nat) (w:World) (hA:zCj w g U) (hj:j+(m+2)≤U.length) (hX:X=(U.drop j).take (m+2)) (hU:WLt B32 U) (h2:Wds w A2 V) (hV:WLt B32 V) (hVn:V.length=m+1) (hm:m≤900000000)
  (hv1:∀ h:m<V.length,0<V[m]) (hlt:zAi B32 X<zAi B32 V*B32) :
  Calls Tryz.prog 216 #[.slice (some ⟨g,j,none⟩) (m+2) cu,.slice A2 (m+1) cv] w (GivesSt g j (m+2) (zAi B32 X / zAi B32 V) (zAi B32 X % zAi B32 V) U w):=by
 have hXl:X.length=m+2:=by rw [hX,bE,bK];omega
 have hXW:WLt B32 X:=by rw [hX];exact (hU.drop j).take _
 have hXr:Wds w (some ⟨g,j,none⟩) X:=fun _=>⟨g,j,rfl,fun i hi=>by
  rw [hA.cell (j+i) za];rw [cM hX hi,cG,List.getElem_drop];rfl⟩
 obtain ⟨b2,o2,hA2,hb2,hcl2⟩:=h2.at_ za;subst hA2;obtain ⟨y1,ey1⟩:∃ y1,V[m]'(by omega)=y1:=⟨_,rfl⟩
 obtain ⟨x1,ex1⟩:∃ x1,X[m]'(by omega)=x1:=⟨_,rfl⟩
 obtain ⟨x0,ex0⟩:∃ x0,X[m+1]'(by omega)=x0:=⟨_,rfl⟩
 have cv1:=hcl2 m za;have cu1:=hA.cell (j+m) za;have cu0:=hA.cell (j+(m+1)) za;have eu1:U[j+m]=X[m]:=by rw [cM hX,cG,List.getElem_drop]
 have eu0:U[j+(m+1)]=X[m+1]:=by rw [cM hX,cG,List.getElem_drop]
 rw [eu1,ex1] at cu1;rw [eu0,ex0] at cu0;rw [zCb,ey1] at cv1;have hy1:y1<4294967296:=by rw [←ey1];exact hV.get m za
 have hy0:0<y1:=by rw [←ey1];exact hv1 za
 have hx1:x1<4294967296:=by rw [←ex1];exact hXW.get m za
 have hx0:x0<4294967296:=by rw [←ex0];exact hXW.get (m+1) za
 obtain ⟨T,hT⟩:∃ T,T=x1+4294967296*x0:=⟨_,rfl⟩;have hor:bits .or .u64 ((x0:Int)*4294967296) (x1:Int)=(T:Int):=by rw [or_u64' _ _ hx1 hx0,hT];simp
 have hT1:T≤18446744073709551615:=za
 -- the first guess is not below the digit
 have hval:zAi B32 X=zAi B32 (X.take m)+B32 ^ m*T:=by
  have h1:=zAH (B:=B32) (l:=X) (i:=m) za;have h2:=zAH (B:=B32) (l:=X) (i:=m+1) za;rw [cS za,h1,ex1,ex0] at h2;rw [h2,hT,aS,aR,aU,bZ];rfl
 have hvv:B32 ^ m*y1≤zAi B32 V:=by
  have h1:=zAH (B:=B32) (l:=V) (i:=m) za;rw [cS za,ey1] at h1;omega
 have htk:zAi B32 (X.take m)<B32 ^ m:=by
  have:=zDS (hXW.take m)
  rwa [bE,bF za] at this
 have hguess:zAi B32 X / zAi B32 V≤T / y1:=by
  refine digit_le (B:=B32) (n:=m) (v:=zAi B32 V) (u:=zAi B32 X) (Nat.div_mul_le_self _ _) (by rw [aT];exact hvv) ?_ hy0
  rw [hval,aT (T+1),aS,bP];omega
 have hmax:zAi B32 X / zAi B32 V≤4294967295:=by
  have:zAi B32 X / zAi B32 V<B32:=quot_lt hlt;have e:=zCK;omega
 have hTy:x0<y1→T / y1≤4294967295:=fun h=>by
  have:T / y1<B32:=quot_lt (by rw [hT];exact next_lt (B:=B32) h hx1)
  have e:=zCK;omega
 have HX:=zq hX;have HXL:=zq hXl;have HVL:=zq hVn;have HG:=zq hguess;have HM:=zq hmax;have HTY:=zq hTy;clear hcl2 eu0 eu1 ex0 ex1 ey1 hX hXl hVn hT hval hvv htk hguess hmax hTy
 go_enter Tryz.func216,Tryz.ntmps216
 go_wp2
 go_quiet (fail)
 go_wp2
 go_quiet (fail)
 go_upto_if 37 with fail
 go_cut [7] (fun qv wx=>∃ q0:Nat,StRel w (zAi B32 X) (zAi B32 V) q0 qv wx)
 case first =>
  by_cases hc:x0<y1
  ·have hcb:decide (x0<y1)=true:=cP hc
   have ht1:(T:Int) / (y1:Int)≤4294967295:=by
    have:=HTY.o hc;rw [←Int.natCast_ediv];omega
   have ht2:0≤(T:Int) / (y1:Int):=Int.ediv_nonneg (Int.natCast_nonneg _) (Int.natCast_nonneg _);have HQ1:Hid (T / y1≤4294967295):=HTY.o hc;rw [hcb];clear hc hcb;go_wp2;go_meet;exact ⟨T / y1,rfl,HQ1.o,HG.o,jh⟩
  ·have hcb:decide (x0<y1)=false:=cQ hc
   rw [hcb];clear hc hcb;go_wp2;go_meet;exact ⟨4294967295,rfl,aB _,HM.o,jh⟩
 case rest =>
  obtain ⟨q0,rfl,hq1,hq2,hbwc⟩:=hcut;have HQ:=zq hq2;clear hq2 hor hT1 cv1 cu1 cu0;go_wp2
  go_loopg [7] q0 (StRel w (zAi B32 X) (zAi B32 V))
  case atStart=>exact ⟨rfl,hq1,HQ.o,hbwc⟩
  case round =>
   clear hq1 HQ hbwc;obtain ⟨rfl,hgk,hge,hbw⟩:=hrel;have HGE:=zq hge;clear hge
   have hmk:∀ w:World,(Instr.makeSlice 154 (.int .i64 ((m:Int)+1+1)) (.int .i64 ((m:Int)+1+1))).run Tryz.prog w =
     .ok (.slice (some ⟨w.heap.size,0,none⟩) (m+2) (m+2)) (w.alloc (.cells (Array.replicate (m+2) (.int .u32 0)) 213)):=mk_nat (m+2) za
   go_wp2;clear hmk;have hnew:=zCj.new wr (m+2);have hbel:Below wr.heap.size wr (wr.alloc (.cells (Array.replicate (m+2) (.int .u32 0)) 213)):=(bS _ _).alloc (aB _) _;have hszw:w.heap.size≤wr.heap.size:=hbw.size;have hbw1:=zAb hbw hbel;obtain ⟨g2,hg2⟩:∃ g2,g2=wr.heap.size:=⟨_,rfl⟩;rw [←hg2] at hnew;obtain ⟨w1,hw1⟩:∃ w1,w1=wr.alloc (.cells (Array.replicate (m+2) (.int .u32 0)) 213):=⟨_,rfl⟩;rw [←hw1] at hnew hbw1;rw [←hg2,←hw1];have hwg:w.heap.size≤g2:=by rw [hg2];exact hszw
   have HBW:=zq hbw1;clear hg2 hbel hw1 hszw hbw hbw1;obtain ⟨q,hqq⟩:∃ q,q=gk:=⟨_,rfl⟩;subst hqq
   go_loopg [8,9,51] (m+2) (StRel2 w g2 X V (m+1) q)
   case atStart=>exact ⟨0,0,0,List.replicate (m+2) 0,za,rfl,rfl,rfl,za,za,fun _=>rfl,hnew,zd,WLt.zeros zCw _,vh,HBW.o,hwg⟩
   case round =>
    obtain ⟨i,bo,cy,W,him,rfl,rfl,rfl,hbo,hcy,hlast,hAW,hWl,hWW,hVal,hbw,hwg'⟩:=hrel;have HIM:=zq him;have HLA:=zq hlast;have HWL:=zq hWl;have HVAL:=zq hVal;clear him hlast hWl hVal hwg'
    by_cases hi:i<m+2
    ·have hiX:i<X.length:=by have:=HXL.o;omega
     have hiW:i<W.length:=by have:=HWL.o;omega
     obtain ⟨b1,o1,hA1,hb1,hcl1⟩:=(hXr.below hbw).at_ za
     injection hA1 with hA1
     injection hA1 with hA1 hA1'
     subst hA1 hA1';have hc0:=hcl1 i hiX;rw [zCb] at hc0;have hu:X[i]<4294967296:=hXW.get i hiX;have hc1:=hAW.cell i hiW;have hf1:=hAW.frozen i;clear hcl1
     by_cases him:i<m+1
     ·have hiV:i<V.length:=by have:=HVL.o;omega
      obtain ⟨b3,o3,hA3,hb3,hcl3⟩:=(h2.below hbw).at_ za
      injection hA3 with hA3
      injection hA3 with hA3 hA3'
      subst hA3 hA3';have hc3:=hcl3 i hiV;rw [zCb] at hc3;have hv:V[i]<4294967296:=hV.get i hiV;clear hcl3;obtain ⟨p,hp⟩:∃ p,p=q*V[i]:=⟨_,rfl⟩
      have hpB:p≤18446744065119617025:=by
       have h9:q*V[i]≤4294967295*4294967295:=Nat.mul_le_mul hgk za;rw [hp];omega
      have hpe:(q:Int)*(V[i]:Int)=(p:Int):=by rw [hp];exact (cJ _ _).symm
      obtain ⟨C,hC⟩:∃ C,C=cy+p:=⟨_,rfl⟩;have hCe:(cy:Int)+(p:Int)=(C:Int):=by rw [hC];exact (Int.natCast_add _ _).symm
      have hCB:C≤18446744069414584320:=za;obtain ⟨lo,hlo⟩:∃ lo,lo=C % 4294967296:=⟨_,rfl⟩;have hand:bits .and .u64 (C:Int) 4294967295=(lo:Int):=by rw [hlo];exact and_mask C za
      have hloB:lo<4294967296:=za;obtain ⟨t1,ht1,ht1'⟩:=wrap_nat ((X[i]:Int) - (lo:Int));obtain ⟨t,ht,ht'⟩:=wrap_nat ((t1:Int) - (bo:Int));have htB:t≤18446744073709551615:=za;have ht1B:t1≤18446744073709551615:=za;have HP:=zq hp;have HC:=zq hC;have HLO:=zq hlo;have HT1:=zq ht1';have HT:=zq ht';clear hp hC hlo ht1' ht';go_wp2
      go_roundg (gk - 1)
      case measure=>have:=HIM.o;omega
      case rel=>exact StRel2.step HIM.o hi hAW HWL.o hWW hbo HVAL.o hbw hwg (zAH hiX) (zAH hiV) hu (by rw [←HP.o];exact HC.o) hCB (fun e=>za) (by rw [←HLO.o];exact HT1.o) HT.o zd zd rfl zd
     ·obtain rfl:i=m+1:=by omega
      have HVT:Hid (zAi B32 (V.take (m+1+1))=zAi B32 (V.take (m+1))+B32 ^ (m+1)*0):=by
       show zAi B32 (V.take (m+1+1))=zAi B32 (V.take (m+1))+B32 ^ (m+1)*0
       rw [cS (by have:=HVL.o;omega),cS (by have:=HVL.o;omega),bI,cO]
      have hand:bits .and .u64 (cy:Int) 4294967295=(cy:Int):=by
       rw [and_mask cy za,aZ za]
      obtain ⟨t1,ht1,ht1'⟩:=wrap_nat ((X[m+1]:Int) - (cy:Int));obtain ⟨t,ht,ht'⟩:=wrap_nat ((t1:Int) - (bo:Int));have htB:t≤18446744073709551615:=za;have ht1B:t1≤18446744073709551615:=za;have HT1:=zq ht1';have HT:=zq ht';clear ht1' ht';go_wp2
      go_roundg (gk - 1)
      case measure=>have:=HIM.o;omega
      case rel=>exact StRel2.step (C:=cy) HIM.o hi hAW HWL.o hWW hbo HVAL.o hbw hwg (zAH hiX) HVT.o hu zd za (fun e=>hcy) (by rw [aZ za];exact HT1.o) HT.o zd zd rfl zd
    ·obtain rfl:i=m+2:=by have:=HIM.o;omega
     obtain rfl:cy=0:=HLA.o rfl
     have HW:Hid ((zAi B32 W:Int)=(zAi B32 X:Int) - (q:Int)*(zAi B32 V:Int)+(B32:Int) ^ (m+2)*(bo:Int)):=by
      have h1:=HVAL.o;rw [cS (by have:=HWL.o;omega),cS (by have:=HXL.o;omega),cS (by have:=HVL.o;omega)] at h1
      show _=_
      simpa using h1
     have HWB:Hid (zAi B32 W<B32 ^ (m+2)):=by
      have:=zDS hWW
      rwa [HWL.o] at this
     rcases bH bo with hb0 | hb0
     ·subst hb0
      have hAU:=hA.below hbw;have hn9:=HWL.o
      go_wp2_with (with_reducible refine wpList_copyU (.tmp 88) (.tmp 89) rfl rfl g j (m+2) cu (m+2) g2 U W rfl rfl hAU hAW hn9 hj ?_;intro w9 hA9 hg9)
      clear hn9
      have HQE:Hid (q=zAi B32 X / zAi B32 V∧zAi B32 W=zAi B32 X % zAi B32 V):=by
       have h1:=HW.o
       have hvp:0<zAi B32 V:=by
        rcases bH (zAi B32 V) with h | h
        ·rw [h,Nat.zero_mul] at hlt
         exact absurd hlt (Nat.not_lt_zero _)
        ·exact h
       have h2:q*zAi B32 V+zAi B32 W=zAi B32 X:=by
        have:((q*zAi B32 V+zAi B32 W:Nat):Int)=((zAi B32 X:Nat):Int):=by
         rw [Int.natCast_add,cJ,h1,show ((0:Nat):Int)=0 from rfl,Int.mul_zero]
         generalize ((q:Int)*((zAi B32 V:Nat):Int))=R at *;omega
        exact Int.ofNat.inj this
       have h3:q≤zAi B32 X / zAi B32 V:=(Nat.le_div_iff_mul_le hvp).2 (by rw [←h2];exact Nat.le_add_right _ _)
       have h4:q=zAi B32 X / zAi B32 V:=Nat.le_antisymm h3 HGE.o;refine ⟨h4,?_⟩
       have h5:=Nat.div_add_mod (zAi B32 X) (zAi B32 V);rw [←h4,aT] at h5;exact Nat.add_left_cancel (h2.trans h5.symm)
      go_wp2;go_ret
      refine ⟨by rw [←HQE.o.1];rfl,W,HWL.o,hWW,HQE.o.2,hA9,?_⟩
      exact ⟨hg9.os.trans hbw.os,hg9.tape.trans hbw.tape,hg9.output.trans hbw.output,cV hbw.size hg9.size,fun i hi hne=>(hg9.block i (cX hi hbw.size) hne).trans (hbw.block i hi)⟩
     ·obtain rfl:bo=1:=by omega
      have HQ1:Hid (zAi B32 X / zAi B32 V<q):=by
       show _<_
       have h1:=HW.o;have h2:=HWB.o
       rcases bO (zAi B32 X / zAi B32 V) q with h | h
       ·exact h
       ·exfalso
        have h3:q*zAi B32 V≤zAi B32 X:=cV (aN _ h) (Nat.div_mul_le_self _ _);have h4:((zAi B32 W:Nat):Int)<((B32 ^ (m+2):Nat):Int):=Int.ofNat_lt.2 h2;rw [Int.natCast_pow] at h4;have h5:((q*zAi B32 V:Nat):Int)≤((zAi B32 X:Nat):Int):=Int.ofNat_le.2 h3;rw [cJ] at h5;generalize ((B32:Int) ^ (m+2))=P at *;generalize ((q:Int)*((zAi B32 V:Nat):Int))=R at *;omega
      have hq1:1≤q:=aW (aX _) HQ1.o;go_wp2
      go_roundg (q - 1)
      case measure=>omega
      case rel=>exact ⟨by rw [show (((q - 1:Nat)):Int)=(q:Int) - 1 by omega],za,Nat.le_sub_one_of_lt HQ1.o,hbw⟩
theorem Nt.zero (w:World):Nt w none 0 0:=⟨Rd1.nil,aB _⟩
theorem Cmp_ge {A A2:Option Addr} {c c2 a b:Nat} {w:World} (h:Nt w A c a) (h2:Nt w A2 c2 b) (hn:(zAe B32 a).length≤1000000000) (hge:b≤a) :
  ∃ z:Int,0≤z∧Calls Tryz.prog 182 #[ntV A c a,ntV A2 c2 b] w (zBx (.int .i64 z) w):=by
 refine ⟨zDD a b,?_,Cmp_c A A2 c c2 a b w h h2 hn⟩
 unfold zDD;rw [aC za]
 split<;>omega
theorem Div_lt (A A2:Option Addr) (c c2 a b:Nat) (w:World) (h:Nt w A c a) (h2:Nt w A2 c2 b) (hn:(zAe B32 a).length≤400000000) (hlt:a<b) :
  Calls Tryz.prog 202 #[ntV A c a,ntV A2 c2 b] w (GivesNN (a / b) (a % b) w):=by
 rw [Nat.div_eq_of_lt hlt,aZ hlt];have hc:=Cmp_c A A2 c c2 a b w h h2 za;rw [zBU hlt] at hc;have HC:=zq hc;clear hc hlt
 go_enter Tryz.func202,Tryz.ntmps202
 go_wp2_with fail
 with_reducible refine HC.o.mono ?_
 rintro e w' ⟨rfl,nd,rfl⟩;clear HC;go_wp2;go_ret2
 exact ⟨none,0,A,c,rfl,Nt.zero _,h.drewN nd,zAc (bS _ _) nd⟩
theorem Div_small (A A2:Option Addr) (c c2 a b:Nat) (w:World) (h:Nt w A c a) (h2:Nt w A2 c2 b) (hn:(zAe B32 a).length≤2) (hge:b≤a) (hb:0<b) :
  Calls Tryz.prog 202 #[ntV A c a,ntV A2 c2 b] w (GivesNN (a / b) (a % b) w):=by
 obtain ⟨z,hz,hc⟩:=Cmp_ge h h2 za hge;have hm:=cV (zAL zAJ hge) hn;have la:=small_lt hn;have lb:=small_lt hm;have HC:=zq hc;clear hc hge
 go_enter Tryz.func202,Tryz.ntmps202
 go_wp2_with fail
 with_reducible refine HC.o.mono ?_
 rintro e w' ⟨rfl,nd,rfl⟩;clear HC
 go_wp2_with fail
 with_reducible refine (zDy A c a _ (h.drewN nd) hn).mono ?_
 rintro e w' ⟨rfl,nd1,rfl⟩
 go_wp2_with fail
 have h2d:=h2.drewN (nd+nd1);with_reducible refine (zDy A2 c2 b _ h2d hm).mono ?_
 rintro e w' ⟨rfl,nd2,rfl⟩;obtain ⟨q,hq⟩:∃ q,a / b=q:=⟨_,rfl⟩;obtain ⟨r,hr⟩:∃ r,a % b=r:=⟨_,rfl⟩;have hqa:q≤a:=by rw [←hq];exact Nat.div_le_self a b
 have hra:r≤a:=by rw [←hr];exact Nat.mod_le a b
 have e1:(a:Int) / (b:Int)=(q:Int):=by rw [←hq];exact (Int.natCast_ediv a b).symm
 have e2:(a:Int).tmod (b:Int)=(r:Int):=by rw [IntWalk.rem_in _ _ za,←hr];exact (Int.natCast_emod a b).symm
 have e3:IntKind.u64.wrap (q:Int)=(q:Int):=IntWalk.u64_in _ za;have e4:IntKind.u64.wrap (r:Int)=(r:Int):=IntWalk.u64_in _ za;have hbz:¬ b=0:=za
 have hbq:∀ W:World,(binOp .quo 198 (.int .u64 (a:Int)) (.int .u64 (b:Int))).run Tryz.prog W = .ok (.int .u64 (q:Int)) W:=fun W=>by
  simp [go_sem,hbz,e1,e3]
 have hbr:∀ W:World,(binOp .rem 198 (.int .u64 (a:Int)) (.int .u64 (b:Int))).run Tryz.prog W = .ok (.int .u64 (r:Int)) W:=fun W=>by
  simp [go_sem,hbz,e2]
 have hqB:q<18446744073709551616:=za;have hrB:r<18446744073709551616:=za;have HQ1:=zq hq;have HR1:=zq hr;clear hq hr;have HQ:=zq (fun W:World=>natOf_c q W hqB)
 have HR:=zq (fun W:World=>natOf_c r W hrB)
 clear hqB hrB;go_wp2
 go_region_held3 (fun _=>True) (trivial)
  (first
   | ((go_at_call 184;(with_reducible refine (HQ.o _).mono ?_);rintro e w6 ⟨A5,c5,rfl,hn5,hb5⟩))
   | ((go_at_call 184;(with_reducible refine (HR.o _).mono ?_);rintro e w7 ⟨A6,c6,rfl,hn6,hb6⟩)))
 all_goals
  have hb7:Below w.heap.size w w6:=(zAc (bS w.heap.size w) _).trans hb5;have hb8:Below w.heap.size w w7:=hb7.trans (hb6.mono hb7.size);have hn7:=hn5.below hb6;clear hb5 hb6 hb7 hn5;go_wp2;go_ret2
  rw [HQ1.o,HR1.o];exact ⟨A5,c5,A6,c6,rfl,hn7,hn6,hb8⟩
theorem words_one {b:Nat} (h:(zAe B32 b).length=1):zAe B32 b=[b]:=by
 have hv:=zAw zAJ b
 match hw:zAe B32 b,h with
 | [x],_ =>
  rw [hw,zBR] at hv;rw [hv]
theorem Div_word (A A2:Option Addr) (c c2 a b:Nat) (w:World) (h:Nt w A c a) (h2:Nt w A2 c2 b) (hn:(zAe B32 a).length≤400000000) (hn2:2<(zAe B32 a).length) (hm:(zAe B32 b).length=1) (hge:b≤a) :
  Calls Tryz.prog 202 #[ntV A c a,ntV A2 c2 b] w (GivesNN (a / b) (a % b) w):=by
 obtain ⟨z,hz,hc⟩:=Cmp_ge h h2 za hge;have HC:=zq hc;have hw:=words_one hm;have hl:=zBb zAJ b;rw [hw] at hl;have hb2:b≤4294967295:=by have:=hl.head;have e:=zCK;omega
 have hb1:1≤b:=by
  rcases bH b with h0 | h0
  ·rw [(zDz zAJ).2 h0] at hm
   simp at hm
  ·exact h0
 obtain ⟨r2,hcap2⟩:=h2;rw [hw] at r2;obtain ⟨b2,o2,hA2,hlt2,hcl⟩:=r2.at_ zd;subst hA2;have hc0:=hcl 0 zd;rw [zCb] at hc0;simp only [cN,cO] at hc0;have e2:ntV (some ⟨b2,o2,none⟩) c2 b = .slice (some ⟨b2,o2,none⟩) 1 c2:=by unfold ntV;rw [hw];rfl
 rw [e2] at HC ⊢;have hcap3:1≤c2:=by rw [hw] at hcap2;exact hcap2
 clear hc hge hw hl hcl hm e2 r2 hcap2
 go_enter Tryz.func202,Tryz.ntmps202
 go_wp2_with fail
 with_reducible refine HC.o.mono ?_
 rintro e w' ⟨rfl,nd,rfl⟩;clear HC
 go_wp2_with fail
 with_reducible refine (small_no A c a _ (h.drewN nd) hn2 za).mono ?_
 rintro e w' ⟨rfl,nd1,rfl⟩
 go_wp2_with fail
 with_reducible refine (divWord_c A c a b _ (h.drewN (nd+nd1)) za hb1 hb2).mono ?_
 rintro e w' ⟨A5,c5,A6,c6,rfl,h5,h6,hb⟩;go_wp2;go_ret2
 exact ⟨A5,c5,A6,c6,rfl,h5,h6,(zAc (bS w.heap.size w) _).trans hb⟩
theorem step_n (g j cu cv n:Nat) (A2:Option Addr) (U V X:List Nat) (w:World) (hn1:1≤n) (hA:zCj w g U) (hj:j+(n+1)≤U.length) (hX:X=(U.drop j).take (n+1)) (hU:WLt B32 U) (h2:Wds w A2 V) (hV:WLt B32 V) (hVn:V.length=n) (hm:n≤900000000)
  (hv1:∀ h:n - 1<V.length,0<V[n - 1]) (hlt:zAi B32 X<zAi B32 V*B32) :
  Calls Tryz.prog 216 #[.slice (some ⟨g,j,none⟩) (n+1) cu,.slice A2 n cv] w (GivesSt g j (n+1) (zAi B32 X / zAi B32 V) (zAi B32 X % zAi B32 V) U w):=by
 obtain ⟨m,rfl⟩:∃ m,n=m+1:=⟨n - 1,za⟩;exact step_c g j cu cv m A2 U V X w hA hj hX hU h2 hV hVn za hv1 hlt
theorem shift_ok {x:Nat} (h0:0<x) (h:x<4294967296):1≤Lib.bitLen x∧Lib.bitLen x≤32∧x*2 ^ (32 - Lib.bitLen x)<4294967296:=by
 have hlt:∀ (f x:Nat),x<2 ^ f→x<2 ^ Lib.bitLenAux f x:=by
  intro f
  induction f with
  | zero=>intro x hx;simpa [Lib.bitLenAux] using hx
  | succ f ih =>
   intro x hx;unfold Lib.bitLenAux
   split
   ·next h=>rw [h];exact cU _
   ·have h1:x / 2<2 ^ f:=by rw [aR] at hx;omega
    have h2:=ih (x / 2) h1;rw [Nat.pow_add];omega
 have hle:∀ (f x k:Nat),x<2 ^ k→Lib.bitLenAux f x≤k:=by
  intro f
  induction f with
  | zero=>intro x k _;simp [Lib.bitLenAux]
  | succ f ih =>
   intro x k hx;unfold Lib.bitLenAux
   split
   ·omega
   ·next h0 =>
    cases k with
    | zero=>simp at hx;omega
    | succ k =>
     have:=ih (x / 2) k (by rw [aR] at hx;omega)
     omega
 have h1:Lib.bitLen x≤32:=hle 64 x 32 h;have h2:x<2 ^ Lib.bitLen x:=hlt 64 x (Nat.lt_trans h zc);refine ⟨?_,h1,?_⟩
 ·rcases bH (Lib.bitLen x) with e | e
  ·rw [e] at h2;simp at h2;omega
  ·exact e
 ·have h3:x*2 ^ (32 - Lib.bitLen x)<2 ^ Lib.bitLen x*2 ^ (32 - Lib.bitLen x):=cW h2 (cU _)
  rw [←Nat.pow_add,show Lib.bitLen x+(32 - Lib.bitLen x)=32 by omega] at h3
  exact h3
def DvRel (w:World) (gu gv gq:Nat) (U0 V0:List Nat) (v na nb:Nat) (m:Nat) (jv:Value) (wr:World):Prop :=
 ∃ (U Q:List Nat) (z:Int),z=(m:Int) - 1∧jv = .int .i64 z∧m≤na - nb+1∧zCj wr gu U∧U.length=na+1∧WLt B32 U∧zCj wr gv V0∧zCj wr gq Q∧Q.length=na - nb+1∧WLt B32 Q∧U.take m=U0.take m ∧
  zAi B32 (U.drop m)=zAi B32 (U0.drop m) % v∧zAi B32 (Q.drop m)=zAi B32 (U0.drop m) / v∧Below w.heap.size w wr
theorem window {U U0:List Nat} {j n v na:Nat} (hU:U.length=na+1) (h0:U0.length=na+1) (hj:j+n+1≤na+1) (ht:U.take (j+1)=U0.take (j+1)) (hr:zAi B32 (U.drop (j+1))=zAi B32 (U0.drop (j+1)) % v) (hv:v<B32 ^ n) (hv0:0<v) (hW:WLt B32 U) :
  zAi B32 ((U.drop j).take (n+1))=zAi B32 (U.drop j)∧zAi B32 (U.drop j)<v*B32∧zAi B32 (U.drop (j+(n+1)))=0∧zAi B32 (U.drop j)=U0[j]'(by omega)+B32*(zAi B32 (U0.drop (j+1)) % v):=by
 have hjU:j<U.length:=za
 have e0:U[j]=U0[j]'(by omega):=by
  have h1:(U.take (j+1))[j]'(by rw [bE];omega)=U[j]:=cG
  have h2:(U0.take (j+1))[j]'(by rw [bE];omega)=U0[j]'(by omega):=cG
  rw [←h1,←h2];exact cM ht _
 have e1:=zDB (B:=B32) hjU;have hx:=hW.get j hjU
 have hlt:zAi B32 (U.drop j)<v*B32:=by
  rw [e1,hr];exact next_lt (bA _ hv0) hx
 have hz:zAi B32 (U.drop (j+1+n))=0:=zDR (n:=n) (by rw [hr];exact Nat.lt_trans (bA _ hv0) hv) za
 have ej:j+(n+1)=j+1+n:=za;refine ⟨?_,hlt,by rw [ej];exact hz,by rw [e1,hr,e0]⟩
 have e2:=zCP B32 (n+1) (U.drop j) (by rw [bK];omega)
 rw [bY,ej,hz,bI,cO] at e2;exact e2.symm
end Go.Proofs.YtoaelidmmcbkfaaGreatDoor
