/- Parts of the proof, joined: Package num: divWord and left. Package num: a digit of a quotient (ste. -/
import Derived.Test.YtieoifkdobcpiaaGreatDoorSm02
import Derived.Laws.CopyOwn
import Derived.Deep.DeepCutAuto
import Derived.Deep.RegionHeld3
import Derived.StillTailTactics
set_option maxRecDepth 100000
set_option maxHeartbeats 8000000
namespace Go.Proofs.YtieoifkdobcpiaaGreatDoor
open Go.RowKit Dw
def GivesNN (q r:Nat) (w:World) (e:Ending) (w':World):Prop :=
 ∃ A c A2 c2,e = .returned (.tuple #[ntV A c q,ntV A2 c2 r])∧Nt w' A c q∧Nt w' A2 c2 r∧Below w.heap.size w w'
def DwRel (w:World) (g:Nat) (l:List Nat) (b:Nat) (m:Nat) (rv iv:Value) (wr:World):Prop :=
 ∃ (rr:Nat) (Q:List Nat) (z:Int),m≤l.length∧z=(m:Int) - 1∧iv = .int .i64 z∧rv = .int .u64 (rr:Int)∧rr<b∧zCh wr g Q∧Q.length=l.length∧WLt B32 Q ∧
  zAf B32 (l.drop m)=zAf B32 (Q.drop m)*b+rr∧Below w.heap.size w wr∧w.heap.size≤g
theorem DwRel.step {w wr:World} {g:Nat} {l Q:List Nat} {j b rr X:Nat} (hj:j<l.length) (hrr:rr<b) (hA:zCh wr g Q) (hQ:Q.length=l.length) (hLt:WLt B32 Q) (hb:b≤4294967295)
  (hV:zAf B32 (l.drop (j+1))=zAf B32 (Q.drop (j+1))*b+rr) (hbw:Below w.heap.size w wr) (hwg:w.heap.size≤g) (hX:X=l[j]+4294967296*rr) (hl:l[j]<4294967296)
  {rv iv mv:Value} (hi:iv = .int .i64 ((j:Int) - 1)) (hr:rv = .int .u64 ((X % b:Nat):Int)) (hm:mv = .int .u32 ((X / b:Nat):Int)):DwRel w g l b j rv iv (wr.setCell ⟨g,j,none⟩ mv):=by
 subst hi hr hm;have hq:X / b<B32:=quot_lt (B:=B32) (by rw [hX];exact next_lt (B:=B32) hrr hl)
 refine ⟨X % b,Q.set j (X / b),_,za,rfl,rfl,rfl,bJ _ za,hA.set j _,by simpa using hQ,hLt.set hq j,?_,hbw.setCell hwg _,hwg⟩
 rw [zEi Q j _ za,zAf,zCQ hj,hV];have h1:=Nat.div_add_mod X b;have h2:B32*(zAf B32 (Q.drop (j+1))*b+rr)=B32*zAf B32 (Q.drop (j+1))*b+4294967296*rr:=by rw [bA,bC];rfl
 rw [h2,bD,bB (X / b)];omega
theorem divWord_c (A:Option Addr) (c a b:Nat) (w:World) (h:Nt w A c a) (hn:(zAc B32 a).length≤900000000) (hb1:1≤b) (hb2:b≤4294967295) :
  Calls Tryz.prog 165 #[ntV A c a,.int .u64 (b:Int)] w (GivesNN (a / b) (a % b) w):=by
 have hmk:∀ w:World,(Instr.makeSlice 85 (.int .i64 ((zAc B32 a).length:Int)) (.int .i64 ((zAc B32 a).length:Int))).run Tryz.prog w =
   .ok (.slice (some ⟨w.heap.size,0,none⟩) (zAc B32 a).length (zAc B32 a).length) (w.alloc (.cells (Array.replicate (zAc B32 a).length (.int .u32 0)) 197)):=mk_nat _ za
 unfold ntV;have hl:=zAK zAu a;have HVA:=zq (zAl zAu a);obtain ⟨h,hcap⟩:=h;generalize zAc B32 a=l at *
 go_enter Tryz.func165,Tryz.ntmps165
 go_wp2;clear hmk;have hnew:=zCh.new w l.length;have hbel:Below w.heap.size w (w.alloc (.cells (Array.replicate l.length (.int .u32 0)) 197)):=(aS _ _).alloc (aB _) _;obtain ⟨g,hg⟩:∃ g,g=w.heap.size:=⟨_,rfl⟩;rw [←hg] at hnew;obtain ⟨w1,hw1⟩:∃ w1,w1=w.alloc (.cells (Array.replicate l.length (.int .u32 0)) 197):=⟨_,rfl⟩;rw [←hw1] at hnew hbel;rw [←hg,←hw1];have HG:=zq hg;have HB:=zq hbel;clear hg hbel hw1
 go_loopg [7,8] l.length (DwRel w g l b)
 case atStart=>exact ⟨0,List.replicate l.length 0,_,aB _,rfl,rfl,rfl,za,hnew,ze,WLt.zeros zCp _,by rw [aA (aB _),aA ze];simp [zAf],HB.o,yk⟩
 case round =>
  obtain ⟨rr,Q,z,hm,hz,rfl,rfl,hrr,hA,hQ,hLt,hV,hbw,hwg⟩:=hrel;have HV:=zq hV;have HQ:=zq hQ;clear hV hQ
  rcases bR gk with h0 | h0
  ·subst h0
   obtain rfl:z = -1:=hz
   have HT:Hid (zAf B32 Q=a / b∧rr=a % b):=by
    have h1:=HV.o;rw [dF,dF,HVA.o] at h1;have h2:=Nat.div_mod_unique (a:=a) (b:=b) (c:=rr) (d:=zAf B32 Q) za;have h3:=h2.2 ⟨by rw [h1,bB b];omega,hrr⟩
    exact ⟨h3.1.symm,h3.2.symm⟩
   go_wp2_with fail
   have hq2:=HQ.o;rw [←hq2];with_reducible refine (trim_n _ _ Q _ w za (aB _) (by have:=hA.rd Q.length;rwa [bX] at this) hLt hbw HT.o.1).mono ?_
   rintro e w' ⟨A1,c1,rfl,hn1,hb1'⟩;clear hq2
   go_wp2_with fail
   have hnat:=natOf_c rr w' za;rw [HT.o.2] at hnat;rw [HT.o.2];with_reducible refine hnat.mono ?_
   rintro e w'' ⟨A2,c2,rfl,hn2,hb2'⟩;clear hnat;go_wp2;go_ret2
   exact ⟨A1,c1,A2,c2,rfl,hn1.below hb2',hn2,hb1'.trans (hb2'.mono hb1'.size)⟩
  ·obtain ⟨j,rfl⟩:∃ j,gk=j+1:=⟨gk - 1,za⟩
   obtain rfl:z=(j:Int):=za;clear hz;have hj:j<l.length:=za;obtain ⟨b1,o1,hA0,hb,hcl⟩:=(h.below hbw).at_ za;subst hA0;have hc0:=hcl j hj;rw [zBK] at hc0;have hx:l[j]<4294967296:=hl.get j hj;have hjQ:j<Q.length:=by have:=HQ.o;omega
   have hc1:=hA.cell j hjQ;have hf1:=hA.frozen j;clear hcl;obtain ⟨X,hX⟩:∃ X,X=l[j]+4294967296*rr:=⟨_,rfl⟩;have hor:bits .or .u64 ((rr:Int)*4294967296) (l[j]:Int)=(X:Int):=by rw [or_u64' l[j] rr hx za,hX];simp
   have hX1:X≤18446744073709551615:=za
   have hq0:X / b≤4294967295:=by
    have:X / b<B32:=quot_lt (B:=B32) (by rw [hX];exact next_lt (B:=B32) hrr hx)
    rw [zCA] at this;omega
   have hq1:(X:Int) / (b:Int)≤4294967295:=by rw [←Int.natCast_ediv];omega
   have hq2:0≤(X:Int) / (b:Int):=Int.ediv_nonneg (dG X) (dG b);have HX:=zq hX;clear hX hq0;go_wp2
   go_roundg j
   case measure=>omega
   case rel=>exact DwRel.step hj hrr hA HQ.o hLt hb2 HV.o hbw hwg HX.o hx rfl rfl rfl
theorem left_nat {x s h:Nat} (hs:s<32) (hh:h<2 ^ s):(h ||| x*2 ^ s % 4294967296)=h+x*2 ^ s % 4294967296∧h+x*2 ^ s % 4294967296<4294967296:=by
 have e1:(4294967296:Nat)=2 ^ (32 - s)*2 ^ s:=by rw [←dB,show 32 - s+s=32 by omega]
 have e2:x*2 ^ s % 4294967296=(x % 2 ^ (32 - s))*2 ^ s:=by rw [e1,Nat.mul_mod_mul_right]
 have e3:=Nat.two_pow_add_eq_or_of_lt (i:=s) (b:=h) hh (x % 2 ^ (32 - s));have e4:x % 2 ^ (32 - s)+1≤2 ^ (32 - s):=bJ _ (dH _);have e5:(x % 2 ^ (32 - s)+1)*2 ^ s≤2 ^ (32 - s)*2 ^ s:=aP _ e4;rw [←e1,bD,Nat.one_mul] at e5;rw [e2];refine ⟨?_,za⟩
 rw [Nat.or_comm,bB,←e3,Nat.add_comm]
theorem left_or {x s h:Nat} (hs:s<32) (hh:h<2 ^ s):bits .or .u32 (h:Int) (((x*2 ^ s:Nat):Int) % 4294967296)=((h+x*2 ^ s % 4294967296:Nat):Int):=by
 have e:(((x*2 ^ s:Nat):Int) % 4294967296)=((x*2 ^ s % 4294967296:Nat):Int):=rfl;obtain ⟨h1,h2⟩:=left_nat (x:=x) hs hh;rw [e,u32_or_nat _ _ za za,h1]
def LfRel (w:World) (g:Nat) (l:List Nat) (D:Nat) (m:Nat) (iv:Value) (wr:World):Prop :=
 ∃ (k:Nat) (L:List Nat),k+m=l.length∧iv = .int .i64 k∧zCh wr g L∧L.length=l.length+1∧WLt B32 L∧zAf B32 L=zAf B32 (l.take k)*D∧(∀ x (h:x<L.length),k+1≤x→L[x]=0) ∧
  (∀ h:k<L.length,L[k]<D)∧Below w.heap.size w wr∧w.heap.size≤g
def GivesBlk (n v:Nat) (w:World) (e:Ending) (w':World):Prop :=
 ∃ g L,e = .returned (.slice (some ⟨g,0,none⟩) n n)∧zCh w' g L∧L.length=n∧WLt B32 L∧zAf B32 L=v∧Below w.heap.size w w'∧w.heap.size≤g
theorem left_l (A:Option Addr) (c s:Nat) (l:List Nat) (w:World) (h:Wds w A l) (hl:WLt B32 l) (hn:l.length≤900000000) (hs:s<32) :
  Calls Tryz.prog 226 #[.slice A l.length c,.int .u64 (s:Int)] w (GivesBlk (l.length+1) (zAf B32 l*2 ^ s) w):=by
 have hmk:∀ w:World,(Instr.makeSlice 85 (.int .i64 ((l.length:Int)+1)) (.int .i64 ((l.length:Int)+1))).run Tryz.prog w =
   .ok (.slice (some ⟨w.heap.size,0,none⟩) (l.length+1) (l.length+1)) (w.alloc (.cells (Array.replicate (l.length+1) (.int .u32 0)) 197)):=mk_nat (l.length+1) za
 go_enter Tryz.func226,Tryz.ntmps226
 go_wp2;clear hmk;have hnew:=zCh.new w (l.length+1);have hbel:Below w.heap.size w (w.alloc (.cells (Array.replicate (l.length+1) (.int .u32 0)) 197)):=(aS _ _).alloc (aB _) _;obtain ⟨g,hg⟩:∃ g,g=w.heap.size:=⟨_,rfl⟩;rw [←hg] at hnew;obtain ⟨w1,hw1⟩:∃ w1,w1=w.alloc (.cells (Array.replicate (l.length+1) (.int .u32 0)) 197):=⟨_,rfl⟩;rw [←hw1] at hnew hbel;rw [←hg,←hw1];have HG:=zq hg;have HB:=zq hbel;clear hg hbel hw1;obtain ⟨D,hD⟩:∃ D,D=2 ^ s:=⟨_,rfl⟩;have hD1:1≤D:=by rw [hD];exact dH s
 have HD:=zq hD;clear hD
 go_loopg [15] l.length (LfRel w g l D)
 case atStart=>exact ⟨0,List.replicate (l.length+1) 0,za,rfl,hnew,ze,WLt.zeros zCp _,by rw [wval_zeros];simp [zAf],fun x hx _=>ze,fun hx=>zg,HB.o,yk⟩
 case round =>
  obtain ⟨k,L,hkm,rfl,hA,hL,hLt,hV,hZ,hT,hbw,hwg⟩:=hrel;have HM:=zq hkm;have HV:=zq hV;have HZ:=zq hZ;have HL:=zq hL;have HT:=zq hT;clear hkm hV hZ hL hT
  by_cases hlt:k<l.length
  ·have hkL:k<L.length:=by have:=HL.o;omega
   have hkL1:k+1<L.length:=by have:=HL.o;omega
   obtain ⟨b,o,hA0,hb,hcl⟩:=(h.below hbw).at_ za;subst hA0;have hc0:=hcl k hlt;rw [zBK] at hc0;have hx:l[k]<4294967296:=hl.get k hlt;have hc1:=hA.cell k hkL;have hf1:=hA.frozen k;have hc2:=hA.cell (k+1) hkL1;have hf2:=hA.frozen (k+1);clear hcl;have hh:L[k]<2 ^ s:=by have:=HT.o hkL;rwa [HD.o] at this
   have hDB:D≤2147483648:=by
    rw [HD.o];exact dI (bY za (show s≤31 by omega)) zd
   obtain ⟨y,hy⟩:∃ y,y=l[k]*2 ^ s:=⟨_,rfl⟩;have hyB:y<4294967296*D:=by rw [hy,HD.o];exact dJ hx (dH s)
   have hy2:y≤9223372036854775807:=za
   have hwr:IntKind.u64.wrap ((l[k]:Int)*2 ^ s)=(y:Int):=by
    have e:(l[k]:Int)*2 ^ s=(y:Int):=by rw [hy,cT,Int.natCast_pow];rfl
    rw [e];exact IntWalk.u64_in _ za
   obtain ⟨z,hz⟩:∃ z,z=L[k]+y % 4294967296:=⟨_,rfl⟩;have hor:bits .or .u32 (L[k]:Int) ((y:Int) % 4294967296)=(z:Int):=by rw [hz,hy];exact left_or hs hh
   have hzB:z<4294967296:=by rw [hz,hy];exact (left_nat hs hh).2
   have HY:=zq hy;have HZ2:=zq hz;have HH:=zq hh;have HYB:=zq hyB;clear hy hz hh hyB hDB;go_wp2
   go_roundg (gk - 1)
   case measure=>have:=HM.o;omega
   case rel =>
    clear hor hwr;refine ⟨k+1,(L.set k z).set (k+1) (y / 4294967296),yi,zi,(hA.set k z).set (k+1) _,by simpa using HL.o,(hLt.set qg k).set qg _,?_,fun i hi hki=>?_,fun hi=>?_,(hbw.setCell hwg _).setCell hwg _,hwg⟩
    ·have e1:=zEs B32 L k z hkL
     have e2:=zEs B32 (L.set k z) (k+1) (y / 4294967296) (by simpa using hkL1)
     rw [dC za,HZ.o (k+1) hkL1 (aB _)] at e2;rw [zAD hlt,bD,←HV.o]
     have e3:B32 ^ k*(y % 4294967296)+B32 ^ (k+1)*(y / 4294967296)=B32 ^ k*y:=by
      rw [aZ,bC,←bA,zCA,bK]
     have e4:B32 ^ k*l[k]*D=B32 ^ k*y:=by rw [bC,HY.o,HD.o]
     have e5:B32 ^ k*z=B32 ^ k*L[k]+B32 ^ k*(y % 4294967296):=by rw [HZ2.o,bA]
     rw [e4];omega
    ·rw [dC za,dC za]
     exact HZ.o i yz za
    ·have h1:=HYB.o
     simp
     omega
  ·obtain rfl:k=l.length:=by have:=HM.o;omega
   have hVV:=HV.o;rw [cY (aB _),HD.o] at hVV;have HVV:=zq hVV;clear hVV;go_wp2;go_ret
   exact ⟨g,L,rfl,hA,HL.o,hLt,HVV.o,hbw,hwg⟩
theorem infoU32:(Tryz.prog.info? 197).map (·.size)=some 1:=zc
theorem wpList_copyU {ops:Array Oper} {rest:List Oper} {o:Oper} {a:Act} {w:World} {Q:Exit→Act→World→Prop} (d s:Operand) (hgd:o.guard=none) (ho:o.op = .call { callee:=.builtin .copy,args:=#[d,s],argTypes:=#[85,85] })
  (g j n cd cs g2:Nat) (U W:List Nat) (hd:a.eval d = .slice (some ⟨g,j,none⟩) n cd) (hs:a.eval s = .slice (some ⟨g2,0,none⟩) n cs) (hA:zCh w g U) (hA2:zCh w g2 W) (hn:W.length=n) (hj:j+n≤U.length)
  (h:∀ w',zCh w' g (U.take j++W++U.drop (j+n))→w.grownBy w' (some g)→wpList Tryz.prog ops Q rest (a.put o.dst (goInt n)) w'):wpList Tryz.prog ops Q (o::rest) a w:=by
 subst hn;refine wpList_copy_own hgd d s _ _ ho 197 Tryz.underlying85 infoU32 g j W.length cd ⟨g2,0,none⟩ W.length cs hd hs (U.map u32V).toArray 197 hA (W.map u32V) ze ?_ qe (by simp [u32V,Value.oneCell']) ?_
 ·intro i v hv
  have hi:i<W.length:=by
   have:=(List.getElem?_eq_some_iff.1 hv).1
   simpa using this
  have:=hA2.cell i hi;have e:(⟨g2,0,none⟩:Addr).add i=⟨g2,i,none⟩:=by simp [Addr.add];exact fun h=>h.symm
  rw [e,this,←hv];simp [hi,u32V]
 ·have hl:(W.map u32V).length=W.length:=aM _
  rw [hl];refine h _ ?_ ⟨rfl,rfl,rfl,ze,fun k _ hk=>setRow_other w g k _ (fun e=>hk (by rw [e]))⟩
  unfold zCh;rw [setRow_heap w g _ _ _ _ hA];simp
def GivesSt (g j n q r:Nat) (U:List Nat) (w:World) (e:Ending) (w':World):Prop :=
 e = .returned (.int .u32 (q:Int))∧∃ W:List Nat,W.length=n∧WLt B32 W∧zAf B32 W=r∧zCh w' g (U.take j++W++U.drop (j+n))∧w.grownBy w' (some g)
def StRel (w:World) (x v:Nat) (m:Nat) (qv:Value) (wr:World):Prop :=
 qv = .int .u64 (m:Int)∧m≤4294967295∧x / v≤m∧Below w.heap.size w wr
def StRel2 (w:World) (g2:Nat) (X V:List Nat) (n q:Nat) (m:Nat) (bv cv iv:Value) (wr:World):Prop :=
 ∃ (i bo cy:Nat) (W:List Nat),i+m=n+1∧iv = .int .i64 i∧bv = .int .u64 (bo:Int)∧cv = .int .u64 (cy:Int)∧bo≤1∧cy≤4294967295∧(i=n+1→cy=0)∧zCh wr g2 W∧W.length=n+1∧WLt B32 W ∧
  (zAf B32 (W.take i):Int)=(zAf B32 (X.take i):Int) - (q:Int)*(zAf B32 (V.take i):Int)+(B32:Int) ^ i*((cy:Int)+(bo:Int))∧Below w.heap.size w wr∧w.heap.size≤g2
theorem and_mask (C:Nat) (h:C<18446744073709551616):bits .and .u64 (C:Int) 4294967295=((C % 4294967296:Nat):Int):=by
 have e:(4294967295:Int)=((4294967295:Nat):Int):=rfl;rw [e,u64_and_nat C 4294967295 h za,show (4294967295:Nat)=2 ^ 32 - 1 from rfl,Nat.and_two_pow_sub_one_eq_mod]
theorem wrap_nat (x:Int):∃ t:Nat,IntKind.u64.wrap x=(t:Int)∧(t:Int)=x % 18446744073709551616:=by
 refine ⟨(x % 18446744073709551616).toNat,?_,?_⟩
 ·rw [IntKind.wrap_u64,Int.toNat_of_nonneg za]
 ·rw [Int.toNat_of_nonneg za]
theorem StRel2.step {w wr:World} {g2:Nat} {X V W:List Nat} {n q i bo cy gk u v C t1 t:Nat} (him:i+gk=n+1) (hi:i<n+1) (hA:zCh wr g2 W) (hW:W.length=n+1) (hLt:WLt B32 W) (hbo:bo≤1)
  (hV:(zAf B32 (W.take i):Int)=(zAf B32 (X.take i):Int) - (q:Int)*(zAf B32 (V.take i):Int)+(B32:Int) ^ i*((cy:Int)+(bo:Int))) (hbw:Below w.heap.size w wr) (hwg:w.heap.size≤g2)
  (hX:zAf B32 (X.take (i+1))=zAf B32 (X.take i)+B32 ^ i*u) (hVv:zAf B32 (V.take (i+1))=zAf B32 (V.take i)+B32 ^ i*v) (hu:u<4294967296) (hC:C=cy+q*v) (hC2:C≤18446744069414584320) (hlast:i=n→C≤4294967295)
  (h1:(t1:Int)=((u:Int) - ((C % 4294967296:Nat):Int)) % 18446744073709551616) (h2:(t:Int)=((t1:Int) - (bo:Int)) % 18446744073709551616)
  {bv cv iv mv:Value} (hb:bv = .int .u64 ((t / 9223372036854775808:Nat):Int)) (hc:cv = .int .u64 ((C / 4294967296:Nat):Int)) (hiv:iv = .int .i64 ((i:Int)+1)) (hm:mv = .int .u32 ((t % 4294967296:Nat):Int)) :
  StRel2 w g2 X V n q (gk - 1) bv cv iv (wr.setCell ⟨g2,i,none⟩ mv):=by
 subst hb hc hiv hm;have hlo:=bJ C (show 0<4294967296 by decide)
 have hhi:C / 4294967296≤4294967295:=za;have key:((t % 4294967296:Nat):Int)=(u:Int) - ((C % 4294967296:Nat):Int) - (bo:Int)+4294967296*((t / 9223372036854775808:Nat):Int):=za;refine ⟨i+1,t / 9223372036854775808,C / 4294967296,W.set i (t % 4294967296),za,zi,rfl,rfl,za,hhi,fun e=>by have:=hlast za;omega,hA.set i _,by simpa using hW,hLt.set (modB t) i,?_,hbw.setCell hwg _,hwg⟩
 rw [zEr za,hX,hVv]
 have hCI:(cy:Int)+(q:Int)*(v:Int)=((C % 4294967296:Nat):Int)+(B32:Int)*((C / 4294967296:Nat):Int):=by
  have e:(B32:Int)=4294967296:=rfl;have e2:(q:Int)*(v:Int)=((q*v:Nat):Int):=(cT q v).symm;rw [e,e2];generalize q*v=p at *;omega
 have:=step_col (B:=B32) hV hCI (w:=((t % 4294967296:Nat):Int)) (u:=(u:Int)) (b':=((t / 9223372036854775808:Nat):Int)) key;simp only [Int.natCast_add,cT,Int.natCast_pow] at this ⊢;exact this
theorem step_c (g j cu cv m:Nat) (A2:Option Addr) (U V X:List Nat) (w:World) (hA:zCh w g U) (hj:j+(m+2)≤U.length) (hX:X=(U.drop j).take (m+2)) (hU:WLt B32 U) (h2:Wds w A2 V) (hV:WLt B32 V) (hVn:V.length=m+1) (hm:m≤900000000)
  (hv1:∀ h:m<V.length,0<V[m]) (hlt:zAf B32 X<zAf B32 V*B32) :
  Calls Tryz.prog 227 #[.slice (some ⟨g,j,none⟩) (m+2) cu,.slice A2 (m+1) cv] w (GivesSt g j (m+2) (zAf B32 X / zAf B32 V) (zAf B32 X % zAf B32 V) U w):=by
 have hXl:X.length=m+2:=by rw [hX,bN,bV];omega
 have hXW:WLt B32 X:=by rw [hX];exact (hU.drop j).take _
 have hXr:Wds w (some ⟨g,j,none⟩) X:=fun _=>⟨g,j,rfl,fun i hi=>by
  rw [hA.cell (j+i) za];rw [cV hX hi,cQ,List.getElem_drop];rfl⟩
 obtain ⟨b2,o2,hA2,hb2,hcl2⟩:=h2.at_ za;subst hA2;obtain ⟨y1,ey1⟩:∃ y1,V[m]'(by omega)=y1:=⟨_,rfl⟩
 obtain ⟨x1,ex1⟩:∃ x1,X[m]'(by omega)=x1:=⟨_,rfl⟩
 obtain ⟨x0,ex0⟩:∃ x0,X[m+1]'(by omega)=x0:=⟨_,rfl⟩
 have cv1:=hcl2 m za;have cu1:=hA.cell (j+m) za;have cu0:=hA.cell (j+(m+1)) za;have eu1:U[j+m]=X[m]:=by rw [cV hX,cQ,List.getElem_drop]
 have eu0:U[j+(m+1)]=X[m+1]:=by rw [cV hX,cQ,List.getElem_drop]
 rw [eu1,ex1] at cu1;rw [eu0,ex0] at cu0;rw [zBK,ey1] at cv1;have hy1:y1<4294967296:=by rw [←ey1];exact hV.get m za
 have hy0:0<y1:=by rw [←ey1];exact hv1 za
 have hx1:x1<4294967296:=by rw [←ex1];exact hXW.get m za
 have hx0:x0<4294967296:=by rw [←ex0];exact hXW.get (m+1) za
 obtain ⟨T,hT⟩:∃ T,T=x1+4294967296*x0:=⟨_,rfl⟩;have hor:bits .or .u64 ((x0:Int)*4294967296) (x1:Int)=(T:Int):=by rw [or_u64' _ _ hx1 hx0,hT];simp
 have hT1:T≤18446744073709551615:=za
 -- the first guess is not below the digit
 have hval:zAf B32 X=zAf B32 (X.take m)+B32 ^ m*T:=by
  have h1:=zAD (B:=B32) (l:=X) (i:=m) za;have h2:=zAD (B:=B32) (l:=X) (i:=m+1) za;rw [cY za,h1,ex1,ex0] at h2;rw [h2,hT,bA,aZ,bC,Nat.add_assoc];rfl
 have hvv:B32 ^ m*y1≤zAf B32 V:=by
  have h1:=zAD (B:=B32) (l:=V) (i:=m) za;rw [cY za,ey1] at h1;omega
 have htk:zAf B32 (X.take m)<B32 ^ m:=by
  have:=zDs (hXW.take m)
  rwa [bN,bO za] at this
 have hguess:zAf B32 X / zAf B32 V≤T / y1:=by
  refine digit_le (B:=B32) (n:=m) (v:=zAf B32 V) (u:=zAf B32 X) (Nat.div_mul_le_self _ _) (by rw [bB];exact hvv) ?_ hy0
  rw [hval,bB (T+1),bA,cA];omega
 have hmax:zAf B32 X / zAf B32 V≤4294967295:=by
  have:zAf B32 X / zAf B32 V<B32:=quot_lt hlt;have e:=zCA;omega
 have hTy:x0<y1→T / y1≤4294967295:=fun h=>by
  have:T / y1<B32:=quot_lt (by rw [hT];exact next_lt (B:=B32) h hx1)
  have e:=zCA;omega
 have HX:=zq hX;have HXL:=zq hXl;have HVL:=zq hVn;have HG:=zq hguess;have HM:=zq hmax;have HTY:=zq hTy;clear hcl2 eu0 eu1 ex0 ex1 ey1 hX hXl hVn hT hval hvv htk hguess hmax hTy
 go_enter Tryz.func227,Tryz.ntmps227
 go_wp2
 go_quiet (fail)
 go_wp2
 go_quiet (fail)
 go_upto_if 37 with fail
 go_cut [7] (fun qv wx=>∃ q0:Nat,StRel w (zAf B32 X) (zAf B32 V) q0 qv wx)
 case first =>
  by_cases hc:x0<y1
  ·have hcb:decide (x0<y1)=true:=cW hc
   have ht1:(T:Int) / (y1:Int)≤4294967295:=by
    have:=HTY.o hc;rw [←Int.natCast_ediv];omega
   have ht2:0≤(T:Int) / (y1:Int):=Int.ediv_nonneg (dG _) (dG _);have HQ1:Hid (T / y1≤4294967295):=HTY.o hc;rw [hcb];clear hc hcb;go_wp2;go_meet;exact ⟨T / y1,rfl,HQ1.o,HG.o,qj⟩
  ·have hcb:decide (x0<y1)=false:=cX hc
   rw [hcb];clear hc hcb;go_wp2;go_meet;exact ⟨4294967295,rfl,aB _,HM.o,qj⟩
 case rest =>
  obtain ⟨q0,rfl,hq1,hq2,hbwc⟩:=hcut;have HQ:=zq hq2;clear hq2 hor hT1 cv1 cu1 cu0;go_wp2
  go_loopg [7] q0 (StRel w (zAf B32 X) (zAf B32 V))
  case atStart=>exact ⟨rfl,hq1,HQ.o,hbwc⟩
  case round =>
   clear hq1 HQ hbwc;obtain ⟨rfl,hgk,hge,hbw⟩:=hrel;have HGE:=zq hge;clear hge
   have hmk:∀ w:World,(Instr.makeSlice 85 (.int .i64 ((m:Int)+1+1)) (.int .i64 ((m:Int)+1+1))).run Tryz.prog w =
     .ok (.slice (some ⟨w.heap.size,0,none⟩) (m+2) (m+2)) (w.alloc (.cells (Array.replicate (m+2) (.int .u32 0)) 197)):=mk_nat (m+2) za
   go_wp2;clear hmk;have hnew:=zCh.new wr (m+2);have hbel:Below wr.heap.size wr (wr.alloc (.cells (Array.replicate (m+2) (.int .u32 0)) 197)):=(aS _ _).alloc (aB _) _;have hszw:w.heap.size≤wr.heap.size:=hbw.size;have hbw1:=zAa hbw hbel;obtain ⟨g2,hg2⟩:∃ g2,g2=wr.heap.size:=⟨_,rfl⟩;rw [←hg2] at hnew;obtain ⟨w1,hw1⟩:∃ w1,w1=wr.alloc (.cells (Array.replicate (m+2) (.int .u32 0)) 197):=⟨_,rfl⟩;rw [←hw1] at hnew hbw1;rw [←hg2,←hw1];have hwg:w.heap.size≤g2:=by rw [hg2];exact hszw
   have HBW:=zq hbw1;clear hg2 hbel hw1 hszw hbw hbw1;obtain ⟨q,hqq⟩:∃ q,q=gk:=⟨_,rfl⟩;subst hqq
   go_loopg [8,9,51] (m+2) (StRel2 w g2 X V (m+1) q)
   case atStart=>exact ⟨0,0,0,List.replicate (m+2) 0,za,rfl,rfl,rfl,za,za,fun _=>rfl,hnew,ze,WLt.zeros zCp _,je,HBW.o,hwg⟩
   case round =>
    obtain ⟨i,bo,cy,W,him,rfl,rfl,rfl,hbo,hcy,hlast,hAW,hWl,hWW,hVal,hbw,hwg'⟩:=hrel;have HIM:=zq him;have HLA:=zq hlast;have HWL:=zq hWl;have HVAL:=zq hVal;clear him hlast hWl hVal hwg'
    by_cases hi:i<m+2
    ·have hiX:i<X.length:=by have:=HXL.o;omega
     have hiW:i<W.length:=by have:=HWL.o;omega
     obtain ⟨b1,o1,hA1,hb1,hcl1⟩:=(hXr.below hbw).at_ za
     injection hA1 with hA1
     injection hA1 with hA1 hA1'
     subst hA1 hA1';have hc0:=hcl1 i hiX;rw [zBK] at hc0;have hu:X[i]<4294967296:=hXW.get i hiX;have hc1:=hAW.cell i hiW;have hf1:=hAW.frozen i;clear hcl1
     by_cases him:i<m+1
     ·have hiV:i<V.length:=by have:=HVL.o;omega
      obtain ⟨b3,o3,hA3,hb3,hcl3⟩:=(h2.below hbw).at_ za
      injection hA3 with hA3
      injection hA3 with hA3 hA3'
      subst hA3 hA3';have hc3:=hcl3 i hiV;rw [zBK] at hc3;have hv:V[i]<4294967296:=hV.get i hiV;clear hcl3;obtain ⟨p,hp⟩:∃ p,p=q*V[i]:=⟨_,rfl⟩
      have hpB:p≤18446744065119617025:=by
       have h9:q*V[i]≤4294967295*4294967295:=Nat.mul_le_mul hgk za;rw [hp];omega
      have hpe:(q:Int)*(V[i]:Int)=(p:Int):=by rw [hp];exact (cT _ _).symm
      obtain ⟨C,hC⟩:∃ C,C=cy+p:=⟨_,rfl⟩;have hCe:(cy:Int)+(p:Int)=(C:Int):=by rw [hC];exact (Int.natCast_add _ _).symm
      have hCB:C≤18446744069414584320:=za;obtain ⟨lo,hlo⟩:∃ lo,lo=C % 4294967296:=⟨_,rfl⟩;have hand:bits .and .u64 (C:Int) 4294967295=(lo:Int):=by rw [hlo];exact and_mask C za
      have hloB:lo<4294967296:=za;obtain ⟨t1,ht1,ht1'⟩:=wrap_nat ((X[i]:Int) - (lo:Int));obtain ⟨t,ht,ht'⟩:=wrap_nat ((t1:Int) - (bo:Int));have htB:t≤18446744073709551615:=za;have ht1B:t1≤18446744073709551615:=za;have HP:=zq hp;have HC:=zq hC;have HLO:=zq hlo;have HT1:=zq ht1';have HT:=zq ht';clear hp hC hlo ht1' ht';go_wp2
      go_roundg (gk - 1)
      case measure=>have:=HIM.o;omega
      case rel=>exact StRel2.step HIM.o hi hAW HWL.o hWW hbo HVAL.o hbw hwg (zAD hiX) (zAD hiV) hu (by rw [←HP.o];exact HC.o) hCB (fun e=>za) (by rw [←HLO.o];exact HT1.o) HT.o ze ze rfl ze
     ·obtain rfl:i=m+1:=by omega
      have HVT:Hid (zAf B32 (V.take (m+1+1))=zAf B32 (V.take (m+1))+B32 ^ (m+1)*0):=by
       show zAf B32 (V.take (m+1+1))=zAf B32 (V.take (m+1))+B32 ^ (m+1)*0
       rw [cY (by have:=HVL.o;omega),cY (by have:=HVL.o;omega),bT,cZ]
      have hand:bits .and .u64 (cy:Int) 4294967295=(cy:Int):=by
       rw [and_mask cy za,bI za]
      obtain ⟨t1,ht1,ht1'⟩:=wrap_nat ((X[m+1]:Int) - (cy:Int));obtain ⟨t,ht,ht'⟩:=wrap_nat ((t1:Int) - (bo:Int));have htB:t≤18446744073709551615:=za;have ht1B:t1≤18446744073709551615:=za;have HT1:=zq ht1';have HT:=zq ht';clear ht1' ht';go_wp2
      go_roundg (gk - 1)
      case measure=>have:=HIM.o;omega
      case rel=>exact StRel2.step (C:=cy) HIM.o hi hAW HWL.o hWW hbo HVAL.o hbw hwg (zAD hiX) HVT.o hu ze za (fun e=>hcy) (by rw [bI za];exact HT1.o) HT.o ze ze rfl ze
    ·obtain rfl:i=m+2:=by have:=HIM.o;omega
     obtain rfl:cy=0:=HLA.o rfl
     have HW:Hid ((zAf B32 W:Int)=(zAf B32 X:Int) - (q:Int)*(zAf B32 V:Int)+(B32:Int) ^ (m+2)*(bo:Int)):=by
      have h1:=HVAL.o;rw [cY (by have:=HWL.o;omega),cY (by have:=HXL.o;omega),cY (by have:=HVL.o;omega)] at h1
      show _=_
      simpa using h1
     have HWB:Hid (zAf B32 W<B32 ^ (m+2)):=by
      have:=zDs hWW
      rwa [HWL.o] at this
     rcases bR bo with hb0 | hb0
     ·subst hb0
      have hAU:=hA.below hbw;have hn9:=HWL.o
      go_wp2_with (with_reducible refine wpList_copyU (.tmp 88) (.tmp 89) rfl rfl g j (m+2) cu (m+2) g2 U W rfl rfl hAU hAW hn9 hj ?_;intro w9 hA9 hg9)
      clear hn9
      have HQE:Hid (q=zAf B32 X / zAf B32 V∧zAf B32 W=zAf B32 X % zAf B32 V):=by
       have h1:=HW.o
       have hvp:0<zAf B32 V:=by
        rcases bR (zAf B32 V) with h | h
        ·rw [h,Nat.zero_mul] at hlt
         exact absurd hlt (Nat.not_lt_zero _)
        ·exact h
       have h2:q*zAf B32 V+zAf B32 W=zAf B32 X:=by
        have:((q*zAf B32 V+zAf B32 W:Nat):Int)=((zAf B32 X:Nat):Int):=by
         rw [Int.natCast_add,cT,h1,show ((0:Nat):Int)=0 from rfl,Int.mul_zero]
         generalize ((q:Int)*((zAf B32 V:Nat):Int))=R at *;omega
        exact Int.ofNat.inj this
       have h3:q≤zAf B32 X / zAf B32 V:=(Nat.le_div_iff_mul_le hvp).2 (by rw [←h2];exact dK _ _)
       have h4:q=zAf B32 X / zAf B32 V:=Nat.le_antisymm h3 HGE.o;refine ⟨h4,?_⟩
       have h5:=Nat.div_add_mod (zAf B32 X) (zAf B32 V);rw [←h4,bB] at h5;exact Nat.add_left_cancel (h2.trans h5.symm)
      go_wp2;go_ret
      refine ⟨by rw [←HQE.o.1];rfl,W,HWL.o,hWW,HQE.o.2,hA9,?_⟩
      exact ⟨hg9.os.trans hbw.os,hg9.tape.trans hbw.tape,hg9.output.trans hbw.output,dI hbw.size hg9.size,fun i hi hne=>(hg9.block i (dL hi hbw.size) hne).trans (hbw.block i hi)⟩
     ·obtain rfl:bo=1:=by omega
      have HQ1:Hid (zAf B32 X / zAf B32 V<q):=by
       show _<_
       have h1:=HW.o;have h2:=HWB.o
       rcases aU (zAf B32 X / zAf B32 V) q with h | h
       ·exact h
       ·exfalso
        have h3:q*zAf B32 V≤zAf B32 X:=dI (aP _ h) (Nat.div_mul_le_self _ _);have h4:((zAf B32 W:Nat):Int)<((B32 ^ (m+2):Nat):Int):=Int.ofNat_lt.2 h2;rw [Int.natCast_pow] at h4;have h5:((q*zAf B32 V:Nat):Int)≤((zAf B32 X:Nat):Int):=Int.ofNat_le.2 h3;rw [cT] at h5;generalize ((B32:Int) ^ (m+2))=P at *;generalize ((q:Int)*((zAf B32 V:Nat):Int))=R at *;omega
      have hq1:1≤q:=bE (bF _) HQ1.o;go_wp2
      go_roundg (q - 1)
      case measure=>omega
      case rel=>exact ⟨by rw [show (((q - 1:Nat)):Int)=(q:Int) - 1 by omega],za,Nat.le_sub_one_of_lt HQ1.o,hbw⟩
theorem Nt.zero (w:World):Nt w none 0 0:=⟨Rd1.nil,aB _⟩
theorem Cmp_ge {A A2:Option Addr} {c c2 a b:Nat} {w:World} (h:Nt w A c a) (h2:Nt w A2 c2 b) (hn:(zAc B32 a).length≤1000000000) (hge:b≤a) :
  ∃ z:Int,0≤z∧Calls Tryz.prog 116 #[ntV A c a,ntV A2 c2 b] w (zBs (.int .i64 z) w):=by
 refine ⟨zCZ a b,?_,Cmp_c A A2 c c2 a b w h h2 hn⟩
 unfold zCZ;rw [aC za]
 split<;>omega
theorem Div_lt (A A2:Option Addr) (c c2 a b:Nat) (w:World) (h:Nt w A c a) (h2:Nt w A2 c2 b) (hn:(zAc B32 a).length≤400000000) (hlt:a<b) :
  Calls Tryz.prog 168 #[ntV A c a,ntV A2 c2 b] w (GivesNN (a / b) (a % b) w):=by
 rw [Nat.div_eq_of_lt hlt,bI hlt];have hc:=Cmp_c A A2 c c2 a b w h h2 za;rw [zBF hlt] at hc;have HC:=zq hc;clear hc hlt
 go_enter Tryz.func168,Tryz.ntmps168
 go_wp2_with fail
 with_reducible refine HC.o.mono ?_
 rintro e w' ⟨rfl,nd,rfl⟩;clear HC;go_wp2;go_ret2
 exact ⟨none,0,A,c,rfl,Nt.zero _,h.drewN nd,zAd (aS _ _) nd⟩
theorem Div_small (A A2:Option Addr) (c c2 a b:Nat) (w:World) (h:Nt w A c a) (h2:Nt w A2 c2 b) (hn:(zAc B32 a).length≤2) (hge:b≤a) (hb:0<b) :
  Calls Tryz.prog 168 #[ntV A c a,ntV A2 c2 b] w (GivesNN (a / b) (a % b) w):=by
 obtain ⟨z,hz,hc⟩:=Cmp_ge h h2 za hge;have hm:=dI (zAt zAu hge) hn;have la:=small_lt hn;have lb:=small_lt hm;have HC:=zq hc;clear hc hge
 go_enter Tryz.func168,Tryz.ntmps168
 go_wp2_with fail
 with_reducible refine HC.o.mono ?_
 rintro e w' ⟨rfl,nd,rfl⟩;clear HC
 go_wp2_with fail
 with_reducible refine (zDh A c a _ (h.drewN nd) hn).mono ?_
 rintro e w' ⟨rfl,nd1,rfl⟩
 go_wp2_with fail
 have h2d:=h2.drewN (nd+nd1);with_reducible refine (zDh A2 c2 b _ h2d hm).mono ?_
 rintro e w' ⟨rfl,nd2,rfl⟩;obtain ⟨q,hq⟩:∃ q,a / b=q:=⟨_,rfl⟩;obtain ⟨r,hr⟩:∃ r,a % b=r:=⟨_,rfl⟩;have hqa:q≤a:=by rw [←hq];exact dM a b
 have hra:r≤a:=by rw [←hr];exact Nat.mod_le a b
 have e1:(a:Int) / (b:Int)=(q:Int):=by rw [←hq];exact (Int.natCast_ediv a b).symm
 have e2:(a:Int).tmod (b:Int)=(r:Int):=by rw [IntWalk.rem_in _ _ za,←hr];exact (Int.natCast_emod a b).symm
 have e3:IntKind.u64.wrap (q:Int)=(q:Int):=IntWalk.u64_in _ za;have e4:IntKind.u64.wrap (r:Int)=(r:Int):=IntWalk.u64_in _ za;have hbz:¬ b=0:=za
 have hbq:∀ W:World,(binOp .quo 95 (.int .u64 (a:Int)) (.int .u64 (b:Int))).run Tryz.prog W = .ok (.int .u64 (q:Int)) W:=fun W=>by
  simp [go_sem,hbz,e1,e3]
 have hbr:∀ W:World,(binOp .rem 95 (.int .u64 (a:Int)) (.int .u64 (b:Int))).run Tryz.prog W = .ok (.int .u64 (r:Int)) W:=fun W=>by
  simp [go_sem,hbz,e2]
 have hqB:q<18446744073709551616:=za;have hrB:r<18446744073709551616:=za;have HQ1:=zq hq;have HR1:=zq hr;clear hq hr;have HQ:=zq (fun W:World=>natOf_c q W hqB)
 have HR:=zq (fun W:World=>natOf_c r W hrB)
 clear hqB hrB;go_wp2
 go_region_held3 (fun _=>True) (trivial)
  (first
   | ((go_at_call 120;(with_reducible refine (HQ.o _).mono ?_);rintro e w6 ⟨A5,c5,rfl,hn5,hb5⟩))
   | ((go_at_call 120;(with_reducible refine (HR.o _).mono ?_);rintro e w7 ⟨A6,c6,rfl,hn6,hb6⟩)))
 all_goals
  have hb7:Below w.heap.size w w6:=(zAd (aS w.heap.size w) _).trans hb5;have hb8:Below w.heap.size w w7:=hb7.trans (hb6.mono hb7.size);have hn7:=hn5.below hb6;clear hb5 hb6 hb7 hn5;go_wp2;go_ret2
  rw [HQ1.o,HR1.o];exact ⟨A5,c5,A6,c6,rfl,hn7,hn6,hb8⟩
theorem words_one {b:Nat} (h:(zAc B32 b).length=1):zAc B32 b=[b]:=by
 have hv:=zAl zAu b
 match hw:zAc B32 b,h with
 | [x],_ =>
  rw [hw,zBN] at hv;rw [hv]
theorem Div_word (A A2:Option Addr) (c c2 a b:Nat) (w:World) (h:Nt w A c a) (h2:Nt w A2 c2 b) (hn:(zAc B32 a).length≤400000000) (hn2:2<(zAc B32 a).length) (hm:(zAc B32 b).length=1) (hge:b≤a) :
  Calls Tryz.prog 168 #[ntV A c a,ntV A2 c2 b] w (GivesNN (a / b) (a % b) w):=by
 obtain ⟨z,hz,hc⟩:=Cmp_ge h h2 za hge;have HC:=zq hc;have hw:=words_one hm;have hl:=zAK zAu b;rw [hw] at hl;have hb2:b≤4294967295:=by have:=hl.head;have e:=zCA;omega
 have hb1:1≤b:=by
  rcases bR b with h0 | h0
  ·rw [(zCv zAu).2 h0] at hm
   simp at hm
  ·exact h0
 obtain ⟨r2,hcap2⟩:=h2;rw [hw] at r2;obtain ⟨b2,o2,hA2,hlt2,hcl⟩:=r2.at_ ze;subst hA2;have hc0:=hcl 0 ze;rw [zBK] at hc0;simp only [dD,cZ] at hc0;have e2:ntV (some ⟨b2,o2,none⟩) c2 b = .slice (some ⟨b2,o2,none⟩) 1 c2:=by unfold ntV;rw [hw];rfl
 rw [e2] at HC ⊢;have hcap3:1≤c2:=by rw [hw] at hcap2;exact hcap2
 clear hc hge hw hl hcl hm e2 r2 hcap2
 go_enter Tryz.func168,Tryz.ntmps168
 go_wp2_with fail
 with_reducible refine HC.o.mono ?_
 rintro e w' ⟨rfl,nd,rfl⟩;clear HC
 go_wp2_with fail
 with_reducible refine (small_no A c a _ (h.drewN nd) hn2 za).mono ?_
 rintro e w' ⟨rfl,nd1,rfl⟩
 go_wp2_with fail
 with_reducible refine (divWord_c A c a b _ (h.drewN (nd+nd1)) za hb1 hb2).mono ?_
 rintro e w' ⟨A5,c5,A6,c6,rfl,h5,h6,hb⟩;go_wp2;go_ret2
 exact ⟨A5,c5,A6,c6,rfl,h5,h6,(zAd (aS w.heap.size w) _).trans hb⟩
theorem step_n (g j cu cv n:Nat) (A2:Option Addr) (U V X:List Nat) (w:World) (hn1:1≤n) (hA:zCh w g U) (hj:j+(n+1)≤U.length) (hX:X=(U.drop j).take (n+1)) (hU:WLt B32 U) (h2:Wds w A2 V) (hV:WLt B32 V) (hVn:V.length=n) (hm:n≤900000000)
  (hv1:∀ h:n - 1<V.length,0<V[n - 1]) (hlt:zAf B32 X<zAf B32 V*B32) :
  Calls Tryz.prog 227 #[.slice (some ⟨g,j,none⟩) (n+1) cu,.slice A2 n cv] w (GivesSt g j (n+1) (zAf B32 X / zAf B32 V) (zAf B32 X % zAf B32 V) U w):=by
 obtain ⟨m,rfl⟩:∃ m,n=m+1:=⟨n - 1,za⟩;exact step_c g j cu cv m A2 U V X w hA hj hX hU h2 hV hVn za hv1 hlt
theorem shift_ok {x:Nat} (h0:0<x) (h:x<4294967296):1≤Lib.bitLen x∧Lib.bitLen x≤32∧x*2 ^ (32 - Lib.bitLen x)<4294967296:=by
 have hlt:∀ (f x:Nat),x<2 ^ f→x<2 ^ Lib.bitLenAux f x:=by
  intro f
  induction f with
  | zero=>intro x hx;simpa [Lib.bitLenAux] using hx
  | succ f ih =>
   intro x hx;unfold Lib.bitLenAux
   split
   ·next h=>rw [h];exact dH _
   ·have h1:x / 2<2 ^ f:=by rw [aZ] at hx;omega
    have h2:=ih (x / 2) h1;rw [dB];omega
 have hle:∀ (f x k:Nat),x<2 ^ k→Lib.bitLenAux f x≤k:=by
  intro f
  induction f with
  | zero=>intro x k _;simp [Lib.bitLenAux]
  | succ f ih =>
   intro x k hx;unfold Lib.bitLenAux
   split
   ·omega
   ·next h0 =>
    cases k with
    | zero=>simp at hx;omega
    | succ k =>
     have:=ih (x / 2) k (by rw [aZ] at hx;omega)
     omega
 have h1:Lib.bitLen x≤32:=hle 64 x 32 h;have h2:x<2 ^ Lib.bitLen x:=hlt 64 x (Nat.lt_trans h zd);refine ⟨?_,h1,?_⟩
 ·rcases bR (Lib.bitLen x) with e | e
  ·rw [e] at h2;simp at h2;omega
  ·exact e
 ·have h3:x*2 ^ (32 - Lib.bitLen x)<2 ^ Lib.bitLen x*2 ^ (32 - Lib.bitLen x):=dJ h2 (dH _)
  rw [←dB,show Lib.bitLen x+(32 - Lib.bitLen x)=32 by omega] at h3
  exact h3
def DvRel (w:World) (gu gv gq:Nat) (U0 V0:List Nat) (v na nb:Nat) (m:Nat) (jv:Value) (wr:World):Prop :=
 ∃ (U Q:List Nat) (z:Int),z=(m:Int) - 1∧jv = .int .i64 z∧m≤na - nb+1∧zCh wr gu U∧U.length=na+1∧WLt B32 U∧zCh wr gv V0∧zCh wr gq Q∧Q.length=na - nb+1∧WLt B32 Q∧U.take m=U0.take m ∧
  zAf B32 (U.drop m)=zAf B32 (U0.drop m) % v∧zAf B32 (Q.drop m)=zAf B32 (U0.drop m) / v∧Below w.heap.size w wr
theorem window {U U0:List Nat} {j n v na:Nat} (hU:U.length=na+1) (h0:U0.length=na+1) (hj:j+n+1≤na+1) (ht:U.take (j+1)=U0.take (j+1)) (hr:zAf B32 (U.drop (j+1))=zAf B32 (U0.drop (j+1)) % v) (hv:v<B32 ^ n) (hv0:0<v) (hW:WLt B32 U) :
  zAf B32 ((U.drop j).take (n+1))=zAf B32 (U.drop j)∧zAf B32 (U.drop j)<v*B32∧zAf B32 (U.drop (j+(n+1)))=0∧zAf B32 (U.drop j)=U0[j]'(by omega)+B32*(zAf B32 (U0.drop (j+1)) % v):=by
 have hjU:j<U.length:=za
 have e0:U[j]=U0[j]'(by omega):=by
  have h1:(U.take (j+1))[j]'(by rw [bN];omega)=U[j]:=cQ
  have h2:(U0.take (j+1))[j]'(by rw [bN];omega)=U0[j]'(by omega):=cQ
  rw [←h1,←h2];exact cV ht _
 have e1:=zCQ (B:=B32) hjU;have hx:=hW.get j hjU
 have hlt:zAf B32 (U.drop j)<v*B32:=by
  rw [e1,hr];exact next_lt (bJ _ hv0) hx
 have hz:zAf B32 (U.drop (j+1+n))=0:=zDQ (n:=n) (by rw [hr];exact Nat.lt_trans (bJ _ hv0) hv) za
 have ej:j+(n+1)=j+1+n:=za;refine ⟨?_,hlt,by rw [ej];exact hz,by rw [e1,hr,e0]⟩
 have e2:=zCo B32 (n+1) (U.drop j) (by rw [bV];omega)
 rw [List.drop_drop,ej,hz,bT,cZ] at e2;exact e2.symm
theorem lz_c (x:Nat) (w:World) (h:x<4294967296):Calls Tryz.prog 225 #[.int .u32 (x:Int)] w (zAB (.int .i64 (32 - (Lib.bitLen x:Int))) w):=by
 have h:=Any.bits_LeadingZeros32 Tryz.lays133 (x:Int) w za za
 change Calls Tryz.prog 225 _ _ _ at h
 rw [Int.toNat_natCast] at h;exact h.mono fun _ _ ⟨he,hw⟩=>⟨he,hw.symm⟩
theorem cutW (g j n N:Nat) (h:j+n+1≤N) (W:World):(Instr.slice 85 (.slice (some ⟨g,0,none⟩) N N) (some (.int .i64 (j:Int))) (some (.int .i64 ((j:Int)+(n:Int)+1))) none).run Tryz.prog W = .ok (.slice (some ⟨g,j,none⟩) (n+1) (N - j)) W:=by
 have e1:¬ N=j:=za;have h1:(0:Int)≤(j:Int):=za;have h2:(j:Int)≤(j:Int)+(n:Int)+1:=za;have h3:(j:Int)+(n:Int)+1≤(N:Int):=za;simp [go_sem,h1,h2,h3]
 exact ⟨fun e=>absurd e e1,za⟩
theorem cutV (A:Option Addr) (n N:Nat) (h:n≤N) (W:World):(Instr.slice 85 (.slice A N N) none (some (.int .i64 (n:Int))) none).run Tryz.prog W = .ok (.slice A n N) W:=by
 have h3:(n:Int)≤(N:Int):=za;simp [go_sem,h3]
def RvRel (w:World) (gu gq gr:Nat) (U Q:List Nat) (s nb:Nat) (m:Nat) (iv:Value) (wr:World):Prop :=
 ∃ (k:Nat) (R:List Nat),k+m=nb∧iv = .int .i64 k∧zCh wr gr R∧R.length=nb∧WLt B32 R∧2 ^ s*zAf B32 (R.take k)+U.getD 0 0 % 2 ^ s=zAf B32 (U.take k)+B32 ^ k*(U.getD k 0 % 2 ^ s) ∧
  zCh wr gu U∧zCh wr gq Q∧Below w.heap.size w wr∧w.heap.size≤gr∧gu<gr∧gq<gr
theorem RvRel.step {w wr:World} {gu gq gr:Nat} {U Q R:List Nat} {s nb k gk T:Nat} (hkm:k+gk=nb) (hlt:k<nb) (hR:zCh wr gr R) (hRl:R.length=nb) (hRW:WLt B32 R) (hs:s<32) (hU1:k+1<U.length) (hUW:WLt B32 U)
  (hV:2 ^ s*zAf B32 (R.take k)+U.getD 0 0 % 2 ^ s=zAf B32 (U.take k)+B32 ^ k*(U.getD k 0 % 2 ^ s)) (hU:zCh wr gu U) (hQ:zCh wr gq Q) (hb:Below w.heap.size w wr) (h1:w.heap.size≤gr) (h2:gu<gr) (h3:gq<gr)
  (hT:T=U[k]+4294967296*U[k+1]) {iv mv:Value} (hi:iv = .int .i64 ((k:Int)+1)) (hm:mv = .int .u32 ((T / 2 ^ s % 4294967296:Nat):Int)) {wd:World} (hd:∃ n,wd=(wr.drewN n).setCell ⟨gr,k,none⟩ mv):RvRel w gu gq gr U Q s nb (gk - 1) iv wd:=by
 obtain ⟨n,rfl⟩:=hd;subst hi hm;have hR':zCh (wr.drewN n) gr R:=hR;have hU':zCh (wr.drewN n) gu U:=hU;have hQ':zCh (wr.drewN n) gq Q:=hQ;refine ⟨k+1,R.set k (T / 2 ^ s % 4294967296),za,zi,hR'.set k _,by simpa using hRl,hRW.set (modB _) k,?_,hU'.far (show gu≠gr by omega) _,hQ'.far (show gq≠gr by omega) _,(zAd hb n).setCell h1 _,h1,h2,h3⟩
 rw [zEr za,zAD (by omega:k<U.length)]
 have e0:U.getD k 0=U[k]:=by simp [List.getD,show k<U.length by omega]
 have e1:U.getD (k+1) 0=U[k+1]:=by simp [List.getD,hU1]
 rw [e1];rw [e0] at hV;have hx:=hUW.get k za
 have hdv:(2 ^ s)∣B32:=by
  refine ⟨2 ^ (32 - s),?_⟩
  rw [←dB,show s+(32 - s)=32 by omega]
  rfl
 exact shr_col zCp (dH s) hdv hx hV (by rw [hT];rfl)
theorem divisor {r V:List Nat} {top s:Nat} (hr:WLt B32 r) (hn:0<r.length) (htop:r.getLast?=some top) (h1:top*2 ^ s<4294967296) (h0:0<top) (hs:s<32) (hVl:V.length=r.length+1) (hVW:WLt B32 V) (hVv:zAf B32 V=zAf B32 r*2 ^ s) :
  zAf B32 r*2 ^ s<B32 ^ r.length∧0<zAf B32 r*2 ^ s∧zAf B32 (V.take r.length)=zAf B32 r*2 ^ s∧(∀ h:r.length - 1<(V.take r.length).length,0<(V.take r.length)[r.length - 1]):=by
 have ht:r[r.length - 1]'(by omega)=top:=by
  rw [List.getLast?_eq_getElem?,List.getElem?_eq_getElem za] at htop
  injection htop
 have e1:=zAD (B:=B32) (l:=r) (i:=r.length - 1) za;rw [show r.length - 1+1=r.length by omega,bX,ht] at e1
 have e2:=zDs (hr.take (r.length - 1));rw [bN,bO za] at e2;have e3:B32 ^ (r.length - 1)*B32=B32 ^ r.length:=by rw [←aZ,show (r.length - 1).succ=r.length by omega]
 have h2:(top+1)*2 ^ s≤B32:=by
  have e4:(4294967296:Nat)=2 ^ (32 - s)*2 ^ s:=by rw [←dB,show 32 - s+s=32 by omega]
  have h3:top<2 ^ (32 - s):=by
   rw [e4] at h1;exact Nat.lt_of_mul_lt_mul_right h1
  have h4:=aP (2 ^ s) (show top+1≤2 ^ (32 - s) from h3)
  rw [←e4] at h4;exact h4
 have hp:=dH s
 have hlt:zAf B32 r*2 ^ s<B32 ^ r.length:=by
  have h5:zAf B32 r+1≤B32 ^ (r.length - 1)*(top+1):=by rw [bA,cA];omega
  have h6:=aP (2 ^ s) h5;have h7:=bL (B32 ^ (r.length - 1)) h2;rw [e3,←bC] at h7;rw [bD,Nat.one_mul] at h6;omega
 have hge:B32 ^ (r.length - 1)≤zAf B32 r:=by
  have:=bL (B32 ^ (r.length - 1)) (show 1≤top from h0)
  rw [cA] at this;omega
 have hbp:0<B32 ^ (r.length - 1):=Nat.pow_pos zCp;have hpos:0<zAf B32 r*2 ^ s:=dN za hp;have hz:zAf B32 (V.drop (0+r.length))=0:=zDQ (n:=r.length) (by rw [dF,hVv];exact hlt) za
 have hsp:=zCo B32 r.length V za;rw [aQ] at hz;rw [hz,bT,cZ,hVv] at hsp;refine ⟨hlt,hpos,hsp.symm,fun h=>?_⟩
 rcases bR ((V.take r.length)[r.length - 1]) with h0 | h0
 ·exfalso
  have e5:=zAD (B:=B32) (l:=V.take r.length) (i:=r.length - 1) h;rw [h0,bT,cZ,List.take_take,List.take_take,bO za,bO za] at e5;rw [show r.length - 1+1=r.length by omega,←hsp] at e5
  have e6:=zDs (hVW.take (r.length - 1));rw [bN,bO za] at e6;have e7:=bL (zAf B32 r) hp;rw [cA] at e7;omega
 ·exact h0
theorem first_part {U:List Nat} {a b s na nb:Nat} (hU:U.length=na+1) (hUv:zAf B32 U=a*2 ^ s) (ha:a<B32 ^ na) (hb:B32 ^ (nb - 1)≤b) (h1:1≤nb) (h2:nb≤na):zAf B32 (U.drop (na - nb+1))<b*2 ^ s:=by
 have e:=zCo B32 (na - nb+1) U za;have hp:=dH s
 have h3:B32 ^ (na - nb+1)*zAf B32 (U.drop (na - nb+1))<B32 ^ na*2 ^ s:=by
  have:=dJ ha hp;omega
 have e2:B32 ^ na=B32 ^ (na - nb+1)*B32 ^ (nb - 1):=by rw [←dB,show na - nb+1+(nb - 1)=na by omega]
 rw [e2,bC] at h3;exact dL (Nat.lt_of_mul_lt_mul_left h3) (aP _ hb)
theorem Div_long (A A2:Option Addr) (c c2 a b:Nat) (w:World) (h:Nt w A c a) (h2:Nt w A2 c2 b) (hn:(zAc B32 a).length≤400000000) (hn2:2<(zAc B32 a).length) (hm:2≤(zAc B32 b).length) (hge:b≤a) :
  Calls Tryz.prog 168 #[ntV A c a,ntV A2 c2 b] w (GivesNN (a / b) (a % b) w):=by
 obtain ⟨z,hz,hc⟩:=Cmp_ge h h2 za hge;have hlen:=zAt zAu hge
 obtain ⟨top,htop,ht0⟩:∃ top,(zAc B32 b).getLast?=some top∧0<top:=by
  have hb0:=zCn (B:=B32) zAu (n:=b) za;exact ⟨_,by rw [List.getLast?_eq_getElem?,List.getElem?_eq_getElem za],za⟩
 have hl1:=zAK zAu a;have hl2:=zAK zAu b;have HVA:=zq (zAl zAu a);have HVB:=zq (zAl zAu b);obtain ⟨h,hcap⟩:=h;obtain ⟨h2,hcap2⟩:=h2;have hsm:=small_no A c a w ⟨h,hcap⟩ hn2 za;have HS:=zq (fun nd:Nat=>small_no A c a (w.drewN nd) ⟨h.drewN nd,hcap⟩ hn2 za)
 have HC:=zq hc;clear hc hsm;unfold ntV at HC HS ⊢;generalize zAc B32 a=l at *;generalize zAc B32 b=r at *;obtain ⟨na,hna⟩:∃ na,na=l.length:=⟨_,rfl⟩;obtain ⟨nb,hnb⟩:∃ nb,nb=r.length:=⟨_,rfl⟩;obtain ⟨b2,o2,hA2,hlt2,hcl⟩:=h2.at_ za;subst hA2;have hc0:=hcl (r.length - 1) za
 have htop2:r[r.length - 1]'(by omega)=top:=by
  rw [List.getLast?_eq_getElem?,List.getElem?_eq_getElem za] at htop
  injection htop
 have ht1:top<4294967296:=by rw [←htop2];exact hl2.get _ za
 rw [zBK,htop2] at hc0;obtain ⟨hs1,hs2,hs3⟩:=shift_ok ht0 ht1;have HLZ:=zq (fun W:World=>lz_c top W ht1)
 obtain ⟨s,hs⟩:∃ s,s=32 - Lib.bitLen top:=⟨_,rfl⟩;have hsI:(32:Int) - (Lib.bitLen top:Int)=(s:Int):=za;rw [hsI] at HLZ;have hs4:s<32:=za;have HL1:=zq (fun W (hW:Wds W A l)=>left_l A c s l W hW hl1 za hs4)
 have HL2:=zq (fun W (hW:Wds W (some ⟨b2,o2,none⟩) r)=>left_l (some ⟨b2,o2,none⟩) c2 s r W hW hl2 za hs4)
 have HTOP:Hid (r.getLast?=some top∧top*2 ^ s<4294967296∧0<top):=⟨htop,by rw [hs];exact hs3,ht0⟩
 rw [←hnb] at hc0;clear htop htop2 hs1 hs2 hs3 hs hsI hcl
 have hmk:∀ w:World,(Instr.makeSlice 85 (.int .i64 ((na:Int) - (nb:Int)+1)) (.int .i64 ((na:Int) - (nb:Int)+1))).run Tryz.prog w =
   .ok (.slice (some ⟨w.heap.size,0,none⟩) (na - nb+1) (na - nb+1)) (w.alloc (.cells (Array.replicate (na - nb+1) (.int .u32 0)) 197)):=by
  have e:(na:Int) - (nb:Int)+1=((na - nb+1:Nat):Int):=za;rw [e];exact mk_nat (na - nb+1) za
 rw [←hna] at hn hn2 hlen hcap;rw [←hnb] at hm hlen hcap2;simp only [←hna,←hnb] at HS HL1 HL2 HC ⊢;have HNA:=zq hna;have HNB:=zq hnb;clear hna hnb
 go_enter Tryz.func168,Tryz.ntmps168
 go_wp2_with fail
 with_reducible refine HC.o.mono ?_
 rintro e w' ⟨rfl,nd,rfl⟩;clear HC
 go_wp2_with fail
 with_reducible refine (HS.o nd).mono ?_
 rintro e w' ⟨rfl,nd1,rfl⟩;clear HS
 go_wp2_with fail
 with_reducible refine (HLZ.o _).mono ?_
 rintro e w' ⟨rfl,rfl⟩;clear HLZ
 go_wp2_with fail
 with_reducible refine (HL1.o _ (h.drewN (nd+nd1))).mono ?_
 rintro e w3 ⟨gu,U,rfl,hU,hUl,hUW,hUv,hb3,hg3⟩;clear HL1;have hb3':Below w.heap.size w w3:=(zAd (aS w.heap.size w) _).trans hb3;have HB3:=zq hb3';have hg3':w.heap.size≤gu:=hg3;clear hb3 hb3' hg3
 go_wp2_with fail
 with_reducible refine (HL2.o _ (h2.below HB3.o)).mono ?_
 rintro e w4 ⟨gv,V,rfl,hV,hVl,hVW,hVv,hb4,hg4⟩;clear HL2;have hU4:=hU.below hb4;have hgu3:=hU.lt;have HB4:=zq (zAa HB3.o hb4);have hz3:=HB3.o.size;clear hb4 hU
 go_wp2_with fail
 have hnew:=zCh.new w4 (na - nb+1);have hbel:Below w4.heap.size w4 (w4.alloc (.cells (Array.replicate (na - nb+1) (.int .u32 0)) 197)):=(aS _ _).alloc (aB _) _;have hU5:=hU4.below hbel;have hV5:=hV.below hbel;have hgv4:=hV.lt;have hbw5:=zAa HB4.o hbel;obtain ⟨gq,hgq⟩:∃ gq,gq=w4.heap.size:=⟨_,rfl⟩;obtain ⟨w5,hw5⟩:∃ w5,w5=w4.alloc (.cells (Array.replicate (na - nb+1) (.int .u32 0)) 197):=⟨_,rfl⟩;rw [←hgq] at hnew;rw [←hw5] at hnew hU5 hV5 hbw5;rw [←hgq,←hw5];have hgv:gu<gv:=za;have hgqv:gv<gq:=za;have HB5:=zq hbw5;clear hbel hbw5 hw5 hgq hmk hU4 hV HB4 HB3 hgv4 hgu3 hz3 hg4 hc0 hlt2;obtain ⟨htop,hts,htp⟩:=HTOP.o;have hrn:=HNB.o;have hln:=HNA.o;have HD:=divisor hl2 za htop hts htp hs4 za hVW hVv;rw [←hrn,HVB.o] at HD
 have hbB:B32 ^ (nb - 1)≤b:=by
  have:=zEq (B:=B32) (l:=r) za (by rw [List.getLast?_eq_getElem?,List.getElem?_eq_getElem za] at htop;injection htop with e;omega)
  rwa [←hrn,HVB.o] at this
 have haB:a<B32 ^ na:=by
  have:=zDs hl1
  rwa [HVA.o,←hln] at this
 rw [HVA.o] at hUv;rw [HVB.o] at hVv;obtain ⟨v,hv⟩:∃ v,v=b*2 ^ s:=⟨_,rfl⟩;have hF:=first_part hUl hUv haB hbB za hlen;rw [←hv] at HD hF;obtain ⟨HD1,HD2,HD3,HD4⟩:=HD;obtain ⟨Vn,hVn⟩:∃ Vn,Vn=V.take nb:=⟨_,rfl⟩;rw [←hVn] at HD3 HD4;have hVnl:Vn.length=nb:=by rw [hVn,bN];omega
 have HVN:=zq hVn;have HVNL:=zq hVnl;have hVnW:WLt B32 Vn:=by rw [hVn];exact hVW.take nb
 have HV:=zq hv;have HD1:=zq HD1;have HD3:=zq HD3;have HD4:=zq HD4;have HF:=zq hF;have HUV:=zq hUv;have HUL:=zq hUl;clear htop hts htp hrn hln hbB haB hv hF hVn hVnl hUv hVv hUl HTOP hl1 hl2 hcap hcap2 h h2 HVA HVB HNA HNB hge hVl
 go_loopg [15] (na - nb+1) (DvRel w gu gv gq U V v na nb)
 case atStart =>
  refine ⟨U,List.replicate (na - nb+1) 0,_,rfl,?_,aB _,hU5,HUL.o,hUW,hV5,hnew,ze,WLt.zeros zCp _,rfl,(bI HF.o).symm,?_,HB5.o⟩
  ·congr 1;omega
  ·rw [aA ze,Nat.div_eq_of_lt HF.o];rfl
 case round =>
  clear hU5 hV5 hnew;obtain ⟨U',Q,zz,hzz,rfl,hgk,hU',hUl',hUW',hV',hQ,hQl,hQW,hTk,hRm,hQt,hbw⟩:=hrel;have HTK:=zq hTk;have HRM:=zq hRm;have HQT:=zq hQt;have HQL:=zq hQl;have HUL':=zq hUl';clear hTk hRm hQt hQl hUl'
  rcases bR gk with h0 | h0
  ·subst h0
   obtain rfl:zz = -1:=hzz
   have hrem:zAf B32 U'=(a % b)*2 ^ s:=by
    have:=HRM.o
    rwa [dF,dF,HUV.o,HV.o,Nat.mul_mod_mul_right] at this
   have hquo:zAf B32 Q=a / b:=by
    have:=HQT.o
    rwa [dF,dF,HUV.o,HV.o,Nat.mul_div_mul_right _ _ (dH s)] at this
   have hrl:zAf B32 U'<B32 ^ nb:=by
    have:=HRM.o;rw [dF] at this;rw [this];exact Nat.lt_trans (bJ _ HD2) HD1.o
   have HREM:=zq hrem;have HQUO:=zq hquo;have HRL:=zq hrl;clear hrem hquo hrl HTK HRM HQT HD3 HD4
   have hmk:∀ w:World,(Instr.makeSlice 85 (.int .i64 (nb:Int)) (.int .i64 (nb:Int))).run Tryz.prog w =
     .ok (.slice (some ⟨w.heap.size,0,none⟩) nb nb) (w.alloc (.cells (Array.replicate nb (.int .u32 0)) 197)):=mk_nat nb za
   go_wp2;clear hmk;have hnew:=zCh.new wr nb;have hbel:Below wr.heap.size wr (wr.alloc (.cells (Array.replicate nb (.int .u32 0)) 197)):=(aS _ _).alloc (aB _) _;have hU5:=hU'.below hbel;have hQ5:=hQ.below hbel;have hgu5:=hU'.lt;have hgq5:=hQ.lt;have hbw5:=zAa hbw hbel;have hsz5:=hbw.size;obtain ⟨gr,hgr⟩:∃ gr,gr=wr.heap.size:=⟨_,rfl⟩;obtain ⟨w5,hw5⟩:∃ w5,w5=wr.alloc (.cells (Array.replicate nb (.int .u32 0)) 197):=⟨_,rfl⟩;rw [←hgr] at hnew hgu5 hgq5 hsz5;rw [←hw5] at hnew hU5 hQ5 hbw5;rw [←hgr,←hw5];clear hgr hw5 hbel hbw hV' hU' hQ
   go_loopg [100] nb (RvRel w gu gq gr U' Q s nb)
   case atStart=>exact ⟨0,List.replicate nb 0,za,rfl,hnew,ze,WLt.zeros zCp _,je,hU5,hQ5,hbw5,hsz5,hgu5,hgq5⟩
   case round =>
    clear hnew hU5 hQ5 hbw5;obtain ⟨k,R,hkm,rfl,hR,hRl,hRW,hVR,hU5,hQ5,hbw5,_,_,_⟩:=hrel;have HKM:=zq hkm;have HRL2:=zq hRl;have HVR:=zq hVR;clear hkm hRl hVR
    by_cases hlt:k<nb
    ·have hk1:k+1<U'.length:=by have:=HUL'.o;omega
     have hc0:=hU5.cell k za;have hc1:=hU5.cell (k+1) hk1;have hc2:=hR.cell k (by have:=HRL2.o;omega)
     have hf2:=hR.frozen k;have hx0:U'[k]<4294967296:=hUW'.get k za;have hx1:U'[k+1]<4294967296:=hUW'.get (k+1) hk1;obtain ⟨T,hT⟩:∃ T,T=U'[k]+4294967296*U'[k+1]:=⟨_,rfl⟩;have hor:bits .or .u64 (U'[k]:Int) ((U'[k+1]:Int)*4294967296)=(T:Int):=by rw [or_u64 _ _ hx0 hx1,hT];simp
     obtain ⟨D,hD⟩:∃ D,D=T / 2 ^ s:=⟨_,rfl⟩;have hDe:(T:Int) / 2 ^ s=(D:Int):=by rw [hD,Int.natCast_ediv,Int.natCast_pow];rfl
     have hDT:D≤T:=by rw [hD];exact dM _ _
     have hTB:T≤18446744073709551615:=za;have HT:=zq hT;have HD:=zq hD;clear hT hD;have hsh:IntKind.u64.wrap ((U'[k+1]:Int)*4294967296)=(U'[k+1]:Int)*4294967296:=IntWalk.u64_in _ za;have hw1:IntKind.i64.wrap ((k:Int)+1)=(k:Int)+1:=IntWalk.i64_in _ za;go_wp2;have y1:(k:Int)<(na:Int)+1:=za;have y2:(k:Int)+1<(na:Int)+1:=za;have y3:(k:Int)<(nb:Int):=za;have y4:(0:Int)≤(k:Int)+1:=za;have y5:((k:Int)+1).toNat=k+1:=za;have y6:(0:Int)≤(k:Int):=za;refine wp_region_still_tail 19 zc zc ?_
     simp only [bW,dO,dP,dF]
     repeat still_step
     refine wpStill_nil ?_
     change wpList _ _ _ _ _ wr.drew
     clear y1 y2 y3 y4 y5 y6 hsh hw1;go_wp2
     go_roundg (gk - 1)
     case measure=>have:=HKM.o;omega
     case rel=>exact RvRel.step HKM.o hlt hR HRL2.o hRW hs4 hk1 hUW' HVR.o hU5 hQ5 hbw5 hsz5 hgu5 hgq5 HT.o rfl (by rw [←HD.o];rfl) ⟨1,rfl⟩
    ·obtain rfl:k=nb:=by have:=HKM.o;omega
     have HR:Hid (zAf B32 R=a % b):=by
      show _=_
      have h1:=HVR.o;have hul:=HUL'.o;have h2:zAf B32 (U'.drop (0+k))=0:=zDQ (n:=k) (by rw [dF];exact HRL.o) za
      rw [aQ] at h2;have h3:=zCo B32 k U' za;rw [h2,bT,cZ,HREM.o] at h3
      have h4:U'.getD k 0=0:=by
       have h5:=zCQ (B:=B32) (l:=U') (i:=k) za;rw [h2] at h5;have h6:U'.getD k 0=U'[k]'(by omega):=by simp [List.getD,show k<U'.length by omega]
       rw [h6];omega
      rw [cY (by rw [HRL2.o];omega),←h3,h4,Nat.zero_mod,bT,cZ] at h1
      have hp:=dH s;have h7:=bH (· / 2 ^ s) h1;simp only [Nat.mul_div_cancel _ hp] at h7;rw [Nat.add_comm,Nat.add_mul_div_left _ _ hp,Nat.div_eq_of_lt (bJ _ hp),aQ] at h7;exact h7
     have hql:=HQL.o;have hrl:=HRL2.o
     go_wp2_with fail
     rw [←hql];with_reducible refine (trim_n _ _ Q _ wr za (aB _) (by have:=hQ5.rd Q.length;rwa [bX] at this) hQW (aS _ _) HQUO.o).mono ?_
     rintro e w7 ⟨A7,c7,rfl,hn7,hb7⟩;clear hql;have hR7:=hR.below hb7
     go_wp2_with fail
     rw [←hrl];with_reducible refine (trim_n _ _ R _ w7 za (aB _) (by have:=hR7.rd R.length;rwa [bX] at this) hRW (aS _ _) HR.o).mono ?_
     rintro e w8 ⟨A8,c8,rfl,hn8,hb8⟩;clear hrl;go_wp2;go_ret2
     exact ⟨A7,c7,A8,c8,rfl,hn7.below hb8,hn8,zAa (zAa hbw5 hb7) hb8⟩
  ·obtain ⟨j,rfl⟩:∃ j,gk=j+1:=⟨gk - 1,za⟩
   obtain rfl:zz=(j:Int):=za;clear hzz;have hj:j+nb≤na:=za;obtain ⟨hw1,hw2,hw3,hw4⟩:=window (n:=nb) (v:=v) HUL'.o HUL.o za HTK.o HRM.o HD1.o HD2 hUW';obtain ⟨X,hX⟩:∃ X,X=(U'.drop j).take (nb+1):=⟨_,rfl⟩;rw [←hX] at hw1;have hst:=step_n gu j (na+1 - j) (nb+1) nb (some ⟨gv,0,none⟩) U' Vn X wr.drew za (show zCh wr.drew gu U' from hU') (by rw [HUL'.o];omega) hX hUW' (by rw [HVN.o];exact (show zCh wr.drew gv V from hV').rd nb) hVnW HVNL.o za HD4.o (by rw [HD3.o,hw1];exact hw2)
   rw [HD3.o,hw1] at hst;have HST:=zq hst;have HW2:=zq hw2;have HW3:=zq hw3;have HW4:=zq hw4;have hjq:j<Q.length:=by rw [HQL.o];omega
   have hc1:=hQ.cell j hjq;have hf1:=hQ.frozen j;clear hst hw1 hw2 hw3 hw4 hX;go_wp2;have hs1:IntKind.i64.wrap ((j:Int)+(nb:Int))=(j:Int)+(nb:Int):=IntWalk.i64_in _ za;have hs2:IntKind.i64.wrap ((j:Int)+(nb:Int)+1)=(j:Int)+(nb:Int)+1:=IntWalk.i64_in _ za;have hji:(j:Int)<((na - nb+1:Nat):Int):=za;have hji2:(j:Int)<((na - nb:Nat):Int)+1:=za;have hji3:(0:Int)≤(j:Int):=za;have hcw:=cutW gu j nb (na+1) za;have hcv:=cutV (some ⟨gv,0,none⟩) nb (nb+1) za
   go_region_held3 (fun _=>True) (trivial)
    (first
     | ((go_at_call 227;(with_reducible refine HST.o.mono ?_);rintro e w6 ⟨rfl,W,hWl,hWW,hWv,hU6,hg6⟩;have hQ6:zCh w6 gq Q:=(hg6.block gq hQ.lt (fun e=>by injection e;omega)).trans hQ;have hc6:=hQ6.cell j hjq;have hf6:=hQ6.frozen j)))
   have hbw6:Below w.heap.size w w6:=⟨hg6.os.trans hbw.os,hg6.tape.trans hbw.tape,hg6.output.trans hbw.output,dI hbw.size hg6.size,fun i hi=>(hg6.block i (dL hi hbw.size) (fun e=>by injection e;omega)).trans (hbw.block i hi)⟩
   have hV6:zCh w6 gv V:=(hg6.block gv hV'.lt (fun e=>by injection e;omega)).trans hV'
   clear hs1 hs2 hcw hcv hji hji2 hji3 hc1 hf1 hc6 hf6 hg6;go_wp2
   go_roundg j
   case measure=>omega
   case rel =>
    clear HST;have hy:=Nat.div_add_mod' (zAf B32 (U.drop (j+1))) v;have hn:=div_next (B:=B32) (v:=v) (x:=U[j]'(by have:=HUL.o;omega)) (r:=zAf B32 (U.drop (j+1)) % v) HD2 (zAf B32 (U.drop (j+1)) / v)
    rw [hy] at hn;have hUj:zAf B32 (U.drop j)=U[j]'(by have:=HUL.o;omega)+B32*zAf B32 (U.drop (j+1)):=zCQ (by have:=HUL.o;omega)
    rw [←hUj,←HW4.o] at hn;have hul:=HUL'.o;have hql:=HQL.o;have htk:(U'.take j).length=j:=js;refine ⟨U'.take j++W++U'.drop (j+(nb+1)),Q.set j (zAf B32 (U'.drop j) / v),_,rfl,rfl,za,hU6.far (show gu≠gq by omega) _,?_,((hUW'.take j).append hWW).append (hUW'.drop _),hV6.far (show gv≠gq by omega) _,hQ6.set j _,by simpa using hql,hQW.set (quot_lt HW2.o) j,?_,?_,?_,hbw6.setCell (show w.heap.size≤gq by omega) _⟩
    ·rw [dA,dA,htk,hWl,bV];omega
    ·rw [List.append_assoc,List.take_append_of_le_length za,List.take_take,Nat.min_self]
     have h1:=bH (List.take j) HTK.o
     rwa [List.take_take,List.take_take,bO za] at h1
    ·rw [wval_window za hWl HW3.o,hWv,hn.2]
    ·rw [zEi Q j _ hjq,zAf,HQT.o,hn.1,Nat.add_comm]
theorem Div_c (A A2:Option Addr) (c c2 a b:Nat) (w:World) (h:Nt w A c a) (h2:Nt w A2 c2 b) (hn:(zAc B32 a).length≤400000000) (hb:0<b) :
  Calls Tryz.prog 168 #[ntV A c a,ntV A2 c2 b] w (GivesNN (a / b) (a % b) w):=by
 rcases aU a b with hlt | hge
 ·exact Div_lt A A2 c c2 a b w h h2 hn hlt
 ·by_cases h3:(zAc B32 a).length≤2
  ·exact Div_small A A2 c c2 a b w h h2 h3 hge hb
  ·have h4:(zAc B32 b).length≠0:=fun e=>by
    have:=(zCv zAu (n:=b)).1 (dQ e);omega
   by_cases h5:(zAc B32 b).length=1
   ·exact Div_word A A2 c c2 a b w h h2 hn za h5 hge
   ·exact Div_long A A2 c c2 a b w h h2 hn za za hge
def GcRel (w:World) (G N:Nat) (m:Nat) (av bv:Value) (wr:World):Prop :=
 ∃ (A:Option Addr) (c:Nat) (A2:Option Addr) (c2 aa:Nat),av=ntV A c aa∧bv=ntV A2 c2 m∧Nt wr A c aa∧Nt wr A2 c2 m∧(zAc B32 aa).length≤N∧(zAc B32 m).length≤N∧Nat.gcd aa m=G∧Below w.heap.size w wr
def GcRel2 (w:World) (G:Nat) (m:Nat) (xv yv:Value) (wr:World):Prop :=
 ∃ xx:Nat,xv = .int .u64 (xx:Int)∧yv = .int .u64 (m:Int)∧xx≤18446744073709551615∧m≤18446744073709551615∧Nat.gcd xx m=G∧Below w.heap.size w wr
theorem gcd_c (A A2:Option Addr) (c c2 a b:Nat) (w:World) (h:Nt w A c a) (h2:Nt w A2 c2 b) (hn:(zAc B32 a).length≤400000000) (hn2:(zAc B32 b).length≤400000000) :
  Calls Tryz.prog 167 #[ntV A c a,ntV A2 c2 b] w (zDR (Nat.gcd a b) w):=by
 go_enter Tryz.func167,Tryz.ntmps167
 go_wp2
 go_loopg [0,1] b (GcRel w (Nat.gcd a b) 400000000)
 case atStart=>exact ⟨A,c,A2,c2,a,rfl,rfl,h,h2,hn,hn2,rfl,aS _ _⟩
 case round =>
  clear h h2 hn hn2;obtain ⟨A3,c3,A4,c4,aa,rfl,rfl,h,h2,hn,hn2,hG,hb⟩:=hrel;have HG:=zq hG;have HB:=zq hb;clear hG hb
  rcases bR gk with h0 | h0
  ·subst h0
   go_wp2;go_ret
   have e:aa=Nat.gcd a b:=by rw [←HG.o,Nat.gcd_zero_right]
   rw [←e];exact ⟨A3,c3,rfl,h,HB.o⟩
  ·have hl:0<(zAc B32 gk).length:=by
    rcases bR (zAc B32 gk).length with e | e
    ·have:=(zCv zAu (n:=gk)).1 (dQ e)
     omega
    ·exact e
   by_cases hs:(zAc B32 aa).length≤2∧(zAc B32 gk).length≤2
   ·obtain ⟨hs1,hs2⟩:=hs
    have la:=small_lt hs1;have lb:=small_lt hs2
    go_wp2_with fail
    with_reducible refine (zDh A3 c3 aa _ h hs1).mono ?_
    rintro e w' ⟨rfl,nd,rfl⟩
    go_wp2_with fail
    with_reducible refine (zDh A4 c4 gk _ (h2.drewN nd) hs2).mono ?_
    rintro e w' ⟨rfl,nd2,rfl⟩;go_wp2;have HB2:Hid (Below w.heap.size w (wr.drewN (nd+nd2))):=zAd HB.o _;obtain ⟨wo,hwo⟩:∃ wo:World,wo=wr.drewN (nd+nd2):=⟨_,rfl⟩;rw [←hwo] at HB2 ⊢;clear hwo HB h0 hl
    go_loopg [5,7] gk (GcRel2 w (Nat.gcd a b))
    case atStart=>exact ⟨aa,rfl,rfl,la,lb,HG.o,HB2.o⟩
    case round =>
     clear HG la lb HB2;obtain ⟨xx,rfl,rfl,hx,hy,hG2,hb2⟩:=hrel;have HG2:=zq hG2;clear hG2
     rcases bR gk with h0 | h0
     ·subst h0
      go_wp2_with fail
      have e:xx=Nat.gcd a b:=by rw [←HG2.o,Nat.gcd_zero_right]
      have HE:=zq e;clear e;with_reducible refine (natOf_c xx _ za).mono ?_
      rintro e w5 ⟨A5,c5,rfl,h5,hb5⟩;go_wp2;go_ret
      rw [←HE.o];exact ⟨A5,c5,rfl,h5,zAa hb2 hb5⟩
     ·have hbz:¬ gk=0:=by omega
      obtain ⟨r,hr⟩:∃ r,xx % gk=r:=⟨_,rfl⟩;have hrl:r<gk:=by rw [←hr];exact bJ _ h0
      have e2:(xx:Int).tmod (gk:Int)=(r:Int):=by rw [IntWalk.rem_in _ _ za,←hr];exact (Int.natCast_emod xx gk).symm
      have e4:IntKind.u64.wrap (r:Int)=(r:Int):=IntWalk.u64_in _ za;have HR:=zq hr;clear hr;go_wp2
      go_quiet (fail)
      clear e2 e4 hbz;go_wp2
      go_roundg r
      case measure=>exact hrl
      case rel=>exact ⟨gk,rfl,rfl,hy,za,by rw [←HG2.o,←HR.o,←gcd_step],zAd hb2 _⟩
   ·have hsa:=fun nd:Nat=>small_c A3 c3 aa (wr.drewN nd) (h.drewN nd) za
    have hsb:=fun nd:Nat=>small_c A4 c4 gk (wr.drewN nd) (h2.drewN nd) za
    have hd:=fun nd:Nat=>Div_c A3 A4 c3 c4 aa gk (wr.drewN nd) (h.drewN nd) (h2.drewN nd) hn h0
    have hsa0:=small_c A3 c3 aa wr h za;unfold smV at hsa hsb hsa0
    have HLB:Hid ((zAc B32 (aa % gk)).length≤400000000):=by
     show _≤_
     exact dI (zAt zAu (bP (bJ aa h0))) hn2
    have hq:(decide ((zAc B32 aa).length≤2)&&decide ((zAc B32 gk).length≤2))=false:=by
     rw [←Bool.decide_and];exact cX hs
    generalize decide ((zAc B32 aa).length≤2)=p1 at *;generalize decide ((zAc B32 gk).length≤2)=p2 at *;generalize (if (zAc B32 aa).length≤2 then (aa:Int) else 0)=v1 at *
    generalize (if (zAc B32 gk).length≤2 then (gk:Int) else 0)=v2 at *
    have HSA:=zq hsa;have HSB:=zq hsb;have HSA0:=zq hsa0;have HD:=zq hd;clear hsa hsb hsa0 hd hs;have HQ:=zq hq;clear hq
    cases p1
    case' true =>
     obtain rfl:p2=false:=by have:=HQ.o;simpa using this
    all_goals
     go_wp2_with fail
     with_reducible refine HSA0.o.mono ?_
     rintro e w' ⟨rfl,nd,rfl⟩
     go_wp2_with fail
     with_reducible refine (HSB.o nd).mono ?_
     rintro e w' ⟨rfl,nd2,rfl⟩
     go_wp2_with fail
     with_reducible refine (HD.o (nd+nd2)).mono ?_
     rintro e w6 ⟨A5,c5,A6,c6,rfl,h5,h6,hb6⟩;have hb7:Below wr.heap.size wr w6:=(zAd (aS wr.heap.size wr) _).trans hb6;have hn7:=h2.below hb7;have HB7:=zq (zAa HB.o hb7);clear hb6 hb7 h5;go_wp2
     go_roundg (aa % gk)
     case measure=>exact bJ _ h0
     case rel=>exact ⟨A4,c4,A6,c6,gk,rfl,rfl,hn7,h6,hn2,HLB.o,by rw [←HG.o,←gcd_step],HB7.o⟩
end Go.Proofs.YtieoifkdobcpiaaGreatDoor
namespace Go.Proofs.YtieoifkdobcpiaaGreatDoor
open Dw
def zBY (n d:Nat):Nat×Nat:=(n / Nat.gcd n d,d / Nat.gcd n d)
def addP (p q:Nat×Nat):Nat×Nat:=zBY (p.1*q.2+q.1*p.2) (p.2*q.2)
def dgB (c:UInt8):Bool:=decide (48≤c.toNat)&&decide (c.toNat≤57)
def zCR (s:BA):Bool:=s.data.toList.all dgB&&(decide (s.size=1) || decide (1<s.size)&&decide ((s.data.toList.headD 0).toNat≠48))
def zDu (s:BA):Bool:=decide (0<s.size)&&decide ((s.data.toList.headD 0).toNat=45)
def absL (s:BA):List UInt8:=if zDu s=true then s.data.toList.tail else s.data.toList
def zAY (s:BA):BA:=⟨(absL s).toArray⟩
def zCH:BA:=⟨#[48]⟩
def zAz (s:BA):Nat:=zBM s.data.toList
def zDq (nu de:BA):Int :=
 if zCR (zAY nu)=false∨(zDu nu=true∧zAY nu=zCH)∨zCR de=false∨de=zCH then 3
 else if 2000<(zAY nu).size∨2000<de.size then 2
 else if Nat.gcd (zAz (zAY nu)) (zAz de)=1 then 0 else 3
def posB (nu:BA):Bool:=!zDu nu&&decide (zAz (zAY nu)≠0)
structure Sh where
 pt:BA
 nu:BA
 de:BA
deriving Inhabited
structure De where
 id:BA
 day:Int
 kd:Int
 th:BA
 fr:BA
 to_:BA
 nu:BA
 de:BA
 ex:Bool
 sb:Bool
 arA:Option Go.Addr
 ar:List Ar
 arc:Nat
 usA:Option Go.Addr
 us:List BA
 usc:Nat
 bg:Int
 en:Int
 shA:Option Go.Addr
 sh:List Sh
 shc:Nat
 ot:BA
deriving Inhabited
def zCr (n:Int):Bool:=decide (0≤n)&&decide (n≤200000)
def ptAt (l:List Sh) (i:Nat):BA:=(l.getD i default).pt
def zAR (l:List Sh) (i:Nat):Option Int :=
 if zBe (ptAt l i)=false then some 5
 else if 0<i∧sle (ptAt l i) (ptAt l (i - 1))=true then some 8
 else if zDq (l.getD i default).nu (l.getD i default).de≠0 then some (zDq (l.getD i default).nu (l.getD i default).de)
 else if posB (l.getD i default).nu=false then some 1 else none
def zCS (l:List Sh) (k:Nat):Nat×Nat:=(l.take k).foldl (fun p s=>addP p (zAz (zAY s.nu),zAz s.de)) (0,1)
def shF (kd:Int) (l:List Sh):Int :=
 if l=[] then 9 else if 20<l.length then 2 else
 match (List.range l.length).findSome? (zAR l) with
 | some f=>f
 | none=>if (zCS l l.length).2<(zCS l l.length).1∨(kd=5∧(zCS l l.length).1≠(zCS l l.length).2) then 1 else 0
def usAt (l:List BA) (i:Nat):BA:=l.getD i default
def zBr (us l:List BA) (i:Nat):Option Int :=
 if zDt us (usAt l i)=false then some 5 else if 0<i∧sle (usAt l i) (usAt l (i - 1))=true then some 8 else none
def useF (us l:List BA):Int:=match (List.range l.length).findSome? (zBr us l) with
 | some f=>f
 | none=>0
def zAh (k:Int):Bool:=decide (k=2) || decide (k=3)
def zAy (d:De):Bool :=
 (!(zAh d.kd || decide (d.kd=1))&&decide (d.th≠emp)) || (!(zAh d.kd || decide (d.kd=5))&&decide (d.fr≠emp)) || (!zAh d.kd&&decide (d.to_≠emp)) ||
 (!decide (d.kd=2)&&(decide (d.nu≠emp) || decide (d.de≠emp))) || (!decide (d.kd=3)&&(d.ex || d.sb)) || (!zAh d.kd&&(decide (d.ar≠[]) || decide (d.us≠[]))) ||
 (!zAh d.kd&&decide (d.en≠0)) || (!(decide (d.kd=1) || decide (d.kd=5))&&decide (d.sh≠[])) || (!decide (d.kd=4)&&decide (d.ot≠emp))
def parF (d:De):Int :=
 if d.kd≠2 then 0 else if zDq d.nu d.de≠0 then zDq d.nu d.de else if posB d.nu=false∨zAz d.de<zAz (zAY d.nu) then 1 else 0
def giftF (rs:List Rg) (us:List BA) (d:De):Int :=
 if zBe d.th=false∨zBe d.fr=false∨zBe d.to_=false then 5
 else if d.fr=d.to_ then 12
 else if parF d≠0 then parF d
 else if zDw rs d.ar≠0 then zDw rs d.ar
 else if zBC rs d.ar=[]∨d.us=[] then 9
 else if useF us d.us≠0 then useF us d.us
 else if zCr d.bg=false∨zCr d.en=false then 1
 else if d.en≤d.bg then 8 else 0
def divF (pre:List De) (d:De):Int :=
 if (d.kd=1∧zBe d.th=false)∨(d.kd=5∧zBe d.fr=false) then 5
 else if zCr d.bg=false then 1
 else if shF d.kd d.sh≠0 then shF d.kd d.sh
 else if d.kd=5∧(d.sh.any fun s=>decide (s.pt=d.fr))=true then 12
 else if (pre.any fun p=>decide (p.kd=d.kd)&&decide (p.th=d.th)&&decide (p.fr=d.fr))=true then 7 else 0
def endF (pre:List De) (d:De):Int :=
 if zCr d.bg=false then 1
 else if (pre.any fun p=>decide (p.id=d.ot)&&zAh p.kd)=false then 9
 else if (pre.any fun p=>decide (p.kd=4)&&decide (p.ot=d.ot))=true then 7 else 0
def deLt (a b:De):Bool:=decide (a.day<b.day) || decide (a.day=b.day)&&slt a.id b.id
def zEf (pre:List De) (d:De):Bool:=match pre.getLast? with
 | some p=>deLt p d
 | none=>true
def chkD (rs:List Rg) (us:List BA) (pre:List De) (d:De):Int :=
 if zBe d.id=false then 5
 else if zCr d.day=false then 1
 else if zEf pre d=false then 8
 else if (pre.any fun p=>decide (p.id=d.id))=true then 7
 else if d.kd<1∨5<d.kd then 4
 else if zAy d=true then 3
 else if zAh d.kd=true then giftF rs us d
 else if d.kd=4 then endF pre d else divF pre d
def zCU (rs:List Rg) (us:List BA) (ds:List De) (k:Nat):Option Int :=
 if chkD rs us (ds.take k) (ds.getD k default)≠0 then some (chkD rs us (ds.take k) (ds.getD k default)) else none
def zBg (l:List BA) (i:Nat):Option Int :=
 if zBe (usAt l i)=false then some 5 else if 0<i∧sle (usAt l i) (usAt l (i - 1))=true then some 8 else none
def zCI (rs:List Rg) (us:List BA) (ds:List De):Int :=
 if zDU rs≠0 then zDU rs else if us=[] then 9 else if 20<us.length then 2 else
 match (List.range us.length).findSome? (zBg us) with
 | some f=>f
 | none=>if 200<ds.length then 2 else match (List.range ds.length).findSome? (zCU rs us ds) with
  | some f=>f
  | none=>0
end Go.Proofs.YtieoifkdobcpiaaGreatDoor
