/- Parts of the proof, joined: The reference's numbers: divide, common. DERIVED: THE SHELF's CONTRACT. -/
import Derived.Test.YtieoifkdobcpiaaGreatDoorSm05
import Derived.Shelf.Strconv.Atoi
set_option maxRecDepth 100000
set_option maxHeartbeats 8000000
namespace Go.Proofs.YtieoifkdobcpiaaGreatDoor
open Go.RowKit Dw
theorem own_one (w:World) (base n:Nat) (hb:base≤w.heap.size):OwnI (w.alloc (.cells #[.int .i64 (n:Int)] 3)) base (.slice (some ⟨w.heap.size,0,none⟩) 1 1) [n] :=
 ⟨rfl,.inr ⟨w.heap.size,1,_,rfl,hb,cS _ _,aB _,zm,rfl,rfl⟩⟩
theorem cmpN_le {a b:Nat} (h:a≤b):decide (zCZ a b≤0)=true:=by
 rcases aU a b with h1 | h1
 ·rw [zBF h1];rfl
 ·rw [zCx za];rfl
theorem cmpN_nle {a b:Nat} (h:¬ a≤b):decide (zCZ a b≤0)=false:=by rw [zBy za];rfl
def DivLRel (w:World) (g:Nat) (l:List Nat) (b:Nat) (m:Nat) (rv iv:Value) (wr:World):Prop :=
 ∃ (L:List Nat) (R:Nat) (A:Option Addr) (c:Nat) (z:Int),m≤l.length∧z=(m:Int) - 1∧iv = .int .i64 z∧rv=lmV A c R∧Lt wr A c R∧ArrI wr g L∧L.length=l.length∧WLt BT L ∧
  R=zAf BT (l.drop m) % b∧zAf BT (L.drop m)=zAf BT (l.drop m) / b∧Below w.heap.size w wr∧w.heap.size≤g
def BsRel (w:World) (q:Nat) (m:Nat) (lv hv:Value) (wr:World):Prop :=
 ∃ lo hi:Nat,lv = .int .i64 (lo:Int)∧hv = .int .i64 (hi:Int)∧lo≤q∧q≤hi∧hi≤9999∧hi=lo+m∧Below w.heap.size w wr
theorem lms_some {w:World} {A:Option Addr} {l:List Nat} (h:Lms w A l):A≠none∨l=[]:=by
 rcases bR l.length with h0 | h0
 ·exact .inr (List.length_eq_zero_iff.1 h0)
 ·obtain ⟨b,o,rfl,_⟩:=h h0
  exact .inl ze
theorem divL_c (A A2:Option Addr) (c c2 a b:Nat) (w:World) (h:Lms w A (zAc BT a)) (h2:Lms w A2 (zAc BT b)) (hn:(zAc BT a).length≤200000000) (hm:(zAc BT b).length≤200000000) (hb0:0<b) :
  Calls Tryz.prog 83 #[lmV A c a,lmV A2 c2 b] w (fun e w'=>∃ A3 c3 A4 c4,e = .returned (.tuple #[lmV A3 c3 (a / b),lmV A4 c4 (a % b)])∧Lt w' A3 c3 (a / b)∧Lt w' A4 c4 (a % b)∧Below w.heap.size w w'):=by
 have hmk:∀ w:World,(Instr.makeSlice 27 (.int .i64 (((zAc BT a).length:Nat):Int)) (.int .i64 (((zAc BT a).length:Nat):Int))).run Tryz.prog w =
   .ok (.slice (some ⟨w.heap.size,0,none⟩) (zAc BT a).length (zAc BT a).length) (w.alloc (.cells (Array.replicate (zAc BT a).length (.int .i64 0)) 3)) :=
  mk_ints (zAc BT a).length za
 obtain ⟨l,hl⟩:∃ l,l=zAc BT a:=⟨_,rfl⟩;have ea:lmV A c a = .slice A l.length c:=by rw [hl]
 rw [ea];rw [←hl] at h hn hmk;have hlw:WLt BT l:=by rw [hl];exact zAK zAW a
 have HL:Hid (zAf BT l=a):=by show _=_;rw [hl];exact zAl zAW a
 clear hl ea
 go_enter Tryz.func83,Tryz.ntmps83
 go_wp2;clear hmk;have hnew:=ArrI.new w l.length;have hbel:Below w.heap.size w (w.alloc (.cells (Array.replicate l.length (.int .i64 0)) 3)):=(aS _ _).alloc (aB _) _;obtain ⟨g,hg⟩:∃ g,g=w.heap.size:=⟨_,rfl⟩;rw [←hg] at hnew;obtain ⟨w1,hw1⟩:∃ w1,w1=w.alloc (.cells (Array.replicate l.length (.int .i64 0)) 3):=⟨_,rfl⟩;rw [←hw1] at hnew hbel;rw [←hg,←hw1];have HG:=zq hg;have HB:=zq hbel;clear hg hbel hw1
 go_loopg [7,8] l.length (DivLRel w g l b)
 case atStart =>
  refine ⟨List.replicate l.length 0,0,none,0,(l.length:Int) - 1,aB _,rfl,zi,rfl,⟨Rd1.nil,bF _⟩,hnew,ze,WLt.zeros BT_pos _,?_,?_,HB.o,yk⟩
  ·rw [aA (aB _)];simp [zAf]
  ·rw [aA (aB _),aA ze];simp [zAf]
 case round =>
  obtain ⟨L,R,A3,c3,z,hml,hz,rfl,rfl,hR,hA,hLl,hLw,hRv,hLv,hbw,hwg⟩:=hrel;have HRV:=zq hRv;have HLV:=zq hLv;have HLL:=zq hLl;have HRB:Hid (R<b):=by show R<b;rw [hRv];exact bJ _ hb0
  have hRl:(zAc BT R).length≤200000000:=by have:=zAt zAW (bP HRB.o);omega
  clear hRv hLv hLl
  rcases bR gk with h0 | h0
  ·subst h0
   obtain rfl:z = -1:=hz;have e1:zAf BT L=a / b:=by have:=HLV.o;rwa [dF,dF,HL.o] at this
   have e2:R=a % b:=by have:=HRV.o;rwa [dF,HL.o] at this
   have HE2:=zq e2;have hll:=HLL.o;have HT:=zq (trimL_n (some ⟨g,0,none⟩) l.length L wr wr za za hA.rd hLw (aS _ _) e1);rw [hll] at HT;clear e1 e2 hll
   go_wp2_with fail
   with_reducible refine HT.o.mono ?_
   rintro e w2 ⟨A5,c5,rfl,h5,hb5⟩;have HB5:=zq (zAa hbw hb5);have HR5:=zq (hR.below hb5);have H5:=zq h5;clear hb5 h5 HT hbw hR;go_wp2;go_ret2
   refine ⟨A5,c5,A3,c3,?_,H5.o,?_,HB5.o⟩
   ·rw [←HE2.o];rfl
   ·rw [←HE2.o];exact HR5.o
  ·obtain ⟨j,rfl⟩:∃ j,gk=j+1:=⟨gk - 1,za⟩
   obtain rfl:z=(j:Int):=za;clear hz;have hj:j<l.length:=za;obtain ⟨q0,o0,hA0,hq0,hcl⟩:=(h.below hbw).at_ za;subst hA0;have hc0:=hcl j hj;have hx:l[j]<10000:=hlw.get j hj;clear hcl;obtain ⟨V,hV⟩:∃ V,V=l[j]+BT*R:=⟨_,rfl⟩;have HVL:Hid (V<b*BT):=by show V<b*BT;rw [hV];exact next_lt HRB.o (by rw [BT_eq];exact hx)
   obtain ⟨q,hq⟩:∃ q,q=V / b:=⟨_,rfl⟩
   have hq9:q≤9999:=by
    have:=quot_lt (B:=BT) (u:=V) (v:=b) HVL.o;rw [←hq,BT_eq] at this;omega
   have HV:=zq hV;have HQ:=zq hq;clear hV hq
   go_wp2_with (at_builtin;refine wpList_pushK (k:=1) (enc:=encLm) (fun _=>rfl) (fun _ _ h=>by simp at h;subst h;rfl) _ _ _ elI rfl rfl wr.heap.size _ [l[j]] rfl (own_one wr wr.heap.size l[j] (aB _)) A3 _ c3 (zAc BT R) rfl rfl (RdK.of1 (Rd1.alloc hR.rd _)) (lms_some hR.rd) (by unfold maxLen;simp;omega) zg ze ?_;intro v7 w7 hown7 hg7 hb7 _)
   have hb8:=((aS wr.heap.size wr).alloc (aB _) (.cells #[.int .i64 ((l[j]:Nat):Int)] 3)).trans hb7;obtain ⟨A7,c7,rfl⟩:=own_slice' hown7;have hcap:=own_capI hown7;have hT2:=trimL_x A7 c7 ([l[j]]++zAc BT R) w7 zg hcap.1 (own_lms hown7) (WLt.append (WLt.cons (by rw [BT_eq];exact hx) WLt.nil) (zAK zAW R)) (n:=V) (by rw [zAS,zBN,zAl zAW,HV.o];simp)
   have HT:=zq hT2.1;have H8:=zq hT2.2;have hgs:=hA.lt
   have HAN:Hid (∀ x o,A7=some ⟨x,o,none⟩→x≠g):=fun x o e=>by
    have h1:=(aT hown7 x (by rw [e];rfl)).1
    omega
   have hlen7:([l[j]]++zAc BT R).length=1+(zAc BT R).length:=zg;clear hown7 hg7 hb7 hc0 hcap hT2 hgs
   go_wp2_with fail
   with_reducible refine HT.o.mono ?_
   rintro e w7 ⟨rfl,rfl⟩;clear HT hlen7;have HBW7:=zq (zAa hbw hb8);have HA7:=zq (hA.below hb8)
   have hVl:(zAc BT V).length≤200000001:=by
    have h9:V<BT ^ ((zAc BT b).length+1):=by
     refine dL HVL.o ?_
     rw [aZ];exact aP _ (bP (zBp zAW b))
    have:=zBi zAW h9;omega
   clear hb8 hA hR hbw;go_wp2
   go_loopg [10,11] 9999 (BsRel w7 q)
   case atStart=>exact ⟨0,9999,rfl,rfl,za,hq9,za,za,aS _ _⟩
   case round =>
    obtain ⟨lo,hi,rfl,rfl,hlo,hhi,hh9,hlh,hbs⟩:=hrel;have HBS:=zq hbs;have HLH:=zq hlh;clear hbs hlh
    by_cases hlt:lo<hi
    ·obtain ⟨md,hmd⟩:∃ md,md=(lo+hi+1) / 2:=⟨_,rfl⟩
     have hmdi:((lo:Int)+(hi:Int)+1) / 2=(md:Int):=by rw [hmd];omega
     have hm9:md≤9999:=za;have hm1:lo<md∧md≤hi:=za;have HMD:=zq hmd;clear hmd
     go_wp2_with fail
     with_reducible refine (smallL_c A2 c2 b md wr ((h2.below HBW7.o).below HBS.o) za hm9).mono ?_
     rintro e w9 ⟨A9,c9,rfl,h9,hb9⟩;have HBS9:=zq (zAa HBS.o hb9)
     have hl9:(zAc BT (b*md)).length≤1000000000:=by
      have h10:b*md<BT ^ ((zAc BT b).length+1):=by
       have e1:=zBp zAW b;have e2:b*md≤b*BT:=bL _ qs;have e3:b*BT<BT ^ (zAc BT b).length*BT:=dJ e1 BT_pos;rw [aZ];omega
      have:=zBi zAW h10;omega
     have H9:=zq h9;clear hb9 h9
     go_wp2_with fail
     with_reducible refine (cmpL_c A9 A7 c9 c7 (b*md) V w9 H9.o.rd (H8.o.rd.below HBS9.o) hl9).mono ?_
     rintro e w10 ⟨rfl,nd,rfl⟩;clear hl9 H9
     by_cases hc:b*md≤V
     ·have hcb:=cmpN_le hc
      have hmq:md≤q:=by rw [HQ.o];exact (Nat.le_div_iff_mul_le hb0).2 (by rw [bB];exact hc)
      clear hc;go_wp2
      go_roundg (hi - md)
      case measure=>have:=HLH.o;omega
      case rel=>exact ⟨md,hi,rfl,rfl,hmq,hhi,hh9,za,zAd HBS9.o _⟩
     ·have hcb:=cmpN_nle hc
      have hmq:q<md:=by rw [HQ.o];exact (Nat.div_lt_iff_lt_mul hb0).2 (by rw [bB];omega)
      clear hc;go_wp2
      go_roundg (md - 1 - lo)
      case measure=>have:=HLH.o;omega
      case rel=>exact ⟨lo,md - 1,rfl,zi,hlo,za,za,za,zAd HBS9.o _⟩
    ·obtain rfl:lo=q:=by omega
     have HA:=zq (HA7.o.below HBS.o);have hcg:=HA.o.cell j (by have:=HLL.o;omega)
     have hfg:=HA.o.frozen j;have hsg:=HA.o.lt;have hll:=HLL.o;have HBV:=zq (zAa HBW7.o HBS.o);have HBE:=zq (HBV.o.setCell (p:=⟨g,j,none⟩) hwg (.int .i64 (lo:Int)));have HAE:=zq (HA.o.set j lo);have HVE:Hid (Lms (wr.setCell ⟨g,j,none⟩ (.int .i64 (lo:Int))) A7 (zAc BT V)):=lms_set (H8.o.rd.below HBS.o) HAN.o _;have hlV:b*lo≤V:=by rw [HQ.o];exact Nat.mul_div_le V b
     have HLV2:=zq hlV;clear hhi hh9 HLH hlV;obtain ⟨wS,hwS⟩:∃ wS,wS=wr.setCell ⟨g,j,none⟩ (.int .i64 (lo:Int)):=⟨_,rfl⟩;rw [←hwS] at HBE HAE HVE
     go_wp2_with fail
     rw [←hwS];clear hcg hfg hsg hll hwS hlt;with_reducible refine (smallL_c A2 c2 b lo wS (h2.below HBE.o) za hq9).mono ?_
     rintro e w9 ⟨A9,c9,rfl,h9,hb9⟩;have H9:=zq h9;have HB9:=zq hb9;clear h9 hb9
     go_wp2_with fail
     with_reducible refine (lessL_c A7 A9 c7 c9 V (b*lo) w9 (HVE.o.below HB9.o) H9.o.rd za HLV2.o).mono ?_
     rintro e w10 ⟨A10,c10,rfl,h10,hb10⟩;have HBX:=zq (zAa HB9.o hb10);have H10:=zq h10;clear h10 hb10 H9 HB9;go_wp2
     go_roundg j
     case measure=>omega
     case rel =>
      have e1:=zCQ (B:=BT) hj;have e2:=div_next (B:=BT) (r:=R) (v:=b) (x:=l[j]) hb0 (zAf BT (L.drop (j+1)))
      have e3:zAf BT (l.drop (j+1))=zAf BT (L.drop (j+1))*b+R:=by
       rw [HLV.o,HRV.o,bB];exact (Nat.div_add_mod _ _).symm
      rw [←e3,←e1,←HV.o] at e2;have hjL:j<L.length:=by have:=HLL.o;omega
      refine ⟨L.set j lo,V - b*lo,A10,c10,_,za,rfl,zi,rfl,H10.o,HAE.o.below HBX.o,by rw [dE];exact HLL.o,hLw.set qs j,?_,?_,zAa HBE.o HBX.o,hwg⟩
      ·rw [e2.2]
       have:=Nat.div_add_mod V b;rw [←HQ.o] at this;omega
      ·rw [zEi L j lo hjL,e2.1]
       show lo+BT*_=_
       rw [←HQ.o];omega
def ComRel (w:World) (a b:Nat) (m:Nat) (v0 v1:Value) (wr:World):Prop :=
 ∃ (x y:Nat) (A:Option Addr) (c:Nat) (A2:Option Addr) (c2:Nat),y=m∧v0=lmV A c x∧v1=lmV A2 c2 y∧Lt wr A c x∧Lt wr A2 c2 y∧Nat.gcd x y=Nat.gcd a b∧(zAc BT x).length≤200000000∧(zAc BT y).length≤200000000∧Below w.heap.size w wr
theorem commonL_c (A A2:Option Addr) (c c2 a b:Nat) (w:World) (h:Lt w A c a) (h2:Lt w A2 c2 b) (hn:(zAc BT a).length≤200000000) (hm:(zAc BT b).length≤200000000) :
  Calls Tryz.prog 42 #[lmV A c a,lmV A2 c2 b] w (zDj (Nat.gcd a b) w):=by
 go_enter Tryz.func42,Tryz.ntmps42
 go_wp2
 go_loopg [0,1] b (ComRel w a b)
 case atStart=>exact ⟨a,b,A,c,A2,c2,rfl,rfl,rfl,h,h2,rfl,hn,hm,aS _ _⟩
 case round =>
  obtain ⟨x,y,A3,c3,A4,c4,hy,rfl,rfl,h3,h4,hg,hl1,hl2,hbw⟩:=hrel;have HG:=zq hg;have HB:=zq hbw;have HY:=zq hy;clear hg hbw hy
  rcases bR y with h0 | h0
  ·subst h0
   have hz:(zAc BT 0).length=0:=rfl;have HGE:Hid (x=Nat.gcd a b):=by show _=_;rw [←HG.o,Nat.gcd_zero_right]
   unfold lmV;rw [hz];go_wp2;go_ret
   exact ⟨A3,c3,by rw [←HGE.o];rfl,by rw [←HGE.o];exact h3,HB.o⟩
  ·have hp:0<(zAc BT y).length:=by
    refine eH fun e=>?_
    have:=(zCv zAW (n:=y)).1 (dQ e);omega
   have hr:(zAc BT (x % y)).length≤200000000:=by have:=zAt zAW (bP (bJ x h0));omega
   go_wp2_with fail
   with_reducible refine (divL_c A3 A4 c3 c4 x y wr h3.rd h4.rd hl1 hl2 h0).mono ?_
   rintro e w2 ⟨A5,c5,A6,c6,rfl,h5,h6,hb2⟩;have HB2:=zq (zAa HB.o hb2);have H4:=zq (h4.below hb2);have H6:=zq h6;clear hb2 h5 h6 h3 h4 hp;go_wp2
   go_roundg (x % y)
   case measure=>have:=bJ x h0;have:=HY.o;omega
   case rel=>exact ⟨y,x % y,A4,c4,A6,c6,rfl,rfl,rfl,H4.o,H6.o,by rw [←HG.o];exact gcd_step.symm,hl2,hr,HB2.o⟩
end Go.Proofs.YtieoifkdobcpiaaGreatDoor
namespace Go.Proofs
open Go.Shelf
def Tryz.lays172_ren:Go.Shelf.Ren:=⟨fun | 172=>84 | 244=>123 | 245=>124 | 247=>182 | 279=>183 | 280=>184 | 281=>185 | 282=>186 | 287=>232 | 316=>233 | 171=>144 | 205=>234 | 321=>264 | 322=>265 | 243=>198 | 246=>246 | 283=>125 | 284=>126 | 285=>127 | 286=>128 | 129=>161 | 317=>187 | 318=>188 | 319=>189 | 320=>190 | 337=>235 | 338=>236 | n=>n,fun | 9=>9 | 3=>3 | 75=>162 | 76=>163 | 4=>4 | 5=>5 | 167=>253 | 37=>131 | 0=>0 | 85=>254 | 2=>2 | 168=>256 | 53=>95 | 175=>293 | 46=>188 | 210=>297 | 127=>308 | 145=>322 | 143=>320 | 21=>21 | 171=>202 | 173=>205 | 212=>261 | 51=>197 | 20=>20 | 213=>262 | 232=>323 | 233=>324 | 80=>192 | n=>n,fun | 15=>1 | 16=>2 | 17=>0 | 18=>3 | 19=>4 | n=>n⟩
theorem Tryz.lays172:Go.Proofs.Lays.n172 Tryz.prog Tryz.lays172_ren:={
 mixed:=zc
 f129:=Tryz.func161.trans (bH some zc)
 f171:=Tryz.func144.trans (bH some zc)
 f172:=Tryz.func84.trans (bH some zc)
 f205:=Tryz.func234.trans (bH some zc)
 f243:=Tryz.func198.trans (bH some zc)
 f244:=Tryz.func123.trans (bH some zc)
 f245:=Tryz.func124.trans (bH some zc)
 f246:=Tryz.func246.trans (bH some zc)
 f247:=Tryz.func182.trans (bH some zc)
 f279:=Tryz.func183.trans (bH some zc)
 f280:=Tryz.func184.trans (bH some zc)
 f281:=Tryz.func185.trans (bH some zc)
 f282:=Tryz.func186.trans (bH some zc)
 f283:=Tryz.func125.trans (bH some zc)
 f284:=Tryz.func126.trans (bH some zc)
 f285:=Tryz.func127.trans (bH some zc)
 f286:=Tryz.func128.trans (bH some zc)
 f287:=Tryz.func232.trans (bH some zc)
 f316:=Tryz.func233.trans (bH some zc)
 f317:=Tryz.func187.trans (bH some zc)
 f318:=Tryz.func188.trans (bH some zc)
 f319:=Tryz.func189.trans (bH some zc)
 f320:=Tryz.func190.trans (bH some zc)
 f321:=Tryz.func264.trans (bH some zc)
 f322:=Tryz.func265.trans (bH some zc)
 f337:=Tryz.func235.trans (bH some zc)
 f338:=Tryz.func236.trans (bH some zc)
 t0:=Tryz.underlying0
 a0:=Tryz.isAgg0
 z0:=Tryz.sizeOf0
 v0:=Tryz.zeroValue0
 t2:=Tryz.underlying2
 a2:=Tryz.isAgg2
 z2:=Tryz.sizeOf2
 v2:=Tryz.zeroValue2
 t3:=Tryz.underlying3
 a3:=Tryz.isAgg3
 z3:=Tryz.sizeOf3
 v3:=Tryz.zeroValue3
 t4:=Tryz.underlying4
 a4:=Tryz.isAgg4
 z4:=Tryz.sizeOf4
 v4:=Tryz.zeroValue4
 t5:=Tryz.underlying5
 a5:=Tryz.isAgg5
 z5:=Tryz.sizeOf5
 v5:=Tryz.zeroValue5
 t9:=Tryz.underlying9
 a9:=Tryz.isAgg9
 z9:=Tryz.sizeOf9
 v9:=Tryz.zeroValue9
 t20:=Tryz.underlying20
 a20:=Tryz.isAgg20
 z20:=Tryz.sizeOf20
 v20:=Tryz.zeroValue20
 t21:=Tryz.underlying21
 a21:=Tryz.isAgg21
 z21:=Tryz.sizeOf21
 v21:=Tryz.zeroValue21
 t37:=Tryz.underlying131
 a37:=Tryz.isAgg131
 z37:=Tryz.sizeOf131
 v37:=Tryz.zeroValue131
 t46:=Tryz.underlying188
 a46:=Tryz.isAgg188
 z46:=Tryz.sizeOf188
 v46:=Tryz.zeroValue188
 t51:=Tryz.underlying197
 a51:=Tryz.isAgg197
 z51:=Tryz.sizeOf197
 v51:=Tryz.zeroValue197
 t53:=Tryz.underlying95
 a53:=Tryz.isAgg95
 z53:=Tryz.sizeOf95
 v53:=Tryz.zeroValue95
 t75:=Tryz.underlying162
 a75:=Tryz.isAgg162
 z75:=Tryz.sizeOf162
 v75:=Tryz.zeroValue162
 t76:=Tryz.underlying163
 a76:=Tryz.isAgg163
 z76:=Tryz.sizeOf163
 v76:=Tryz.zeroValue163
 t85:=Tryz.underlying254
 a85:=Tryz.isAgg254
 z85:=Tryz.sizeOf254
 v85:=Tryz.zeroValue254
 t127:=Tryz.underlying308
 a127:=Tryz.isAgg308
 z127:=Tryz.sizeOf308
 v127:=Tryz.zeroValue308
 t143:=Tryz.underlying320
 a143:=Tryz.isAgg320
 z143:=Tryz.sizeOf320
 v143:=Tryz.zeroValue320
 t145:=Tryz.underlying322
 a145:=Tryz.isAgg322
 z145:=Tryz.sizeOf322
 v145:=Tryz.zeroValue322
 t167:=Tryz.underlying253
 a167:=Tryz.isAgg253
 z167:=Tryz.sizeOf253
 v167:=Tryz.zeroValue253
 t168:=Tryz.underlying256
 a168:=Tryz.isAgg256
 z168:=Tryz.sizeOf256
 v168:=Tryz.zeroValue256
 t171:=Tryz.underlying202
 a171:=Tryz.isAgg202
 z171:=Tryz.sizeOf202
 v171:=Tryz.zeroValue202
 t173:=Tryz.underlying205
 a173:=Tryz.isAgg205
 z173:=Tryz.sizeOf205
 v173:=Tryz.zeroValue205
 t175:=Tryz.underlying293
 a175:=Tryz.isAgg293
 z175:=Tryz.sizeOf293
 v175:=Tryz.zeroValue293
 t210:=Tryz.underlying297
 a210:=Tryz.isAgg297
 z210:=Tryz.sizeOf297
 v210:=Tryz.zeroValue297
 t212:=Tryz.underlying261
 a212:=Tryz.isAgg261
 z212:=Tryz.sizeOf261
 v212:=Tryz.zeroValue261
 t213:=Tryz.underlying262
 a213:=Tryz.isAgg262
 z213:=Tryz.sizeOf262
 t232:=Tryz.underlying323
 a232:=Tryz.isAgg323
 z232:=Tryz.sizeOf323
 v232:=Tryz.zeroValue323
 t233:=Tryz.underlying324
 a233:=Tryz.isAgg324
 z233:=Tryz.sizeOf324
 v233:=Tryz.zeroValue324
 g15:=zc
 g16:=zc
 g17:=zc
 g18:=zc
 g19:=by kernel_rfl }
end Go.Proofs
namespace Go.Proofs.YtieoifkdobcpiaaGreatDoor
open Go.Shelf Go.RowKit Go.Lib Dw
theorem zDP (c:UInt8):dgB c=true↔48≤c.toNat∧c.toNat≤57:=by unfold dgB;simp
theorem decFrom_dec:∀ (l:List UInt8) (n:Nat),l.all dgB=true→Lib.decFrom n l=some (l.foldl (fun n c=>10*n+(c.toNat - 48)) n)
 | [],n,_=>rfl
 | c::l,n,h=>by
  simp only [List.all_cons,dT] at h;have hd:Lib.digitVal c=some (c.toNat - 48):=by unfold Lib.digitVal;rw [aE ((zDP c).1 h.1)]
  unfold Lib.decFrom;rw [hd]
  show Lib.decFrom (n*10+(c.toNat - 48)) l=_
  rw [decFrom_dec l _ h.2,bS,bB n 10]
theorem atoi_dec {l:List UInt8} (hl:l≠[]) (h:l.all dgB=true):Lib.atoi l=some ((zBM l:Nat):Int):=by
 cases l with
 | nil=>exact absurd rfl hl
 | cons c l =>
  have hc:48≤c.toNat∧c.toNat≤57:=by
   simp only [List.all_cons,dT] at h;exact (zDP c).1 h.1
  have e1:(c == 45)=false:=by
   rw [aG];intro e;rw [e] at hc;have h2:=hc.1;simp at h2
  have e2:(c == 43)=false:=by
   rw [aG];intro e;rw [e] at hc;have h2:=hc.1;simp at h2
  show (if (c == 45)=true then _ else if (c == 43)=true then _ else (Lib.decNat (c::l)).map fun (m:Nat)=>(m:Int))=_
  rw [e1,e2];have e3:Lib.decNat (c::l)=some (zBM (c::l)):=decFrom_dec (c::l) 0 h;simp [e3]
theorem below_bytes (w:World) (e:TypeId) (t:BA):Below w.heap.size w (Lib.bytesWorld w e t) :=
 ⟨rfl,rfl,rfl,by simp [Lib.bytesWorld,World.freeze,World.alloc,World.drew,-World.alloc_eq,-World.drew_eq],fun k hk=>Lib.bytesWorld_at_old w e t k hk⟩
theorem atoi_c (s:BA) (w:World) (h0:0<s.size) (h1:s.size≤18) (h:s.data.toList.all dgB=true) :
  Calls Tryz.prog 84 #[.string s] w (zAe (.tuple #[.int .i64 ((zBM s.data.toList:Nat):Int),.nilIface]) w):=by
 have hn:s.data.toList≠[]:=fun e=>by
  have:=Lib.size_eq s;rw [e,eF] at this;omega
 have hA:=Any.strconv_Atoi Tryz.lays172 s _ h1 (atoi_dec hn h) w
 change Calls Tryz.prog 84 _ _ _ at hA
 refine hA.mono fun e w' ⟨he,t,hw⟩=>⟨he,?_⟩
 rw [hw];exact below_bytes w _ t
theorem len_data (s:BA):s.data.toList.length=s.size:=(Lib.size_eq s).symm
def LmbRel (w:World) (l:List UInt8) (m:Nat) (sv ov:Value) (wr:World):Prop :=
 ∃ (t:BA) (out:List Nat),t.size=m∧sv = .string t∧t.data.toList.all dgB=true∧WLt BT out∧out.length+t.size≤l.length∧zBM l=zBM t.data.toList*BT ^ out.length+zAf BT out∧OwnI wr w.heap.size ov out∧Below w.heap.size w wr
theorem zDa (s:BA) (w:World) (hd:s.data.toList.all dgB=true) (hs:s.size≤400000000):Calls Tryz.prog 38 #[.string s] w (zDj (zBM s.data.toList) w):=by
 have hsl:=len_data s
 go_enter Tryz.func38,Tryz.ntmps38
 go_wp2
 go_loopg [0,3] s.size (LmbRel w s.data.toList)
 case atStart=>exact ⟨s,[],rfl,rfl,hd,WLt.nil,by simp [hsl],je,zAT.nil _ _ _ _ _,aS _ _⟩
 case round =>
  obtain ⟨t,out,hm,rfl,htd,how,hol,hv,hown,hbw⟩:=hrel;have HTD:=zq htd;have HW:=zq how;have HV:=zq hv;have HB:=zq hbw;have htl:=len_data t;have HM:=zq hm;clear htd how hv hbw hm
  rcases bR t.size with h0 | h0
  ·have htn:t.data.toList=[]:=List.length_eq_zero_iff.1 za
   have HE:Hid (zAf BT out=zBM s.data.toList):=by
    show _=_
    have:=HV.o;rw [htn] at this;rw [this];simp [zBM]
   obtain ⟨A9,c9,rfl⟩:=own_slice' hown;have HT:=zq (trimL_n A9 c9 out wr w za (own_capI hown).1 (own_lms hown) HW.o HB.o HE.o)
   go_wp2_with fail
   with_reducible refine HT.o.mono ?_
   rintro e w7 ⟨A7,c7,rfl,hl7,hb7⟩;have HL7:=zq hl7;have HB7:=zq hb7;clear hl7 hb7 HT;go_wp2;go_ret
   exact ⟨A7,c7,rfl,HL7.o,HB7.o⟩
  ·obtain ⟨k,hk⟩:∃ k,k=t.size - 4:=⟨_,rfl⟩
   have hki:max (0:Int) ((t.size:Int) - 4)=(k:Int):=za;have hk2:k<t.size∧t.size≤k+4:=za;have HK:=zq hk;clear hk
   have hxl:(t.extract k t.size).data.toList=t.data.toList.drop k:=by
    rw [Lib.extract_data,cY (by rw [bV,htl];omega)]
   have hyl:(t.extract 0 k).data.toList=t.data.toList.take k:=by
    rw [Lib.extract_data,dF,Nat.sub_zero]
   have hxs:(t.extract k t.size).size=t.size - k:=by rw [←len_data,hxl,bV,htl]
   have hys:(t.extract 0 k).size=k:=by rw [←len_data,hyl,bN,htl];omega
   have HXL:=zq hxl;have HYL:=zq hyl;obtain ⟨x,hx⟩:∃ x,x=zBM (t.data.toList.drop k):=⟨_,rfl⟩
   have hxB:x<10000:=by
    have h1:=decV_lt (l:=t.data.toList.drop k) (fun c hc=>by
     have:=List.all_eq_true.1 HTD.o c (List.mem_of_mem_drop hc);have:=(zDP c).1 this;omega)
    rw [←hx,bV,htl] at h1;have h2:(10:Nat) ^ (t.size - k)≤10 ^ 4:=bY zd za;have h3:(10:Nat) ^ 4=10000:=zd;omega
   have HA:=zq (atoi_c (t.extract k t.size) wr za za (by rw [hxl,List.all_eq_true];exact fun c hc=>List.all_eq_true.1 HTD.o c (List.mem_of_mem_drop hc)))
   rw [hxl,←hx] at HA
   have HC:Hid (zBM t.data.toList=zBM (t.data.toList.take k)*10 ^ (t.size - k)+x):=by
    show _=_
    rw [hx,←htl];exact decV_cut _ k
   clear hxl hyl hx
   go_wp2_with fail
   with_reducible refine HA.o.mono ?_
   rintro e w2 ⟨rfl,hb2⟩;have HO2:=zq (hown.below hb2);have HB2:=zq (zAa HB.o hb2);clear HA hb2 hown HB
   go_wp2_with (at_builtin;refine zBj _ _ _ elI rfl rfl w.heap.size _ out rfl (zAT.alloc HO2.o _) w2.heap.size 1 x rfl (cS _ _) rfl zy zm za (by simp;exact Nat.le_succ_of_le HB2.o.size) ?_;intro A7 c7 w7 hown7 hg7 hb7 hat7)
   have HB7:=zq ((HB2.o.alloc HB2.o.size _).trans hb7);have HN7:=zq hown7;clear hown7 hg7 hb7 hat7 HO2 HB2;go_wp2
   go_roundg k
   case measure=>have:=HM.o;omega
   case rel =>
    refine ⟨t.extract 0 k,out++[x],hys,rfl,?_,HW.o.append (WLt.cons qs WLt.nil),by rw [dA,List.length_singleton,hys];omega,?_,HN7.o,HB7.o⟩
    ·rw [HYL.o,List.all_eq_true];exact fun c hc=>List.all_eq_true.1 HTD.o c (bZ hc)
    ·rw [HYL.o,dA,List.length_singleton,zAS,zBN,HV.o,HC.o]
     have e1:zBM (t.data.toList.take k)*10 ^ (t.size - k)=zBM (t.data.toList.take k)*BT:=by
      rcases bR k with h1 | h1
      ·subst h1;simp [zBM]
      ·have:=HK.o
       rw [show t.size - k=4 by omega];rfl
     rw [e1,bD,aZ,bC,bB BT,bB x];omega
end Go.Proofs.YtieoifkdobcpiaaGreatDoor
namespace Go.Proofs.YtieoifkdobcpiaaGreatDoor
open Go.RowKit Dw
abbrev zBE:Array Value:=#[.bool false,.slice none 0 0,.slice none 0 0]
abbrev nuC (ng:Bool) (A:Option Addr) (c n:Nat) (A2:Option Addr) (c2 d:Nat):Array Value:=#[.bool ng,.slice A (zAc BT n).length c,.slice A2 (zAc BT d).length c2]
abbrev nuV (ng:Bool) (A:Option Addr) (c n:Nat) (A2:Option Addr) (c2 d:Nat):Value:=.agg (nuC ng A c n A2 c2 d)
def zCw (ng:Bool) (n d:Nat) (w:World) (e:Ending) (w':World):Prop:=∃ A c A2 c2,e = .returned (nuV ng A c n A2 c2 d)∧Lt w' A c n∧Lt w' A2 c2 d∧Below w.heap.size w w'
theorem lms_ne {w:World} {A:Option Addr} {l:List Nat} (h:Lms w A l) (hl:0<l.length) {R:Nat} {cs:Array Value} {T:TypeId} (hb:Bx w R cs T) (hc:∀ (i:Nat) (n:Int),cs[i]?≠some (Value.int .i64 n)):∀ b o,A=some ⟨b,o,none⟩→b≠R:=fun b o e1 e2=>by
 subst e2;obtain ⟨b',o',e3,hcl⟩:=h hl;rw [e1] at e3
 injection e3 with e3
 injection e3 with e4 e5 _
 subst e4 e5;have h1:=hcl 0 hl;rw [aR w b _ _ _ _ hb] at h1;exact hc _ _ h1
theorem Lms.setR {w:World} {A:Option Addr} {l:List Nat} (h:Lms w A l) {R:Nat} {cs:Array Value} {T:TypeId} (hb:Bx w R cs T) (hc:∀ (i:Nat) (n:Int),cs[i]?≠some (Value.int .i64 n)) (i:Nat) (u:Value):Lms (w.setCell ⟨R,i,none⟩ u) A l:=fun hl =>
 lms_set h (lms_ne h hl hb hc) u hl
theorem zNum_no:∀ (i:Nat) (n:Int),zBE[i]?≠some (Value.int .i64 n):=fun i n h=>by
 match i,h with
 | 0,h=>simp [zBE] at h
 | 1,h=>simp [zBE] at h
 | 2,h=>simp [zBE] at h
 | i+3,h=>simp [zBE] at h
theorem Bx.set0 {w:World} {R:Nat} {a b c:Value} {T:TypeId} (h:Bx w R #[a,b,c] T) (u:Value):Bx (w.setCell ⟨R,0,none⟩ u) R #[u,b,c] T:=eI w R 0 _ _ u h
theorem Bx.set1 {w:World} {R:Nat} {a b c:Value} {T:TypeId} (h:Bx w R #[a,b,c] T) (u:Value):Bx (w.setCell ⟨R,1,none⟩ u) R #[a,u,c] T:=eI w R 1 _ _ u h
theorem no3 {a b c:Value} (ha:∀ n,a≠.int .i64 n) (hb:∀ n,b≠.int .i64 n) (hc:∀ n,c≠.int .i64 n):∀ (i:Nat) (n:Int),(#[a,b,c]:Array Value)[i]?≠some (Value.int .i64 n):=fun i n h=>by
 match i,h with
 | 0,h=>simp at h;exact ha n h
 | 1,h=>simp at h;exact hb n h
 | 2,h=>simp at h;exact hc n h
 | i+3,h=>simp at h
theorem Lt.setR {w:World} {A:Option Addr} {c n R:Nat} {T:TypeId} (h:Lt w A c n) (hb:Bx w R zBE T) (ng:Bool) (A1:Option Addr) (n1 c1:Nat) (v:Value):Lt (((w.setCell ⟨R,0,none⟩ (.bool ng)).setCell ⟨R,1,none⟩ (.slice A1 n1 c1)).setCell ⟨R,2,none⟩ v) A c n:=by
 refine ⟨?_,h.cap⟩
 have k0:=h.rd.setR hb zNum_no 0 (.bool ng);have b1:=Bx.set0 hb (.bool ng);have k1:=k0.setR b1 (no3 ze ze ze) 1 (.slice A1 n1 c1);have b2:=Bx.set1 b1 (.slice A1 n1 c1);exact k1.setR b2 (no3 ze ze ze) 2 v
theorem zBo {w0 w:World} {R:Nat} (h:Below w0.heap.size w0 w) (hR:w0.heap.size≤R) (a b c:Value):Below w0.heap.size w0 (((w.setCell ⟨R,0,none⟩ a).setCell ⟨R,1,none⟩ b).setCell ⟨R,2,none⟩ c) :=
 ((h.setCell (p:=⟨R,0,none⟩) hR a).setCell (p:=⟨R,1,none⟩) hR b).setCell (p:=⟨R,2,none⟩) hR c
theorem words_oneT:zAc BT 1=[1]:=qi
theorem zDo (w:World):Lt (w.alloc (.cells #[.int .i64 1] 3)) (some ⟨w.heap.size,0,none⟩) 1 1 :=
 ⟨by rw [words_oneT];exact lms_one w 1,by rw [words_oneT];exact aB _⟩
theorem cmp1_c (A:Option Addr) (c a:Nat) (w:World) (h:Lms w A (zAc BT a)) (hn:(zAc BT a).length≤1000000000) :
  Calls Tryz.prog 41 #[lmV A c a,.slice (some ⟨w.heap.size,0,none⟩) 1 1] (w.alloc (.cells #[.int .i64 1] 3)) (zBs (.int .i64 (zCZ a 1)) (w.alloc (.cells #[.int .i64 1] 3))) :=
 cmpL_c A (some ⟨w.heap.size,0,none⟩) c 1 a 1 _ (Rd1.alloc h _) (zDo w).rd hn
theorem pos_lenT {n:Nat} (h:0<n):0<(zAc BT n).length:=by
 refine eH fun e=>?_
 have:=(zCv zAW (n:=n)).1 (dQ e);omega
theorem lowP_zeroT (d:Nat) (h:0<d):zBY 0 d=(0,1):=by unfold zBY;rw [Nat.gcd_zero_left,Nat.div_self h,Nat.zero_div]
theorem lowest_c (ng:Bool) (A A2:Option Addr) (c c2 n d:Nat) (w:World) (h:Lt w A c n) (h2:Lt w A2 c2 d) (hd0:0<d) (hn:(zAc BT n).length≤200000000) (hm:(zAc BT d).length≤200000000) :
  Calls Tryz.prog 37 #[.bool ng,lmV A c n,lmV A2 c2 d] w (zCw (ng&&decide (n≠0)) (zBY n d).1 (zBY n d).2 w):=by
 have HB0:Hid (Below w.heap.size w (w.alloc (.cells zBE 45))):=(aS w.heap.size w).alloc (aB _) _;have HZ0:Hid (Bx (w.alloc (.cells zBE 45)) w.heap.size zBE 45):=Bx.new _ _ _;have HA0:=zq (h.below HB0.o);have HD0:=zq (h2.below HB0.o)
 rcases bR n with h0 | h0
 ·subst h0
  have e1:(ng&&decide (0≠0))=false:=ze;rw [lowP_zeroT d hd0,e1];unfold lmV;have hz:(zAc BT 0).length=0:=rfl;have hz1:(zAc BT 1).length=1:=by rw [words_oneT];rfl
  rw [hz]
  go_enter Tryz.func37,Tryz.ntmps37
  go_wp2;refine dY (v:=nuV false none 0 0 (some ⟨w.heap.size+1,0,none⟩) 1 1) (by simp [results,Tryz.results37,go_sem,hz,hz1]) rfl ⟨none,0,_,1,rfl,⟨Rd1.nil,bF _⟩,?_,((aS w.heap.size w).alloc (aB _) _).alloc ze _⟩
  have:=zDo (w.alloc (.cells #[.bool false,.slice none 0 0,.slice (some ⟨w.heap.size+1,0,none⟩) 1 1] 45))
  simpa using this
 ·have hl:=pos_lenT h0
  have hlb:(((zAc BT n).length:Int) == 0)=false:=by simp;intro e;rw [e] at hl;simp at hl
  have e1:(ng&&decide (n≠0))=ng:=zg;rw [e1];have hg0:0<Nat.gcd n d:=dZ n hd0;have hgl:(zAc BT (Nat.gcd n d)).length≤200000000:=dI (zAt zAW (Nat.gcd_le_right n hd0)) hm;have HLP:Hid (zBY n d=(n / Nat.gcd n d,d / Nat.gcd n d)):=rfl;rw [HLP.o];have HC:=zq (commonL_c A A2 c c2 n d _ HA0.o HD0.o hn hm);obtain ⟨G,hG⟩:∃ G,Nat.gcd n d=G:=⟨_,rfl⟩;rw [hG] at hg0 hgl HC ⊢;clear hG HLP e1;obtain ⟨W,hW⟩:∃ W,W=w.alloc (.cells zBE 45):=⟨_,rfl⟩;rw [←hW] at HC HA0 HD0 HZ0 HB0;unfold lmV at HC ⊢
  go_enter Tryz.func37,Tryz.ntmps37
  go_wp2_with fail
  rw [←hW];clear hW;with_reducible refine HC.o.mono ?_
  rintro e w1 ⟨A5,c5,rfl,h5,hb5⟩;have HB1:=zq (zAa HB0.o hb5);have HZ1:=zq (HZ0.o.below hb5);have HA1:=zq (HA0.o.below hb5);have HD1:=zq (HD0.o.below hb5);have H5:=zq h5;clear hb5 h5 HC HA0 HD0 HZ0 HB0 hlb
  go_wp2_with fail
  with_reducible refine (cmp1_c A5 c5 G w1 H5.o.rd za).mono ?_
  rintro e w2 ⟨rfl,nd,rfl⟩;have hba:Below w1.heap.size w1 ((w1.alloc (.cells #[.int .i64 1] 3)).drewN nd):=zAd ((aS w1.heap.size w1).alloc (aB _) _) nd;have HB2:=zq (zAa HB1.o hba);have HZ2:=zq (HZ1.o.below hba);have HA2:=zq (HA1.o.below hba);have HD2:=zq (HD1.o.below hba);have H52:=zq (H5.o.below hba);clear hba HB1 HZ1 HA1 HD1 H5;obtain ⟨w2,hw2⟩:∃ w2,w2=(w1.alloc (.cells #[.int .i64 1] 3)).drewN nd:=⟨_,rfl⟩;rw [←hw2] at HB2 HZ2 HA2 HD2 H52 ⊢;clear hw2
  by_cases h1:G=1
  ·have hcb:(zCZ G 1 == 0)=true:=by rw [h1];rfl
   have HG1:=zq h1;obtain ⟨z0,z1,z2⟩:=HZ2.o.t;have f0:=HZ2.o.frozen;have hsz:=HZ2.o.lt;clear h1;go_wp2;rw [HG1.o,Nat.div_one,Nat.div_one];refine dY (v:=nuV ng A c n A2 c2 d) (by simp [results,Tryz.results37,go_sem,z0,z1,z2]) rfl ⟨A,c,A2,c2,rfl,HA2.o.setR HZ2.o _ _ _ _ _,HD2.o.setR HZ2.o _ _ _ _ _,zBo HB2.o (aB _) _ _ _⟩
  ·have hcb:(zCZ G 1 == 0)=false:=by rw [zBy za];rfl
   clear h1
   go_wp2_with fail
   with_reducible refine (divL_c A A5 c c5 n G w2 HA2.o.rd H52.o.rd hn hgl hg0).mono ?_
   rintro e w3 ⟨A6,c6,A7,c7,rfl,h6,_,hb3⟩;have HB3:=zq (zAa HB2.o hb3);have HZ3:=zq (HZ2.o.below hb3);have HD3:=zq (HD2.o.below hb3);have H53:=zq (H52.o.below hb3);have H6:=zq h6;clear hb3 h6 HB2 HZ2 HD2 H52 HA2 hcb
   go_wp2_with fail
   with_reducible refine (divL_c A2 A5 c2 c5 d G w3 HD3.o.rd H53.o.rd hm hgl hg0).mono ?_
   rintro e w4 ⟨A8,c8,A9,c9,rfl,h8,_,hb4⟩;have HB4:=zq (zAa HB3.o hb4);have HZ4:=zq (HZ3.o.below hb4);have H64:=zq (H6.o.below hb4);have H8:=zq h8;clear hb4 h8 HB3 HZ3 HD3 H53 H6;obtain ⟨z0,z1,z2⟩:=HZ4.o.t;have f0:=HZ4.o.frozen;have hsz:=HZ4.o.lt;go_wp2;refine dY (v:=nuV ng A6 c6 (n / G) A8 c8 (d / G)) (by simp [results,Tryz.results37,go_sem,z0,z1,z2]) rfl ⟨A6,c6,A8,c8,rfl,H64.o.setR HZ4.o _ _ _ _ _,H8.o.setR HZ4.o _ _ _ _ _,zBo HB4.o (aB _) _ _ _⟩
theorem smallF_0 (w:World):Calls Tryz.prog 125 #[.int .i64 0] w (zAB (.string ⟨#[48]⟩) w):=by
 go_enter Tryz.func125,Tryz.ntmps125
 go_wp2;go_ret
 exact zAB.mk zk rfl
theorem fmtI_0 (w:World):Calls Tryz.prog 86 #[.int .u64 0,.int .i64 10] w (zAB (.string ⟨#[48]⟩) w):=by
 go_enter Tryz.func86,Tryz.ntmps86
 go_wp2_with fail
 with_reducible refine (smallF_0 w).mono ?_
 rintro e w1 ⟨rfl,rfl⟩;go_wp2;go_ret
 exact zAB.mk rfl rfl
theorem fmt_0 (w:World):Calls Tryz.prog 39 #[.int .u64 0,.int .i64 10] w (zAB (.string ⟨#[48]⟩) w):=by
 go_enter Tryz.func39,Tryz.ntmps39
 go_wp2_with fail
 with_reducible refine (fmtI_0 w).mono ?_
 rintro e w1 ⟨rfl,rfl⟩;go_wp2;go_ret
 exact zAB.mk rfl rfl
theorem Int_0 (w:World):Calls Tryz.prog 14 #[.int .i64 0] w (zCw false 0 1 w):=by
 have HB0:Hid (Below w.heap.size w (w.alloc (.cells zBE 45))):=(aS w.heap.size w).alloc (aB _) _;have HZ0:Hid (Bx (w.alloc (.cells zBE 45)) w.heap.size zBE 45):=Bx.new _ _ _
 go_enter Tryz.func14,Tryz.ntmps14
 go_wp2_with fail
 with_reducible refine (fmt_0 _).mono ?_
 rintro e w1 ⟨rfl,rfl⟩;have HL:=zq (zDa ⟨#[48]⟩ (w.alloc (.cells zBE 45)) zd zd);have hd:zBM (⟨#[48]⟩:BA).data.toList=0:=zd;rw [hd] at HL;clear hd
 go_wp2_with fail
 with_reducible refine HL.o.mono ?_
 rintro e w1 ⟨A1,c1,rfl,h1,hb1⟩;have hba:Below w1.heap.size w1 (w1.alloc (.cells #[.int .i64 1] 3)):=(aS w1.heap.size w1).alloc (aB _) _;have HB1:=zq (zAa (zAa HB0.o hb1) hba);have HZ1:=zq ((HZ0.o.below hb1).below hba)
 have HW:Hid (Calls Tryz.prog 37 #[.bool false,lmV A1 c1 0,.slice (some ⟨w1.heap.size,0,none⟩) 1 1] (w1.alloc (.cells #[.int .i64 1] 3)) (zCw false 0 1 (w1.alloc (.cells #[.int .i64 1] 3)))) :=
  lowest_c false A1 (some ⟨w1.heap.size,0,none⟩) c1 1 0 1 _ (h1.below hba) (zDo w1) za qi qi
 clear hb1 h1 hba HB0 HZ0 HL
 go_wp2_with fail
 with_reducible refine HW.o.mono ?_
 rintro e w2 ⟨A2,c2,A3,c3,rfl,h2,h3,hb2⟩;have HB2:=zq (zAa HB1.o hb2);have HZ2:=zq (HZ1.o.below hb2);have H2:=zq h2;have H3:=zq h3;clear hb2 h2 h3 HB1 HZ1 HW;obtain ⟨z0,z1,z2⟩:=HZ2.o.t;have f0:=HZ2.o.frozen;have hsz:=HZ2.o.lt;go_wp2;refine dY (v:=nuV false A2 c2 0 A3 c3 1) (by simp [results,Tryz.results14,go_sem,z0,z1,z2]) rfl ⟨A2,c2,A3,c3,rfl,H2.o.setR HZ2.o _ _ _ _ _,H3.o.setR HZ2.o _ _ _ _ _,zBo HB2.o (aB _) _ _ _⟩
theorem smallF_1 (w:World):Calls Tryz.prog 125 #[.int .i64 1] w (zAB (.string ⟨#[49]⟩) w):=by
 go_enter Tryz.func125,Tryz.ntmps125
 go_wp2;go_ret
 exact zAB.mk zk rfl
theorem fmtI_1 (w:World):Calls Tryz.prog 86 #[.int .u64 1,.int .i64 10] w (zAB (.string ⟨#[49]⟩) w):=by
 go_enter Tryz.func86,Tryz.ntmps86
 go_wp2_with fail
 with_reducible refine (smallF_1 w).mono ?_
 rintro e w1 ⟨rfl,rfl⟩;go_wp2;go_ret
 exact zAB.mk rfl rfl
theorem fmt_1 (w:World):Calls Tryz.prog 39 #[.int .u64 1,.int .i64 10] w (zAB (.string ⟨#[49]⟩) w):=by
 go_enter Tryz.func39,Tryz.ntmps39
 go_wp2_with fail
 with_reducible refine (fmtI_1 w).mono ?_
 rintro e w1 ⟨rfl,rfl⟩;go_wp2;go_ret
 exact zAB.mk rfl rfl
theorem Int_1 (w:World):Calls Tryz.prog 14 #[.int .i64 1] w (zCw false 1 1 w):=by
 have HB0:Hid (Below w.heap.size w (w.alloc (.cells zBE 45))):=(aS w.heap.size w).alloc (aB _) _;have HZ0:Hid (Bx (w.alloc (.cells zBE 45)) w.heap.size zBE 45):=Bx.new _ _ _
 go_enter Tryz.func14,Tryz.ntmps14
 go_wp2_with fail
 with_reducible refine (fmt_1 _).mono ?_
 rintro e w1 ⟨rfl,rfl⟩;have HL:=zq (zDa ⟨#[49]⟩ (w.alloc (.cells zBE 45)) zd zd);have hd:zBM (⟨#[49]⟩:BA).data.toList=1:=zd;rw [hd] at HL;clear hd
 go_wp2_with fail
 with_reducible refine HL.o.mono ?_
 rintro e w1 ⟨A1,c1,rfl,h1,hb1⟩;have hba:Below w1.heap.size w1 (w1.alloc (.cells #[.int .i64 1] 3)):=(aS w1.heap.size w1).alloc (aB _) _;have HB1:=zq (zAa (zAa HB0.o hb1) hba);have HZ1:=zq ((HZ0.o.below hb1).below hba)
 have HW:Hid (Calls Tryz.prog 37 #[.bool false,lmV A1 c1 1,.slice (some ⟨w1.heap.size,0,none⟩) 1 1] (w1.alloc (.cells #[.int .i64 1] 3)) (zCw false 1 1 (w1.alloc (.cells #[.int .i64 1] 3)))) :=
  lowest_c false A1 (some ⟨w1.heap.size,0,none⟩) c1 1 1 1 _ (h1.below hba) (zDo w1) za qi qi
 clear hb1 h1 hba HB0 HZ0 HL
 go_wp2_with fail
 with_reducible refine HW.o.mono ?_
 rintro e w2 ⟨A2,c2,A3,c3,rfl,h2,h3,hb2⟩;have HB2:=zq (zAa HB1.o hb2);have HZ2:=zq (HZ1.o.below hb2);have H2:=zq h2;have H3:=zq h3;clear hb2 h2 h3 HB1 HZ1 HW;obtain ⟨z0,z1,z2⟩:=HZ2.o.t;have f0:=HZ2.o.frozen;have hsz:=HZ2.o.lt;go_wp2;refine dY (v:=nuV false A2 c2 1 A3 c3 1) (by simp [results,Tryz.results14,go_sem,z0,z1,z2]) rfl ⟨A2,c2,A3,c3,rfl,H2.o.setR HZ2.o _ _ _ _ _,H3.o.setR HZ2.o _ _ _ _ _,zBo HB2.o (aB _) _ _ _⟩
theorem isZero_c (ng:Bool) (A A2:Option Addr) (c c2 n d:Nat) (w:World):Calls Tryz.prog 103 #[nuV ng A c n A2 c2 d] w (zAe (.bool (decide (n=0))) w):=by
 have hb:(((zAc BT n).length:Int) == 0)=decide (n=0):=by
  rcases bR n with h0 | h0
  ·subst h0;rfl
  ·have:=pos_lenT h0
   have h1:decide (n=0)=false:=zg;rw [h1];simp;intro e;rw [e] at this;simp at this
 have HB0:Hid (Below w.heap.size w (w.alloc (.cells (nuC ng A c n A2 c2 d) 45))):=(aS w.heap.size w).alloc (aB _) _
 go_enter Tryz.func103,Tryz.ntmps103
 go_wp2;go_ret
 exact zAe.mk rfl HB0.o
def GivesMi (ng:Bool) (A:Option Addr) (c n:Nat) (A2:Option Addr) (c2 d:Nat) (w:World) (e:Ending) (w':World):Prop:=e = .returned (nuV (!ng&&decide (n≠0)) A c n A2 c2 d)∧Below w.heap.size w w'
theorem minus_c (ng:Bool) (A A2:Option Addr) (c c2 n d:Nat) (w:World):Calls Tryz.prog 46 #[nuV ng A c n A2 c2 d] w (GivesMi ng A c n A2 c2 d w):=by
 have HB0:Hid (Below w.heap.size w ((w.alloc (.cells (nuC ng A c n A2 c2 d) 45)).alloc (.cells #[.bool (!ng&&decide (n≠0)),.slice A (zAc BT n).length c,.slice A2 (zAc BT d).length c2] 45))):=((aS w.heap.size w).alloc (aB _) _).alloc ze _
 cases ng with
 | true =>
  go_enter Tryz.func46,Tryz.ntmps46
  go_wp2;refine dY (v:=nuV false A c n A2 c2 d) (by simp [results,Tryz.results46,go_sem]) rfl ⟨rfl,?_⟩
  exact HB0.o
 | false =>
  rcases bR n with h0 | h0
  ·subst h0
   have hz:(zAc BT 0).length=0:=rfl;unfold nuV nuC;rw [hz]
   go_enter Tryz.func46,Tryz.ntmps46
   go_wp2;refine dY (v:=nuV false A c 0 A2 c2 d) (by simp [results,Tryz.results46,go_sem,hz]) rfl ⟨rfl,?_⟩
   exact HB0.o
  ·have hl:=pos_lenT h0
   have hn:decide (n≠0)=true:=zg;rw [hn] at HB0
   go_enter Tryz.func46,Tryz.ntmps46
   go_wp2;refine dY (v:=nuV true A c n A2 c2 d) (by simp [results,Tryz.results46,go_sem]) rfl ⟨by rw [hn];rfl,?_⟩
   exact HB0.o
theorem zDM (a b:Nat):(zAc BT (a*b)).length≤(zAc BT a).length+(zAc BT b).length:=by
 refine zBi zAW ?_
 rw [dB];have h1:=zBp zAW a;have h2:=zBp zAW b;exact bE (bL a (bP h2)) (dJ h1 (Nat.pow_pos BT_pos))
theorem len_addT (a b:Nat):(zAc BT (a+b)).length≤max (zAc BT a).length (zAc BT b).length+1:=by
 refine zBi zAW ?_
 have h1:=zBp zAW a;have h2:=zBp zAW b;have h3:BT ^ (zAc BT a).length≤BT ^ max (zAc BT a).length (zAc BT b).length:=bY BT_pos (Nat.le_max_left _ _);have h4:BT ^ (zAc BT b).length≤BT ^ max (zAc BT a).length (zAc BT b).length:=bY BT_pos (Nat.le_max_right _ _);rw [aZ];have h5:=bL (BT ^ max (zAc BT a).length (zAc BT b).length) (show 2≤BT by decide)
 omega
def zEa (ng:Bool) (n d:Nat) (ng2:Bool) (m e:Nat):Bool×Nat×Nat :=
 if ng=ng2 then (ng&&decide (n*e+m*d≠0),zBY (n*e+m*d) (d*e))
 else if m*d≤n*e then (ng&&decide (n*e - m*d≠0),zBY (n*e - m*d) (d*e))
 else (ng2&&decide (m*d - n*e≠0),zBY (m*d - n*e) (d*e))
theorem cmpN_ge {a b:Nat} (h:b≤a):decide (0≤zCZ a b)=true:=by
 rcases aU b a with h1 | h1
 ·rw [zBy h1];rfl
 ·rw [zCx za];rfl
theorem cmpN_nge {a b:Nat} (h:¬ b≤a):decide (0≤zCZ a b)=false:=by rw [zBF za];rfl
theorem plus_c (ng ng2:Bool) (A A2 A3 A4:Option Addr) (c c2 c3 c4 n d m e:Nat) (w:World) (h:Lt w A c n) (h2:Lt w A2 c2 d) (h3:Lt w A3 c3 m) (h4:Lt w A4 c4 e)
  (hn:(zAc BT n).length≤50000000) (hd:(zAc BT d).length≤50000000) (hm:(zAc BT m).length≤50000000) (he:(zAc BT e).length≤50000000) (hd0:0<d) (he0:0<e) :
  Calls Tryz.prog 16 #[nuV ng A c n A2 c2 d,nuV ng2 A3 c3 m A4 c4 e] w (zCw (zEa ng n d ng2 m e).1 (zEa ng n d ng2 m e).2.1 (zEa ng n d ng2 m e).2.2 w):=by
 have HM1:=zq (fun W (x:Lt W A c n) (y:Lt W A4 c4 e)=>timesL_c A A4 c c4 n e W x.rd y.rd za za)
 have HM2:=zq (fun W (x:Lt W A3 c3 m) (y:Lt W A2 c2 d)=>timesL_c A3 A2 c3 c2 m d W x.rd y.rd za za)
 have HM3:=zq (fun W (x:Lt W A2 c2 d) (y:Lt W A4 c4 e)=>timesL_c A2 A4 c2 c4 d e W x.rd y.rd za za)
 have hl1:(zAc BT (n*e)).length≤100000000:=dI (zDM n e) za;have hl2:(zAc BT (m*d)).length≤100000000:=dI (zDM m d) za;have hl3:(zAc BT (d*e)).length≤100000000:=dI (zDM d e) za;have hr0:0<d*e:=dN hd0 he0;have HP:Hid (zEa ng n d ng2 m e=if ng=ng2 then (ng&&decide (n*e+m*d≠0),zBY (n*e+m*d) (d*e)) else if m*d≤n*e then (ng&&decide (n*e - m*d≠0),zBY (n*e - m*d) (d*e)) else (ng2&&decide (m*d - n*e≠0),zBY (m*d - n*e) (d*e))):=rfl
 obtain ⟨res,hres⟩:∃ res,res=zEa ng n d ng2 m e:=⟨_,rfl⟩;rw [←hres] at HP ⊢;clear hres;obtain ⟨p,hp⟩:∃ p,n*e=p:=⟨_,rfl⟩;obtain ⟨q,hq⟩:∃ q,m*d=q:=⟨_,rfl⟩;obtain ⟨r,hr⟩:∃ r,d*e=r:=⟨_,rfl⟩;rw [hp] at HM1 hl1 HP;rw [hq] at HM2 hl2 HP;rw [hr] at HM3 hl3 hr0 HP;clear hp hq hr hn hd hm he hd0 he0;have HX0:Hid (Bx (((w.alloc (.cells (nuC ng A c n A2 c2 d) 45)).alloc (.cells (nuC ng2 A3 c3 m A4 c4 e) 45)).alloc (.cells zBE 45)) w.heap.size (nuC ng A c n A2 c2 d) 45):=((Bx.new _ _ _).alloc _).alloc _;have HY0:Hid (Bx (((w.alloc (.cells (nuC ng A c n A2 c2 d) 45)).alloc (.cells (nuC ng2 A3 c3 m A4 c4 e) 45)).alloc (.cells zBE 45)) (w.heap.size+1) (nuC ng2 A3 c3 m A4 c4 e) 45):=(Bx.new1 _ _ _ _).alloc _;have HZ0:Hid (Bx (((w.alloc (.cells (nuC ng A c n A2 c2 d) 45)).alloc (.cells (nuC ng2 A3 c3 m A4 c4 e) 45)).alloc (.cells zBE 45)) (w.heap.size+1+1) zBE 45):=Bx.new2 _ _ _ _ _;have HB0:Hid (Below w.heap.size w (((w.alloc (.cells (nuC ng A c n A2 c2 d) 45)).alloc (.cells (nuC ng2 A3 c3 m A4 c4 e) 45)).alloc (.cells zBE 45))):=(((aS w.heap.size w).alloc (aB _) _).alloc ze _).alloc zg _;obtain ⟨W,hW⟩:∃ W,W=(((w.alloc (.cells (nuC ng A c n A2 c2 d) 45)).alloc (.cells (nuC ng2 A3 c3 m A4 c4 e) 45)).alloc (.cells zBE 45)):=⟨_,rfl⟩;rw [←hW] at HX0 HY0 HZ0 HB0;have g1:=zq (h.below HB0.o);have g2:=zq (h2.below HB0.o);have g3:=zq (h3.below HB0.o);have g4:=zq (h4.below HB0.o);clear h h2 h3 h4
 go_enter Tryz.func16,Tryz.ntmps16
 go_upto_region 1 with fail
 rw [←hW];clear hW;obtain ⟨a0,a1,a2⟩:=HX0.o.t;obtain ⟨b0,b1,b2⟩:=HY0.o.t
 go_region_held3 (fun w'=>(w'.cell? ⟨w.heap.size,0,none⟩=some (.bool ng)∧w'.cell? ⟨w.heap.size,1,none⟩=some (.slice A (zAc BT n).length c)∧w'.cell? ⟨w.heap.size,2,none⟩=some (.slice A2 (zAc BT d).length c2))∧(w'.cell? ⟨w.heap.size+1,0,none⟩=some (.bool ng2)∧w'.cell? ⟨w.heap.size+1,1,none⟩=some (.slice A3 (zAc BT m).length c3)∧w'.cell? ⟨w.heap.size+1,2,none⟩=some (.slice A4 (zAc BT e).length c4)))
  ((refine ⟨⟨?_,?_,?_⟩,?_,?_,?_⟩<;>first | with_reducible assumption | go_simp))
  (first
   | ((go_at_call 43;(with_reducible refine (HM1.o W.drew (g1.out.drew) (g4.out.drew)).mono ?_);rintro x w1 ⟨A5,c5,rfl,h5,hb⟩;have HB1:=zq ((zAd HB0.o 1).trans (hb.mono HB0.o.size));have HX1:=zq ((HX0.o.drew).below hb);have HY1:=zq ((HY0.o.drew).below hb);have HZ1:=zq ((HZ0.o.drew).below hb);have g21:=zq ((g2.out.drew).below hb);have g31:=zq ((g3.out.drew).below hb);have g41:=zq ((g4.out.drew).below hb);have H5:=zq h5;clear h5 hb;clear a0 a1 a2 b0 b1 b2;obtain ⟨a0,a1,a2⟩:=HX1.o.t;obtain ⟨b0,b1,b2⟩:=HY1.o.t))
   | ((go_at_call 43;(with_reducible refine (HM2.o w1 g31.out g21.out).mono ?_);rintro x w2 ⟨A6,c6,rfl,h6,hb⟩;have HB2:=zq (zAa HB1.o hb);have HX2:=zq (HX1.o.below hb);have HY2:=zq (HY1.o.below hb);have HZ2:=zq (HZ1.o.below hb);have g22:=zq (g21.out.below hb);have g42:=zq (g41.out.below hb);have H52:=zq (H5.o.below hb);have H6:=zq h6;clear h6 hb;clear a0 a1 a2 b0 b1 b2;obtain ⟨a0,a1,a2⟩:=HX2.o.t;obtain ⟨b0,b1,b2⟩:=HY2.o.t))
   | ((go_at_call 43;(with_reducible refine (HM3.o w2 g22.out g42.out).mono ?_);rintro x w3 ⟨A7,c7,rfl,h7,hb⟩;have HB3:=zq (zAa HB2.o hb);have HX3:=zq (HX2.o.below hb);have HY3:=zq (HY2.o.below hb);have HZ3:=zq (HZ2.o.below hb);have H53:=zq (H52.o.below hb);have H63:=zq (H6.o.below hb);have H7:=zq h7;clear h7 hb;clear a0 a1 a2 b0 b1 b2;obtain ⟨a0,a1,a2⟩:=HX3.o.t;obtain ⟨b0,b1,b2⟩:=HY3.o.t)))
 clear HB0 HB1 HB2 HX0 HX1 HX2 HY0 HY1 HY2 HZ0 HZ1 HZ2 g1 g2 g3 g4 g21 g31 g41 g22 g42 H5 H52 H6 HM1 HM2 HM3
 by_cases hs:ng=ng2
 ·have hsb:(ng == ng2)=true:=by simpa using hs
  have HR:Hid (res=(ng&&decide (p+q≠0),zBY (p+q) r)):=by show _=_;rw [HP.o,aE hs]
  have hre:=HR.o;clear hs HP HR;subst hre;have hla:=len_addT p q;have HA:=zq (fun W (x:Lt W A5 c5 p) (y:Lt W A6 c6 q)=>addL_c A5 A6 c5 c6 p q W x.rd y.rd za za)
  have HW:=zq (fun A8 c8 W (x:Lt W A8 c8 (p+q)) (y:Lt W A7 c7 r)=>lowest_c ng A8 A7 c8 c7 (p+q) r W x y hr0 za za)
  clear hla hl1 hl2 hl3 hr0;generalize p+q=pq at *;go_upto_region 3 with fail
  go_region_held3 (fun w'=>(w'.cell? ⟨w.heap.size,0,none⟩=some (.bool ng)∧w'.cell? ⟨w.heap.size,1,none⟩=some (.slice A (zAc BT n).length c)∧w'.cell? ⟨w.heap.size,2,none⟩=some (.slice A2 (zAc BT d).length c2))∧(w'.cell? ⟨w.heap.size+1,0,none⟩=some (.bool ng2)∧w'.cell? ⟨w.heap.size+1,1,none⟩=some (.slice A3 (zAc BT m).length c3)∧w'.cell? ⟨w.heap.size+1,2,none⟩=some (.slice A4 (zAc BT e).length c4)))
   ((refine ⟨⟨?_,?_,?_⟩,?_,?_,?_⟩<;>first | with_reducible assumption | go_simp))
   (first
    | ((go_at_call 44;(with_reducible refine (HA.o w3.drew (H53.o.drew) (H63.o.drew)).mono ?_);rintro x w5 ⟨A8,c8,rfl,h8,hb⟩;have HB5:=zq ((zAd HB3.o 1).trans (hb.mono HB3.o.size));have HX5:=zq ((HX3.o.drew).below hb);have HY5:=zq ((HY3.o.drew).below hb);have HZ5:=zq ((HZ3.o.drew).below hb);have H75:=zq ((H7.o.drew).below hb);have H8:=zq h8;clear h8 hb;clear a0 a1 a2 b0 b1 b2;obtain ⟨a0,a1,a2⟩:=HX5.o.t;obtain ⟨b0,b1,b2⟩:=HY5.o.t))
    | ((go_at_call 37;(with_reducible refine (HW.o _ _ w5 H8.o H75.o).mono ?_);rintro x w6 ⟨A9,c9,A10,c10,rfl,h9,h10,hb⟩;have HB6:=zq (zAa HB5.o hb);have HX6:=zq (HX5.o.below hb);have HY6:=zq (HY5.o.below hb);have HZ6:=zq (HZ5.o.below hb);have H9:=zq h9;have H10:=zq h10;clear h9 h10 hb;clear a0 a1 a2 b0 b1 b2;obtain ⟨a0,a1,a2⟩:=HX6.o.t;obtain ⟨b0,b1,b2⟩:=HY6.o.t;obtain ⟨r0,r1,r2⟩:=HZ6.o.t;have rf:=HZ6.o.frozen;have rs:=HZ6.o.lt;have rn:¬ (w.heap.size=w.heap.size+1+1):=za;have rm:¬ (w.heap.size+1=w.heap.size+1+1):=za)))
  go_wp2;refine dY (v:=nuV (ng&&decide (pq≠0)) A9 c9 (zBY pq r).1 A10 c10 (zBY pq r).2) (by simp [results,Tryz.results16,go_sem,r0,r1,r2]) rfl ⟨A9,c9,A10,c10,rfl,H9.o.setR HZ6.o _ _ _ _ _,H10.o.setR HZ6.o _ _ _ _ _,zBo HB6.o za _ _ _⟩
 ·have hsb:(ng == ng2)=false:=by simpa using hs
  go_upto_region 4 with fail
  go_wp2_with fail
  with_reducible refine (cmpL_c A5 A6 c5 c6 p q w3 H53.o.rd H63.o.rd za).mono ?_
  rintro x w4 ⟨rfl,nd,rfl⟩;have HX4:=zq (HX3.o.drewN nd);have HY4:=zq (HY3.o.drewN nd);have HZ4:=zq (HZ3.o.drewN nd);have HB4:=zq (zAd HB3.o nd);have H54:=zq (H53.o.drewN nd);have H64:=zq (H63.o.drewN nd);have H74:=zq (H7.o.drewN nd);clear HX3 HY3 HZ3 HB3 H53 H63 H7;clear a0 a1 a2 b0 b1 b2;obtain ⟨w4,hw4⟩:∃ w4,w4=w3.drewN nd:=⟨_,rfl⟩;rw [←hw4] at HX4 HY4 HZ4 HB4 H54 H64 H74 ⊢;clear hw4;obtain ⟨a0,a1,a2⟩:=HX4.o.t;obtain ⟨b0,b1,b2⟩:=HY4.o.t
  by_cases hc:q≤p
  ·have hcb:=cmpN_ge hc
   have HR:Hid (res=(ng&&decide (p - q≠0),zBY (p - q) r)):=by show _=_;rw [HP.o,aC hs,aE hc]
   have hre:=HR.o;have HA:=zq (fun W (x:Lt W A5 c5 p) (y:Lt W A6 c6 q)=>lessL_c A5 A6 c5 c6 p q W x.rd y.rd za hc)
   have hla:=zAt zAW (Nat.sub_le p q);have HW:=zq (fun A8 c8 W (x:Lt W A8 c8 (p - q)) (y:Lt W A7 c7 r)=>lowest_c ng A8 A7 c8 c7 (p - q) r W x y hr0 za za)
   clear hla hl1 hl2 hl3 hr0 hs HP HR hc;subst hre;generalize p - q=pq at *;go_upto_region 5 with fail
   go_region_held3 (fun w'=>(w'.cell? ⟨w.heap.size,0,none⟩=some (.bool ng)∧w'.cell? ⟨w.heap.size,1,none⟩=some (.slice A (zAc BT n).length c)∧w'.cell? ⟨w.heap.size,2,none⟩=some (.slice A2 (zAc BT d).length c2))∧(w'.cell? ⟨w.heap.size+1,0,none⟩=some (.bool ng2)∧w'.cell? ⟨w.heap.size+1,1,none⟩=some (.slice A3 (zAc BT m).length c3)∧w'.cell? ⟨w.heap.size+1,2,none⟩=some (.slice A4 (zAc BT e).length c4)))
    ((refine ⟨⟨?_,?_,?_⟩,?_,?_,?_⟩<;>first | with_reducible assumption | go_simp))
    (first
     | ((go_at_call 45;(with_reducible refine (HA.o w4.drew (H54.o.drew) (H64.o.drew)).mono ?_);rintro x w5 ⟨A8,c8,rfl,h8,hb⟩;have HB5:=zq ((zAd HB4.o 1).trans (hb.mono HB4.o.size));have HX5:=zq ((HX4.o.drew).below hb);have HY5:=zq ((HY4.o.drew).below hb);have HZ5:=zq ((HZ4.o.drew).below hb);have H75:=zq ((H74.o.drew).below hb);have H8:=zq h8;clear h8 hb;clear a0 a1 a2 b0 b1 b2;obtain ⟨a0,a1,a2⟩:=HX5.o.t;obtain ⟨b0,b1,b2⟩:=HY5.o.t))
     | ((go_at_call 37;(with_reducible refine (HW.o _ _ w5 H8.o H75.o).mono ?_);rintro x w6 ⟨A9,c9,A10,c10,rfl,h9,h10,hb⟩;have HB6:=zq (zAa HB5.o hb);have HX6:=zq (HX5.o.below hb);have HY6:=zq (HY5.o.below hb);have HZ6:=zq (HZ5.o.below hb);have H9:=zq h9;have H10:=zq h10;clear h9 h10 hb;clear a0 a1 a2 b0 b1 b2;obtain ⟨a0,a1,a2⟩:=HX6.o.t;obtain ⟨b0,b1,b2⟩:=HY6.o.t;obtain ⟨r0,r1,r2⟩:=HZ6.o.t;have rf:=HZ6.o.frozen;have rs:=HZ6.o.lt;have rn:¬ (w.heap.size=w.heap.size+1+1):=za;have rm:¬ (w.heap.size+1=w.heap.size+1+1):=za)))
   go_wp2;refine dY (v:=nuV (ng&&decide (pq≠0)) A9 c9 (zBY pq r).1 A10 c10 (zBY pq r).2) (by simp [results,Tryz.results16,go_sem,r0,r1,r2]) rfl ⟨A9,c9,A10,c10,rfl,H9.o.setR HZ6.o _ _ _ _ _,H10.o.setR HZ6.o _ _ _ _ _,zBo HB6.o za _ _ _⟩
  ·have hcb:=cmpN_nge hc
   have HR:Hid (res=(ng2&&decide (q - p≠0),zBY (q - p) r)):=by show _=_;rw [HP.o,aC hs,aC hc]
   have hre:=HR.o;have HA:=zq (fun W (x:Lt W A6 c6 q) (y:Lt W A5 c5 p)=>lessL_c A6 A5 c6 c5 q p W x.rd y.rd za za)
   have hla:=zAt zAW (Nat.sub_le q p);have HW:=zq (fun A8 c8 W (x:Lt W A8 c8 (q - p)) (y:Lt W A7 c7 r)=>lowest_c ng2 A8 A7 c8 c7 (q - p) r W x y hr0 za za)
   clear hla hl1 hl2 hl3 hr0 hs HP HR hc;subst hre;generalize q - p=pq at *;go_upto_region 6 with fail
   go_region_held3 (fun w'=>(w'.cell? ⟨w.heap.size,0,none⟩=some (.bool ng)∧w'.cell? ⟨w.heap.size,1,none⟩=some (.slice A (zAc BT n).length c)∧w'.cell? ⟨w.heap.size,2,none⟩=some (.slice A2 (zAc BT d).length c2))∧(w'.cell? ⟨w.heap.size+1,0,none⟩=some (.bool ng2)∧w'.cell? ⟨w.heap.size+1,1,none⟩=some (.slice A3 (zAc BT m).length c3)∧w'.cell? ⟨w.heap.size+1,2,none⟩=some (.slice A4 (zAc BT e).length c4)))
    ((refine ⟨⟨?_,?_,?_⟩,?_,?_,?_⟩<;>first | with_reducible assumption | go_simp))
    (first
     | ((go_at_call 45;(with_reducible refine (HA.o w4.drew (H64.o.drew) (H54.o.drew)).mono ?_);rintro x w5 ⟨A8,c8,rfl,h8,hb⟩;have HB5:=zq ((zAd HB4.o 1).trans (hb.mono HB4.o.size));have HX5:=zq ((HX4.o.drew).below hb);have HY5:=zq ((HY4.o.drew).below hb);have HZ5:=zq ((HZ4.o.drew).below hb);have H75:=zq ((H74.o.drew).below hb);have H8:=zq h8;clear h8 hb;clear a0 a1 a2 b0 b1 b2;obtain ⟨a0,a1,a2⟩:=HX5.o.t;obtain ⟨b0,b1,b2⟩:=HY5.o.t))
     | ((go_at_call 37;(with_reducible refine (HW.o _ _ w5 H8.o H75.o).mono ?_);rintro x w6 ⟨A9,c9,A10,c10,rfl,h9,h10,hb⟩;have HB6:=zq (zAa HB5.o hb);have HX6:=zq (HX5.o.below hb);have HY6:=zq (HY5.o.below hb);have HZ6:=zq (HZ5.o.below hb);have H9:=zq h9;have H10:=zq h10;clear h9 h10 hb;clear a0 a1 a2 b0 b1 b2;obtain ⟨a0,a1,a2⟩:=HX6.o.t;obtain ⟨b0,b1,b2⟩:=HY6.o.t;obtain ⟨r0,r1,r2⟩:=HZ6.o.t;have rf:=HZ6.o.frozen;have rs:=HZ6.o.lt;have rn:¬ (w.heap.size=w.heap.size+1+1):=za;have rm:¬ (w.heap.size+1=w.heap.size+1+1):=za)))
   go_wp2;refine dY (v:=nuV (ng2&&decide (pq≠0)) A9 c9 (zBY pq r).1 A10 c10 (zBY pq r).2) (by simp [results,Tryz.results16,go_sem,r0,r1,r2]) rfl ⟨A9,c9,A10,c10,rfl,H9.o.setR HZ6.o _ _ _ _ _,H10.o.setR HZ6.o _ _ _ _ _,zBo HB6.o za _ _ _⟩
theorem lowP_pos {n d:Nat} (hn:0<n):0<(zBY n d).1:=Nat.div_pos (Nat.le_of_dvd hn (Nat.gcd_dvd_left n d)) (Nat.gcd_pos_of_pos_left d hn)
theorem lowP_fst {n d:Nat}:(zBY n d).1=0↔n=0:=by
 constructor
 ·intro h
  rcases bR n with h0 | h0
  ·exact h0
  ·have:=lowP_pos (d:=d) h0;omega
 ·rintro rfl;unfold zBY;exact Nat.zero_div _
theorem plusN_cmp (n d m e:Nat):zCZ (n*e) (m*d)=if (zEa false n d (!false&&decide (m≠0)) m e).2.1=0 then 0 else if (zEa false n d (!false&&decide (m≠0)) m e).1=true then -1 else 1:=by
 unfold zEa
 by_cases hm:m=0
 ·subst hm
  have e1:(!false&&decide (0≠0))=false:=rfl;rw [e1,aE rfl];simp only [eB,Nat.zero_mul,cZ,lowP_fst]
  by_cases h0:n*e=0
  ·rw [aE h0,zCx h0]
  ·rw [aC h0,zBy za];rfl
 ·have e1:(!false&&decide (m≠0))=true:=by simp [hm]
  rw [e1];simp only [eJ,eD]
  by_cases hc:m*d≤n*e
  ·rw [aE hc]
   simp only [eB,lowP_fst]
   by_cases h0:n*e - m*d=0
   ·rw [aE h0,zCx za]
   ·rw [aC h0,zBy za];rfl
  ·rw [aC hc]
   have h0:¬ m*d - n*e=0:=za;simp only [Bool.true_and,lowP_fst];rw [aC h0,aE (by simp [h0]),zBF za]
def CoRel (w:World) (ng:Bool) (n d:Nat) (v:Value) (wx:World):Prop:=∃ g A c A2 c2,v = .pointer (some ⟨g,0,none⟩)∧Bx wx g (nuC ng A c n A2 c2 d) 45∧Below w.heap.size w wx
theorem co_new {w wx:World} {ng:Bool} {A A2:Option Addr} {c c2 n d:Nat} (h:Below w.heap.size w wx):CoRel w ng n d (.pointer (some ⟨wx.heap.size,0,none⟩)) (wx.alloc (.cells (nuC ng A c n A2 c2 d) 45)):=⟨_,A,c,A2,c2,rfl,Bx.new _ _ _,h.alloc h.size _⟩
theorem co_set {w wx:World} {ng:Bool} {A A2:Option Addr} {c c2 n d g:Nat} (h:Below w.heap.size w wx) (hz:Bx wx g zBE 45) (hg:w.heap.size≤g):CoRel w ng n d (.pointer (some ⟨g,0,none⟩)) (((wx.setCell ⟨g,0,none⟩ (.bool ng)).setCell ⟨g,1,none⟩ (.slice A (zAc BT n).length c)).setCell ⟨g,2,none⟩ (.slice A2 (zAc BT d).length c2)):=by
 have k0:=Bx.set0 hz (.bool ng);have k1:=Bx.set1 k0 (.slice A (zAc BT n).length c);exact ⟨g,A,c,A2,c2,rfl,eI _ g 2 _ _ _ k1,zBo h hg _ _ _⟩
theorem compare_cT (A A2 A3 A4:Option Addr) (c c2 c3 c4 n d m e:Nat) (w:World) (h:Lt w A c n) (h2:Lt w A2 c2 d) (h3:Lt w A3 c3 m) (h4:Lt w A4 c4 e)
  (hn:(zAc BT n).length≤50000000) (hd:(zAc BT d).length≤50000000) (hm:(zAc BT m).length≤50000000) (he:(zAc BT e).length≤50000000) (hd0:0<d) (he0:0<e) :
  Calls Tryz.prog 18 #[nuV false A c n A2 c2 d,nuV false A3 c3 m A4 c4 e] w (zAe (.int .i64 (zCZ (n*e) (m*d))) w):=by
 rw [plusN_cmp];have HMI:=zq (fun W=>minus_c false A3 A4 c3 c4 m e W)
 unfold GivesMi at HMI;obtain ⟨mg,hmg⟩:∃ mg,mg=(!false&&decide (m≠0)):=⟨_,rfl⟩;rw [←hmg] at HMI ⊢;clear hmg;have HX0:Hid (Bx ((w.alloc (.cells (nuC false A c n A2 c2 d) 45)).alloc (.cells (nuC false A3 c3 m A4 c4 e) 45)) w.heap.size (nuC false A c n A2 c2 d) 45):=(Bx.new _ _ _).alloc _;have HY0:Hid (Bx ((w.alloc (.cells (nuC false A c n A2 c2 d) 45)).alloc (.cells (nuC false A3 c3 m A4 c4 e) 45)) (w.heap.size+1) (nuC false A3 c3 m A4 c4 e) 45):=Bx.new1 _ _ _ _;have HB0:Hid (Below w.heap.size w ((w.alloc (.cells (nuC false A c n A2 c2 d) 45)).alloc (.cells (nuC false A3 c3 m A4 c4 e) 45))):=((aS w.heap.size w).alloc (aB _) _).alloc ze _;obtain ⟨W,hW⟩:∃ W,W=((w.alloc (.cells (nuC false A c n A2 c2 d) 45)).alloc (.cells (nuC false A3 c3 m A4 c4 e) 45)):=⟨_,rfl⟩;rw [←hW] at HX0 HY0 HB0;have g1:=zq (h.below HB0.o);have g2:=zq (h2.below HB0.o);have g3:=zq (h3.below HB0.o);have g4:=zq (h4.below HB0.o);clear h h2 h3 h4
 go_enter Tryz.func18,Tryz.ntmps18
 go_upto_region 1 with fail
 rw [←hW];clear hW
 go_cut [5] (fun v wx=>CoRel w (zEa false n d mg m e).1 (zEa false n d mg m e).2.1 (zEa false n d mg m e).2.2 v wx)
 case first =>
  obtain ⟨a0,a1,a2⟩:=HX0.o.t;obtain ⟨b0,b1,b2⟩:=HY0.o.t;have sx:=HX0.o.lt;have sy:=HY0.o.lt
  go_region_held3 (fun w'=>(w'.cell? ⟨w.heap.size,0,none⟩=some (.bool false)∧w'.cell? ⟨w.heap.size,1,none⟩=some (.slice A (zAc BT n).length c)∧w'.cell? ⟨w.heap.size,2,none⟩=some (.slice A2 (zAc BT d).length c2))∧(w'.cell? ⟨w.heap.size+1,0,none⟩=some (.bool false)∧w'.cell? ⟨w.heap.size+1,1,none⟩=some (.slice A3 (zAc BT m).length c3)∧w'.cell? ⟨w.heap.size+1,2,none⟩=some (.slice A4 (zAc BT e).length c4)))
   ((refine ⟨⟨?_,?_,?_⟩,?_,?_,?_⟩<;>first | with_reducible assumption | go_simp))
   (first
    | ((go_at_call 46;(with_reducible refine (HMI.o (W.alloc (.cells zBE 45)).drew).mono ?_);rintro x w1 ⟨rfl,hb⟩;have HX1:=zq (((HX0.o.alloc (.cells zBE 45)).drew).below hb);have HY1:=zq (((HY0.o.alloc (.cells zBE 45)).drew).below hb);have HB1:=zq ((zAd (HB0.o.alloc HB0.o.size (.cells zBE 45)) 1).trans (hb.mono (zAd (HB0.o.alloc HB0.o.size (.cells zBE 45)) 1).size));have k1:=zq (((g1.out.below ((aS _ _).alloc (aB _) (.cells zBE 45))).drew).below hb);have k2:=zq (((g2.out.below ((aS _ _).alloc (aB _) (.cells zBE 45))).drew).below hb);have k3:=zq (((g3.out.below ((aS _ _).alloc (aB _) (.cells zBE 45))).drew).below hb);have k4:=zq (((g4.out.below ((aS _ _).alloc (aB _) (.cells zBE 45))).drew).below hb);have HZ1:=zq ((Bx.new W zBE 45).drew.below hb);have hzg:w.heap.size≤W.heap.size:=HB0.o.size;have sy0:=HY0.o.lt;have q1:¬ (w.heap.size=W.heap.size):=za;have q2:¬ (w.heap.size+1=W.heap.size):=za;have q3:¬ (W.heap.size=w.heap.size):=za;have q4:¬ (W.heap.size=w.heap.size+1):=za;obtain ⟨z0,z1,z2⟩:=HZ1.o.t;have zf:=HZ1.o.frozen;have zs:=HZ1.o.lt;clear hb;clear a0 a1 a2 b0 b1 b2 sx sy;obtain ⟨a0,a1,a2⟩:=HX1.o.t;obtain ⟨b0,b1,b2⟩:=HY1.o.t;have sx:=HX1.o.lt;have sy:=HY1.o.lt))
    | ((go_at_call 46;(with_reducible refine (HMI.o W.drew).mono ?_);rintro x w1 ⟨rfl,hb⟩;have HX1:=zq ((HX0.o.drew).below hb);have HY1:=zq ((HY0.o.drew).below hb);have HB1:=zq ((zAd HB0.o 1).trans (hb.mono (zAd HB0.o 1).size));have k1:=zq ((g1.out.drew).below hb);have k2:=zq ((g2.out.drew).below hb);have k3:=zq ((g3.out.drew).below hb);have k4:=zq ((g4.out.drew).below hb);skip;clear hb;clear a0 a1 a2 b0 b1 b2 sx sy;obtain ⟨a0,a1,a2⟩:=HX1.o.t;obtain ⟨b0,b1,b2⟩:=HY1.o.t;have sx:=HX1.o.lt;have sy:=HY1.o.lt))
    | ((go_at_call 16;(with_reducible refine (plus_c false mg A A2 A3 A4 c c2 c3 c4 n d m e (w1.alloc (.cells zBE 45)) (k1.out.below ((aS _ _).alloc (aB _) (.cells zBE 45))) (k2.out.below ((aS _ _).alloc (aB _) (.cells zBE 45))) (k3.out.below ((aS _ _).alloc (aB _) (.cells zBE 45))) (k4.out.below ((aS _ _).alloc (aB _) (.cells zBE 45))) hn hd hm he hd0 he0).mono ?_);rintro x w2 ⟨A5,c5,A6,c6,rfl,h5,h6,hb⟩;have HX2:=zq ((HX1.o.alloc (.cells zBE 45)).below hb);have HY2:=zq ((HY1.o.alloc (.cells zBE 45)).below hb);have HB2:=zq ((HB1.o.alloc HB1.o.size (.cells zBE 45)).trans (hb.mono (HB1.o.alloc HB1.o.size (.cells zBE 45)).size));have HZ2:=zq ((Bx.new w1 zBE 45).below hb);have hzg:w.heap.size≤w1.heap.size:=HB1.o.size;have sy1:=HY1.o.lt;have q1:¬ (w.heap.size=w1.heap.size):=za;have q2:¬ (w.heap.size+1=w1.heap.size):=za;have q3:¬ (w1.heap.size=w.heap.size):=za;have q4:¬ (w1.heap.size=w.heap.size+1):=za;obtain ⟨z0,z1,z2⟩:=HZ2.o.t;have zf:=HZ2.o.frozen;have zs:=HZ2.o.lt;clear hb;clear a0 a1 a2 b0 b1 b2 sx sy;obtain ⟨a0,a1,a2⟩:=HX2.o.t;obtain ⟨b0,b1,b2⟩:=HY2.o.t;have sx:=HX2.o.lt;have sy:=HY2.o.lt))
    | ((go_at_call 16;(with_reducible refine (plus_c false mg A A2 A3 A4 c c2 c3 c4 n d m e w1 k1.out k2.out k3.out k4.out hn hd hm he hd0 he0).mono ?_);rintro x w2 ⟨A5,c5,A6,c6,rfl,h5,h6,hb⟩;have HX2:=zq (HX1.o.below hb);have HY2:=zq (HY1.o.below hb);have HB2:=zq (HB1.o.trans (hb.mono HB1.o.size));(first | (have HZ2:=zq (HZ1.o.below hb);clear z0 z1 z2 zf zs;obtain ⟨z0,z1,z2⟩:=HZ2.o.t;have zf:=HZ2.o.frozen;have zs:=HZ2.o.lt) | skip);clear hb;clear a0 a1 a2 b0 b1 b2 sx sy;obtain ⟨a0,a1,a2⟩:=HX2.o.t;obtain ⟨b0,b1,b2⟩:=HY2.o.t;have sx:=HX2.o.lt;have sy:=HY2.o.lt)))
  all_goals
   go_wp2_with fail
   go_meet
   first
    | exact co_set HB2.o HZ2.o hzg
    | exact co_new HB2.o
 case rest =>
  obtain ⟨g,A5,c5,A6,c6,rfl,hbx,hbw⟩:=hcut;have HBX:=zq hbx;have HBW:=zq hbw;clear hbx hbw;generalize (zEa false n d mg m e).1=ng at *;generalize (zEa false n d mg m e).2.1=p at *;generalize (zEa false n d mg m e).2.2=q at *;have x0:=HBX.o.c 0 rfl;have x1:=HBX.o.c 1 rfl;have xs:=HBX.o.lt
  by_cases h0:p=0
  ·subst h0
   have hz:(zAc BT 0).length=0:=rfl;have x1:_=some (Value.slice A5 0 c5):=x1;go_wp2;go_ret
   exact zAe.mk ze HBW.o
  ·have hl:=pos_lenT (eH h0)
   have hlb:(((zAc BT p).length:Int) == 0)=false:=by simp;intro e;rw [e] at hl;simp at hl
   cases ng with
   | true =>
    go_wp2;go_ret
    exact zAe.mk ze HBW.o
   | false =>
    go_wp2;go_ret
    exact zAe.mk ze HBW.o
end Go.Proofs.YtieoifkdobcpiaaGreatDoor
