/- Parts of the proof, joined: DERIVED: THE SHELF's CONTRACTS AT THIS DUMP, IN PLAIN WORDS (tools/lay. -/
import Derived.Shelf.Small.Wraps
import Derived.Shelf.Small.Strs
import Derived.Shelf.Strings.SlTrimAscii
import Derived.Test.YtieoifkdobcpiaaGreatDoorSs05
set_option maxRecDepth 100000
set_option maxHeartbeats 8000000
namespace Go.Proofs
open Go.Shelf
def Tryz.lays160_ren:Go.Shelf.Ren:=⟨fun | 160=>150 | 232=>212 | 231=>211 | 227=>213 | 234=>215 | 233=>214 | 236=>217 | 235=>216 | 228=>258 | 271=>261 | 151=>260 | 197=>259 | 120=>276 | 152=>275 | 260=>274 | 137=>279 | 119=>280 | 224=>281 | 225=>282 | 217=>283 | 266=>284 | n=>n,fun | 9=>9 | 4=>4 | 3=>3 | 5=>5 | 117=>279 | 116=>278 | 0=>0 | 124=>282 | 21=>21 | 105=>313 | 46=>188 | 119=>335 | 139=>338 | 138=>337 | n=>n,fun | 3=>6 | 4=>7 | n=>n⟩
theorem Tryz.lays160:Go.Proofs.Lays.n160 Tryz.prog Tryz.lays160_ren:={
 mixed:=zc
 f119:=Tryz.func280.trans (congrArg some zc)
 f120:=Tryz.func276.trans (congrArg some zc)
 f137:=Tryz.func279.trans (congrArg some zc)
 f151:=Tryz.func260.trans (congrArg some zc)
 f152:=Tryz.func275.trans (congrArg some zc)
 f160:=Tryz.func150.trans (congrArg some zc)
 f197:=Tryz.func259.trans (congrArg some zc)
 f217:=Tryz.func283.trans (congrArg some zc)
 f224:=Tryz.func281.trans (congrArg some zc)
 f225:=Tryz.func282.trans (congrArg some zc)
 f227:=Tryz.func213.trans (congrArg some zc)
 f228:=Tryz.func258.trans (congrArg some zc)
 f231:=Tryz.func211.trans (congrArg some zc)
 f232:=Tryz.func212.trans (congrArg some zc)
 f233:=Tryz.func214.trans (congrArg some zc)
 f234:=Tryz.func215.trans (congrArg some zc)
 f235:=Tryz.func216.trans (congrArg some zc)
 f236:=Tryz.func217.trans (congrArg some zc)
 f260:=Tryz.func274.trans (congrArg some zc)
 f266:=Tryz.func284.trans (congrArg some zc)
 f271:=Tryz.func261.trans (congrArg some zc)
 t0:=Tryz.underlying0
 a0:=Tryz.isAgg0
 z0:=Tryz.sizeOf0
 v0:=Tryz.zeroValue0
 t3:=Tryz.underlying3
 a3:=Tryz.isAgg3
 z3:=Tryz.sizeOf3
 v3:=Tryz.zeroValue3
 t4:=Tryz.underlying4
 a4:=Tryz.isAgg4
 z4:=Tryz.sizeOf4
 v4:=Tryz.zeroValue4
 t5:=Tryz.underlying5
 a5:=Tryz.isAgg5
 z5:=Tryz.sizeOf5
 v5:=Tryz.zeroValue5
 t9:=Tryz.underlying9
 a9:=Tryz.isAgg9
 z9:=Tryz.sizeOf9
 v9:=Tryz.zeroValue9
 t21:=Tryz.underlying21
 a21:=Tryz.isAgg21
 z21:=Tryz.sizeOf21
 v21:=Tryz.zeroValue21
 t46:=Tryz.underlying188
 a46:=Tryz.isAgg188
 z46:=Tryz.sizeOf188
 v46:=Tryz.zeroValue188
 t105:=Tryz.underlying313
 a105:=Tryz.isAgg313
 z105:=Tryz.sizeOf313
 v105:=Tryz.zeroValue313
 t116:=Tryz.underlying278
 a116:=Tryz.isAgg278
 z116:=Tryz.sizeOf278
 t117:=Tryz.underlying279
 a117:=Tryz.isAgg279
 z117:=Tryz.sizeOf279
 v117:=Tryz.zeroValue279
 t119:=Tryz.underlying335
 a119:=Tryz.isAgg335
 z119:=Tryz.sizeOf335
 t124:=Tryz.underlying282
 a124:=Tryz.isAgg282
 z124:=Tryz.sizeOf282
 v124:=Tryz.zeroValue282
 t138:=Tryz.underlying337
 a138:=Tryz.isAgg337
 z138:=Tryz.sizeOf337
 v138:=Tryz.zeroValue337
 t139:=Tryz.underlying338
 a139:=Tryz.isAgg338
 z139:=Tryz.sizeOf338
 v139:=Tryz.zeroValue338
 g3:=zc
 g4:=by kernel_rfl }
def Tryz.lays103_ren:Go.Shelf.Ren:=⟨fun | 103=>163 | 210=>224 | 206=>248 | n=>n,fun | 9=>9 | 4=>4 | 24=>236 | 3=>3 | n=>n,fun | n=>n⟩
theorem Tryz.lays103:Go.Proofs.Lays.n103 Tryz.prog Tryz.lays103_ren:={
 mixed:=zc
 f103:=Tryz.func163.trans (congrArg some zc)
 f206:=Tryz.func248.trans (congrArg some zc)
 f210:=Tryz.func224.trans (congrArg some zc)
 t3:=Tryz.underlying3
 a3:=Tryz.isAgg3
 z3:=Tryz.sizeOf3
 v3:=Tryz.zeroValue3
 t4:=Tryz.underlying4
 a4:=Tryz.isAgg4
 z4:=Tryz.sizeOf4
 v4:=Tryz.zeroValue4
 t9:=Tryz.underlying9
 a9:=Tryz.isAgg9
 z9:=Tryz.sizeOf9
 v9:=Tryz.zeroValue9
 t24:=Tryz.underlying236
 a24:=Tryz.isAgg236
 z24:=Tryz.sizeOf236
 v24:=Tryz.zeroValue236 }
def Tryz.lays106_ren:Go.Shelf.Ren:=⟨fun | 106=>207 | 213=>251 | 265=>271 | n=>n,fun | 9=>9 | 3=>3 | n=>n,fun | n=>n⟩
theorem Tryz.lays106:Go.Proofs.Lays.n106 Tryz.prog Tryz.lays106_ren:={
 mixed:=zc
 f106:=Tryz.func207.trans (congrArg some zc)
 f213:=Tryz.func251.trans (congrArg some zc)
 f265:=Tryz.func271.trans (congrArg some zc)
 t3:=Tryz.underlying3
 a3:=Tryz.isAgg3
 z3:=Tryz.sizeOf3
 v3:=Tryz.zeroValue3
 t9:=Tryz.underlying9
 a9:=Tryz.isAgg9
 z9:=Tryz.sizeOf9
 v9:=Tryz.zeroValue9 }
end Go.Proofs
namespace Go.Proofs.YtieoifkdobcpiaaGreatDoor
open Go.RowKit Dw
theorem Of_c (n:Nat) (w:World) (h:n≤1000000000):Calls Tryz.prog 78 #[.int .i64 (n:Int)] w (GivesI false n w):=by
 go_enter Tryz.func78,Tryz.ntmps78
 go_wp2_with fail
 with_reducible refine (natOf_c n _ za).mono ?_
 rintro e w1 ⟨A5,c5,rfl,h5,hb⟩;obtain ⟨hc,hf⟩:=bcellK hb;have hz:w.heap.size<w1.heap.size:=jc;have k0:w1.cell? ⟨w.heap.size,0,none⟩=some (.bool false):=zn;have k1:w1.cell? ⟨w.heap.size,1,none⟩=some (.slice none 0 0):=zn;have HB:Hid (Below w.heap.size w w1):=((Below.refl w.heap.size w).alloc (Nat.le_refl _) _).trans (hb.mono ze);go_wp2;refine bodyPost_ret (v:=inV false A5 c5 n) (by simp [results,Tryz.results78,go_sem,hc]) rfl ⟨A5,c5,rfl,?_,?_⟩
 ·exact h5.set2 k0 k1 (nb_ _) (ns_ _ _ _) _ _
 ·exact (HB.o.setCell ze _).setCell ze _
theorem Whole_c (n:Nat) (w:World) (h:n≤1000000000):Calls Tryz.prog 34 #[.int .i64 (n:Int)] w (zCK false n 1 w):=by
 go_enter Tryz.func34,Tryz.ntmps34
 go_wp2_with fail
 with_reducible refine (Of_c n _ h).mono ?_
 rintro e w1 ⟨A5,c5,rfl,h5,hb⟩
 go_wp2_with fail
 with_reducible refine (One_c _).mono ?_
 rintro e w2 ⟨A6,c6,rfl,h6,hb6⟩;have h56:=h5.below hb6;have hb7:=zAa hb hb6;obtain ⟨hc,hf⟩:=bcellK hb7;have hz:w.heap.size<w2.heap.size:=by have:=hb7.size;simp at this;omega
 have k0:w2.cell? ⟨w.heap.size,0,none⟩=some (.bool false):=zn;have k1:w2.cell? ⟨w.heap.size,1,none⟩=some (.slice none 0 0):=zn;have k2:w2.cell? ⟨w.heap.size,2,none⟩=some (.slice none 0 0):=zn;have HB:Hid (Below w.heap.size w w2):=((Below.refl w.heap.size w).alloc (Nat.le_refl _) _).trans (hb7.mono ze);go_wp2;refine bodyPost_ret (v:=raV false A5 c5 n A6 c6 1) (by simp [results,Tryz.results34,go_sem,hc]) rfl ⟨A5,c5,A6,c6,rfl,?_,?_,?_⟩
 ·exact h56.set3 k0 k1 k2 (nb_ _) (ns_ _ _ _) (ns_ _ _ _) _ _ _
 ·exact h6.set3 k0 k1 k2 (nb_ _) (ns_ _ _ _) (ns_ _ _ _) _ _ _
 ·exact ((HB.o.setCell ze _).setCell ze _).setCell ze _
theorem byte45 (c:UInt8):(45 == c)=decide (c.toNat=45):=by
 have h:∀ n:Nat,n<256→((45:UInt8) == UInt8.ofNat n)=decide ((UInt8.ofNat n).toNat=45):=qf;have:=h c.toNat c.toNat_lt
 simpa using this
theorem cut_c (s:ByteArray) (w:World):Calls Tryz.prog 163 #[.string s,.string ⟨#[45]⟩] w (zAz (.tuple #[.string (zAX s),.bool (zDp s)]) w):=by
 have h:=Any.strings_CutPrefix Tryz.lays103 s ⟨#[45]⟩ w
 change Calls Tryz.prog 163 _ _ _ at h
 have e1:Lib.hasPrefix s.data.toList [45]=zDp s:=by
  unfold Lib.hasPrefix zDp;rw [Lib.size_eq]
  cases s.data.toList with
  | nil=>rfl
  | cons a l =>
   have:(45 == a)=decide (a.toNat=45):=byte45 a;simp [List.isPrefixOf,this]
 have e2:(⟨(Lib.trimPrefix s.data.toList [45]).toArray⟩:ByteArray)=zAX s:=by
  unfold Lib.trimPrefix zAX absL;rw [e1]
  cases zDp s<;>simp
 refine h.mono fun _ _ ⟨he,hw⟩=>⟨?_,hw.symm⟩
 rw [he]
 show Ending.returned (.tuple #[.string ⟨(Lib.trimPrefix s.data.toList [45]).toArray⟩,.bool (Lib.hasPrefix s.data.toList [45])])=_
 rw [e1,e2]
def Bx (w:World) (g:Nat) (cs:Array Value) (T:TypeId):Prop:=w.heap[g]?=some (.cells cs T (0,0))
section
variable {w w':World} {g:Nat} {cs:Array Value} {T:TypeId}
theorem Bx.lt (h:Bx w g cs T):g<w.heap.size:=(Array.getElem?_eq_some_iff.1 h).1
theorem Bx.cell (h:Bx w g cs T) {i:Nat} {v:Value} (hi:cs[i]?=some v):w.cell? ⟨g,i,none⟩=some v:=by
 rw [cell_of_row w g i _ _ _ h];exact hi
theorem Bx.frozen (h:Bx w g cs T) (i:Nat):w.frozen? ⟨g,i,none⟩=false:=frozen_of_row w g i _ _ h
theorem Bx.below (h:Bx w g cs T) (hb:Below w.heap.size w w'):Bx w' g cs T:=(hb.block g h.lt).trans h
theorem Bx.drew (h:Bx w g cs T):Bx w.drew g cs T:=h
theorem Bx.drewN (h:Bx w g cs T) (n:Nat):Bx (w.drewN n) g cs T:=h
theorem Bx.alloc (h:Bx w g cs T) (o:Obj):Bx (w.alloc o) g cs T:=(Below.heap_alloc w o g h.lt).trans h
theorem Bx.new (w:World) (cs:Array Value) (T:TypeId):Bx (w.alloc (.cells cs T)) w.heap.size cs T:=heap_alloc_new w _
theorem Bx.new1 (w:World) (o:Obj) (cs:Array Value) (T:TypeId):Bx ((w.alloc o).alloc (.cells cs T)) (w.heap.size+1) cs T:=by
 have:=Bx.new (w.alloc o) cs T
 rwa [show (w.alloc o).heap.size=w.heap.size+1 by simp] at this
theorem Bx.new2 (w:World) (o o2:Obj) (cs:Array Value) (T:TypeId):Bx (((w.alloc o).alloc o2).alloc (.cells cs T)) (w.heap.size+1+1) cs T:=by
 have:=Bx.new1 (w.alloc o) o2 cs T
 rwa [show (w.alloc o).heap.size=w.heap.size+1 by simp] at this
end
abbrev zCb:Array Value:=#[.bool false,.slice none 0 0,.slice none 0 0]
theorem Nt.setR {w:World} {A:Option Addr} {c n R:Nat} {T:TypeId} (h:Nt w A c n) (hb:Bx w R zCb T) (u0 u1 u2:Value):Nt (((w.setCell ⟨R,0,none⟩ u0).setCell ⟨R,1,none⟩ u1).setCell ⟨R,2,none⟩ u2) A c n :=
 h.set3 (hb.cell (i:=0) rfl) (hb.cell (i:=1) rfl) (hb.cell (i:=2) rfl) (nb_ _) (ns_ _ _ _) (ns_ _ _ _) _ _ _
def sgB (s:ByteArray):Bool:=zDp s&&decide (zAy (zAX s)≠0)
theorem Parse_c (s:ByteArray) (w:World) (hd:(zAX s).data.toList.all dgB=true) (hs:(zAX s).size≤2000):Calls Tryz.prog 111 #[.string s] w (GivesI (sgB s) (zAy (zAX s)) w):=by
 have HS:Hid ((zAy (zAX s)=0∧sgB s=false)∨(0<(zAc B32 (zAy (zAX s))).length∧sgB s=zDp s)):=by
  by_cases h0:zAy (zAX s)=0
  ·exact .inl ⟨h0,by simp [sgB,h0]⟩
  ·exact .inr ⟨pos_len za,by simp [sgB,h0]⟩
 have HN:=zq (fun W=>natText_c (zAX s) W hd hs)
 have HC:=zq (fun W=>cut_c s W)
 clear hd hs;generalize zAX s=t at *;generalize zAy t=n at *;generalize sgB s=sg at *;generalize zDp s=ng at *
 rcases HS.o with ⟨rfl,rfl⟩ | ⟨hl,rfl⟩
 case' inr=>cases sg
 case' inl=>cases ng
 all_goals
  clear HS
  go_enter Tryz.func111,Tryz.ntmps111
  go_wp2_with fail
  with_reducible refine (HC.o _).mono ?_
  rintro e w1 ⟨rfl,rfl⟩
  go_wp2_with fail
  with_reducible refine (HN.o _).mono ?_
  rintro e w2 ⟨A5,c5,rfl,h5,hb⟩;obtain ⟨hc,hf⟩:=bcellK hb;have hz:w.heap.size<w2.heap.size:=jc;have k0:w2.cell? ⟨w.heap.size,0,none⟩=some (.bool false):=zn;have k1:w2.cell? ⟨w.heap.size,1,none⟩=some (.slice none 0 0):=zn;have HB:Hid (Below w.heap.size w w2):=((Below.refl w.heap.size w).alloc (Nat.le_refl _) _).trans (hb.mono ze);clear HC HN;go_wp2;refine bodyPost_ret (v:=inV _ A5 c5 _) (by first | (simp [results,Tryz.results111,go_sem,hc];done) | (simp [results,Tryz.results111,go_sem,hc];rfl)) rfl ⟨A5,c5,rfl,?_,?_⟩
  ·exact h5.set2 k0 k1 (nb_ _) (ns_ _ _ _) _ _
  ·exact (HB.o.setCell ze _).setCell ze _
theorem From_c (nu de:ByteArray) (w:World) (hd:(zAX nu).data.toList.all dgB=true) (hs:(zAX nu).size≤2000) (hd2:de.data.toList.all dgB=true) (hs2:de.size≤2000) :
  Calls Tryz.prog 70 #[.agg #[.string nu,.string de]] w (zCK (sgB nu) (zAy (zAX nu)) (zAy de) w):=by
 have HP:=zq (fun W=>Parse_c nu W hd hs)
 have HN:=zq (fun W=>natText_c de W hd2 hs2)
 clear hd hs hd2 hs2;generalize zAy (zAX nu)=n at *;generalize sgB nu=sg at *;generalize zAy de=d at *
 go_enter Tryz.func70,Tryz.ntmps70
 go_wp2;have HX:Hid (Bx ((w.alloc (.cells #[.string nu,.string de] 40)).alloc (.cells zCb 89)) w.heap.size #[.string nu,.string de] 40):=(Bx.new _ _ _).alloc _;have HR:Hid (Bx ((w.alloc (.cells #[.string nu,.string de] 40)).alloc (.cells zCb 89)) (w.heap.size+1) zCb 89):=Bx.new1 _ _ _ _;have HB:Hid (Below w.heap.size w ((w.alloc (.cells #[.string nu,.string de] 40)).alloc (.cells zCb 89))):=((Below.refl w.heap.size w).alloc (Nat.le_refl _) _).alloc ze _
 go_region_held3 (fun w'=>w'.cell? ⟨w.heap.size,0,none⟩=some (.string nu)∧w'.cell? ⟨w.heap.size,1,none⟩=some (.string de)) ((refine ⟨?_,?_⟩<;>first | with_reducible assumption | go_simp))
  (first
   | ((go_at_call 111;(with_reducible refine (HP.o _).mono ?_);rintro e w1 ⟨A5,c5,rfl,h5,hb⟩;have HX1:=zq (HX.o.drew.below hb);have HR1:=zq (HR.o.drew.below hb);have HB1:=zq ((zAd HB.o 1).trans (hb.mono HB.o.size));have a0:=HX1.o.cell (i:=0) rfl;have a1:=HX1.o.cell (i:=1) rfl;clear hb))
   | ((go_at_call 112;(with_reducible refine (HN.o _).mono ?_);rintro e w2 ⟨A6,c6,rfl,h6,hb6⟩;have h56:=h5.below hb6;have HX2:=zq (HX1.o.below hb6);have HR2:=zq (HR1.o.below hb6);have HB2:=zq (zAa HB1.o hb6);have a2:=HX2.o.cell (i:=0) rfl;have a3:=HX2.o.cell (i:=1) rfl;have r0:=HR2.o.cell (i:=0) rfl;have r1:=HR2.o.cell (i:=1) rfl;have r2:=HR2.o.cell (i:=2) rfl;have fr:=HR2.o.frozen;have rl:=HR2.o.lt;clear hb6)))
 clear HX HR HB HX1 HR1 HB1 a0 a1 h5;go_wp2;refine bodyPost_ret (v:=raV sg A5 c5 n A6 c6 d) (by simp [results,Tryz.results70,go_sem,r0,r1,r2]) rfl ⟨A5,c5,A6,c6,rfl,h56.setR HR2.o _ _ _,h6.setR HR2.o _ _ _,?_⟩
 exact ((HB2.o.setCell ze _).setCell ze _).setCell ze _
def lowB (n d:Nat):Bool:=decide (Nat.gcd n d=1)
theorem low_cmp {n d:Nat} (hd:0<d):(zDq (zBV n d).2 d == 0)=lowB n d:=by
 unfold lowB zBV
 show (zDq (d / Nat.gcd n d) d == 0)=_
 have hg:=Nat.gcd_pos_of_pos_right n hd
 by_cases h:Nat.gcd n d=1
 ·have e:d / Nat.gcd n d=d:=by rw [h];exact Nat.div_one d
  rw [e,zCM rfl];simp [h]
 ·have hlt:d / Nat.gcd n d<d:=Nat.div_lt_self hd za
  rw [zBF hlt];simp [h]
theorem fldDen (W:World) (ng:Bool) (A A2:Option Addr) (n c m c2:Nat):(Instr.field 89 (.agg #[.bool ng,.slice A n c,.slice A2 m c2]) 1).run Tryz.prog W = .ok (.slice A2 m c2) W:=zc
theorem Lowest_c (ng:Bool) (A A2:Option Addr) (c c2 n d:Nat) (w:World) (h:Nt w A c n) (h2:Nt w A2 c2 d) (hd:0<d) (hn:(zAc B32 n).length≤400000000) (hm:(zAc B32 d).length≤400000000) :
  Calls Tryz.prog 253 #[raV ng A c n A2 c2 d] w (zAe (.bool (lowB n d)) w):=by
 have hlc:=low_cmp (n:=n) hd;have HL2:Hid ((zAc B32 (zBV n d).2).length≤400000000):=Nat.le_trans (zAq zAt (Nat.div_le_self d _)) hm;have HO:=zq (fun W (q:Nt W A c n) (q2:Nt W A2 c2 d)=>Over_c A A2 c c2 n d ng W q q2 hd hn hm)
 generalize (ng&&decide (n≠0))=ng2 at *;generalize (zBV n d).1=p1 at *;generalize (zBV n d).2=p2 at *;generalize lowB n d=lb at *;have HLC:=zq hlc;clear hlc hd;have HXX:Hid (Bx (w.alloc (.cells #[.bool ng,.slice A (zAc B32 n).length c,.slice A2 (zAc B32 d).length c2] 89)) w.heap.size #[.bool ng,.slice A (zAc B32 n).length c,.slice A2 (zAc B32 d).length c2] 89):=Bx.new _ _ _;have HB:Hid (Below w.heap.size w (w.alloc (.cells #[.bool ng,.slice A (zAc B32 n).length c,.slice A2 (zAc B32 d).length c2] 89))):=(Below.refl w.heap.size w).alloc (Nat.le_refl _) _
 go_enter Tryz.func253,Tryz.ntmps253
 go_wp2;have hfd:=fldDen
 go_region_held3 (fun w'=>w'.cell? ⟨w.heap.size,0,none⟩=some (.bool ng)∧w'.cell? ⟨w.heap.size,1,none⟩=some (.slice A (zAc B32 n).length c)∧w'.cell? ⟨w.heap.size,2,none⟩=some (.slice A2 (zAc B32 d).length c2)) ((refine ⟨?_,?_,?_⟩<;>first | with_reducible assumption | go_simp))
  (first
   | ((go_at_call 117;(with_reducible refine (HO.o _ (Nt.drew (h.alloc _)) (Nt.drew (h2.alloc _))).mono ?_);rintro e w1 ⟨A5,c5,A6,c6,rfl,h5,h6,hb⟩;have HX1:=zq (HXX.o.drew.below hb);have HB1:=zq ((zAd HB.o 1).trans (hb.mono HB.o.size));have a0:=HX1.o.cell (i:=0) rfl;have a1:=HX1.o.cell (i:=1) rfl;have a2:=HX1.o.cell (i:=2) rfl;have h21:=(Nt.drew (h2.alloc _)).below hb;clear hb))
   | ((go_at_call 116;(with_reducible refine (Cmp_c A6 A2 c6 c2 p2 d _ h6 h21 (Nat.le_trans HL2.o za)).mono ?_);rintro e w2 ⟨rfl,nd,rfl⟩)))
 clear HXX HB HX1 a0 a1 a2 h5 h6 h21 hfd;go_wp2;go_ret
 exact zAe.mk (zAp HLC.o) (zAd HB1.o nd)
theorem lowP_scale {k x y:Nat} (h:0<k):zBV (k*x) (k*y)=zBV x y:=by
 unfold zBV;rw [Nat.gcd_mul_left,Nat.mul_div_mul_left _ _ h,Nat.mul_div_mul_left _ _ h]
theorem addP_same (n m d:Nat) (h:0<d):addP (n,d) (m,d)=zBV (n+m) d:=by
 unfold addP
 show zBV (n*d+m*d) (d*d)=_
 rw [←Nat.add_mul,Nat.mul_comm,lowP_scale h]
theorem zDi (a b:Nat):(zAc B32 (a*b)).length≤(zAc B32 a).length+(zAc B32 b).length:=by
 refine zBg zAt ?_
 rw [Nat.pow_add];have h1:=zBl zAt a;have h2:=zBl zAt b;exact Nat.lt_of_le_of_lt (Nat.mul_le_mul_left a (Nat.le_of_lt h2)) (Nat.mul_lt_mul_of_pos_right h1 (Nat.pow_pos zCl))
theorem len_add (a b:Nat):(zAc B32 (a+b)).length≤max (zAc B32 a).length (zAc B32 b).length+1:=by
 refine zBg zAt ?_
 have h1:=zBl zAt a;have h2:=zBl zAt b;have h3:B32 ^ (zAc B32 a).length≤B32 ^ max (zAc B32 a).length (zAc B32 b).length:=Nat.pow_le_pow_right zCl (Nat.le_max_left _ _);have h4:B32 ^ (zAc B32 b).length≤B32 ^ max (zAc B32 a).length (zAc B32 b).length:=Nat.pow_le_pow_right zCl (Nat.le_max_right _ _);rw [Nat.pow_succ];have h5:=Nat.mul_le_mul_left (B32 ^ max (zAc B32 a).length (zAc B32 b).length) (show 2≤B32 by decide)
 omega
abbrev raC (A:Option Addr) (c n:Nat) (A2:Option Addr) (c2 d:Nat):Array Value:=#[.bool false,.slice A (zAc B32 n).length c,.slice A2 (zAc B32 d).length c2]
theorem RCmp_c (A A2 A3 A4:Option Addr) (c c2 c3 c4 n d m e:Nat) (w:World) (h:Nt w A c n) (h2:Nt w A2 c2 d) (h3:Nt w A3 c3 m) (h4:Nt w A4 c4 e)
  (hn:(zAc B32 n).length≤100000000) (hd:(zAc B32 d).length≤100000000) (hm:(zAc B32 m).length≤100000000) (he:(zAc B32 e).length≤100000000) :
  Calls Tryz.prog 33 #[raV false A c n A2 c2 d,raV false A3 c3 m A4 c4 e] w (zAe (.int .i64 (zDq (n*e) (m*d))) w):=by
 have HM1:=zq (fun W (q:Nt W A c n) (q2:Nt W A4 c4 e)=>IMul_c A A4 c c4 n e W q q2 za za)
 have HM2:=zq (fun W (q:Nt W A3 c3 m) (q2:Nt W A2 c2 d)=>IMul_c A3 A2 c3 c2 m d W q q2 za za)
 have HL:Hid ((zAc B32 (n*e)).length≤400000000):=Nat.le_trans (zDi n e) za;obtain ⟨p,hp⟩:∃ p,n*e=p:=⟨_,rfl⟩;obtain ⟨q,hq⟩:∃ q,m*d=q:=⟨_,rfl⟩;rw [hp] at HM1 HL ⊢;rw [hq] at HM2 ⊢;clear hp hq;have HK:=zq (fun (A5:Option Addr) c5 (A6:Option Addr) c6 W (x:Nt W A5 c5 p) (y:Nt W A6 c6 q)=>ICmp_c A5 A6 c5 c6 p q W x y HL.o)
 have HX:Hid (Bx ((w.alloc (.cells (raC A c n A2 c2 d) 89)).alloc (.cells (raC A3 c3 m A4 c4 e) 89)) w.heap.size (raC A c n A2 c2 d) 89):=(Bx.new _ _ _).alloc _;have HY:Hid (Bx ((w.alloc (.cells (raC A c n A2 c2 d) 89)).alloc (.cells (raC A3 c3 m A4 c4 e) 89)) (w.heap.size+1) (raC A3 c3 m A4 c4 e) 89):=Bx.new1 _ _ _ _;have HB:Hid (Below w.heap.size w ((w.alloc (.cells (raC A c n A2 c2 d) 89)).alloc (.cells (raC A3 c3 m A4 c4 e) 89))):=((Below.refl w.heap.size w).alloc (Nat.le_refl _) _).alloc ze _;clear hn hd hm he
 go_enter Tryz.func33,Tryz.ntmps33
 go_wp2
 go_region_held3 (fun w'=>(w'.cell? ⟨w.heap.size,0,none⟩=some (.bool false)∧w'.cell? ⟨w.heap.size,1,none⟩=some (.slice A (zAc B32 n).length c)∧w'.cell? ⟨w.heap.size,2,none⟩=some (.slice A2 (zAc B32 d).length c2))∧(w'.cell? ⟨w.heap.size+1,0,none⟩=some (.bool false)∧w'.cell? ⟨w.heap.size+1,1,none⟩=some (.slice A3 (zAc B32 m).length c3)∧w'.cell? ⟨w.heap.size+1,2,none⟩=some (.slice A4 (zAc B32 e).length c4)))
  ((refine ⟨⟨?_,?_,?_⟩,?_,?_,?_⟩<;>first | with_reducible assumption | go_simp))
  (first
   | ((go_at_call 76;(with_reducible refine (HM1.o _ (Nt.drew ((h.alloc _).alloc _)) (Nt.drew ((h4.alloc _).alloc _))).mono ?_);rintro e1 w1 ⟨A5,c5,rfl,h5,hb⟩;have HX1:=zq (HX.o.drew.below hb);have HY1:=zq (HY.o.drew.below hb);have HB1:=zq ((zAd HB.o 1).trans (hb.mono HB.o.size));have a0:=HX1.o.cell (i:=0) rfl;have a1:=HX1.o.cell (i:=1) rfl;have a2:=HX1.o.cell (i:=2) rfl;have b0:=HY1.o.cell (i:=0) rfl;have b1:=HY1.o.cell (i:=1) rfl;have b2:=HY1.o.cell (i:=2) rfl;have h31:=(Nt.drew ((h3.alloc _).alloc _)).below hb;have h21:=(Nt.drew ((h2.alloc _).alloc _)).below hb;clear hb))
   | ((go_at_call 76;(with_reducible refine (HM2.o _ h31 h21).mono ?_);rintro e2 w2 ⟨A6,c6,rfl,h6,hb6⟩;have h52:=h5.below hb6;have HX2:=zq (HX1.o.below hb6);have HY2:=zq (HY1.o.below hb6);have HB2:=zq (zAa HB1.o hb6);clear a0 a1 a2 b0 b1 b2;have a0:=HX2.o.cell (i:=0) rfl;have a1:=HX2.o.cell (i:=1) rfl;have a2:=HX2.o.cell (i:=2) rfl;have b0:=HY2.o.cell (i:=0) rfl;have b1:=HY2.o.cell (i:=1) rfl;have b2:=HY2.o.cell (i:=2) rfl;clear hb6))
   | ((go_at_call 77;(with_reducible refine (HK.o _ _ _ _ _ h52 h6).mono ?_);rintro e3 w3 ⟨rfl,hb7⟩;have HB3:=zq (zAa HB2.o hb7);have HX3:=zq (HX2.o.below hb7);have HY3:=zq (HY2.o.below hb7);clear a0 a1 a2 b0 b1 b2;have a0:=HX3.o.cell (i:=0) rfl;have a1:=HX3.o.cell (i:=1) rfl;have a2:=HX3.o.cell (i:=2) rfl;have b0:=HY3.o.cell (i:=0) rfl;have b1:=HY3.o.cell (i:=1) rfl;have b2:=HY3.o.cell (i:=2) rfl;clear hb7)))
 go_wp2;go_ret
 exact zAe.mk rfl HB3.o
theorem RAdd_same (A A2 A3 A4:Option Addr) (c c2 c3 c4 n d m e:Nat) (w:World) (h:Nt w A c n) (h2:Nt w A2 c2 d) (h3:Nt w A3 c3 m) (h4:Nt w A4 c4 e)
  (hn:(zAc B32 n).length≤100000000) (hd:(zAc B32 d).length≤100000000) (hm:(zAc B32 m).length≤100000000) (he:(zAc B32 e).length≤100000000) (hd0:0<d) (he0:0<e) (hde:d=e) :
  Calls Tryz.prog 75 #[raV false A c n A2 c2 d,raV false A3 c3 m A4 c4 e] w (zCK false (addP (n,d) (m,e)).1 (addP (n,d) (m,e)).2 w):=by
 subst hde;rw [addP_same n m d hd0];have HC:=zq (fun W (x:Nt W A2 c2 d) (y:Nt W A4 c4 d)=>Cmp_c A2 A4 c2 c4 d d W x y za)
 have HA:=zq (fun W (x:Nt W A c n) (y:Nt W A3 c3 m)=>IAdd_c A A3 c c3 n m W x y za za)
 have HO:=zq (fun A5 c5 W (x:Nt W A5 c5 (n+m)) (y:Nt W A2 c2 d)=>Over_c A5 A2 c5 c2 (n+m) d false W x y hd0 (by have:=len_add n m;omega) za)
 rw [zCM rfl] at HC;simp only [Bool.false_and] at HO;generalize (zBV (n+m) d).1=pp at *;generalize (zBV (n+m) d).2=pq at *;generalize n+m=nm at *;have HX0:Hid (Bx (((w.alloc (.cells (raC A c n A2 c2 d) 89)).alloc (.cells (raC A3 c3 m A4 c4 d) 89)).alloc (.cells zCb 89)) w.heap.size (raC A c n A2 c2 d) 89):=((Bx.new _ _ _).alloc _).alloc _;have HY0:Hid (Bx (((w.alloc (.cells (raC A c n A2 c2 d) 89)).alloc (.cells (raC A3 c3 m A4 c4 d) 89)).alloc (.cells zCb 89)) (w.heap.size+1) (raC A3 c3 m A4 c4 d) 89):=(Bx.new1 _ _ _ _).alloc _;have HZ0:Hid (Bx (((w.alloc (.cells (raC A c n A2 c2 d) 89)).alloc (.cells (raC A3 c3 m A4 c4 d) 89)).alloc (.cells zCb 89)) (w.heap.size+1+1) zCb 89):=Bx.new2 _ _ _ _ _;have HB0:Hid (Below w.heap.size w (((w.alloc (.cells (raC A c n A2 c2 d) 89)).alloc (.cells (raC A3 c3 m A4 c4 d) 89)).alloc (.cells zCb 89))):=(((Below.refl w.heap.size w).alloc (Nat.le_refl _) _).alloc ze _).alloc zg _;obtain ⟨W,hW⟩:∃ W,W=(((w.alloc (.cells (raC A c n A2 c2 d) 89)).alloc (.cells (raC A3 c3 m A4 c4 d) 89)).alloc (.cells zCb 89)):=⟨_,rfl⟩;have g1:Nt W A c n:=yp;have g2:Nt W A2 c2 d:=yk;have g3:Nt W A3 c3 m:=ym;have g4:Nt W A4 c4 d:=yo;rw [←hW] at HX0 HY0 HZ0 HB0;clear hn hd hm he hd0 he0
 go_enter Tryz.func75,Tryz.ntmps75
 go_wp2_with fail
 rw [←hW];clear hW;have x0:=HX0.o.cell (i:=0) rfl;have x1:=HX0.o.cell (i:=1) rfl;have x2:=HX0.o.cell (i:=2) rfl;have y0:=HY0.o.cell (i:=0) rfl;have y1:=HY0.o.cell (i:=1) rfl;have y2:=HY0.o.cell (i:=2) rfl;have z0:=HZ0.o.frozen;have z1:=HZ0.o.lt
 go_wp2_with fail
 with_reducible refine (HC.o _ g2 g4).mono ?_
 rintro e0 w0 ⟨rfl,nd,rfl⟩;clear x0 x1 x2 y0 y1 y2 z0 z1;have HX:=zq (HX0.o.drewN (nd+1));have HY:=zq (HY0.o.drewN (nd+1));have HZ:=zq (HZ0.o.drewN (nd+1));have HB:=zq (zAd HB0.o (nd+1));have x0:=HX.o.cell (i:=0) rfl;have x1:=HX.o.cell (i:=1) rfl;have x2:=HX.o.cell (i:=2) rfl;have y0:=HY.o.cell (i:=0) rfl;have y1:=HY.o.cell (i:=1) rfl;have y2:=HY.o.cell (i:=2) rfl;clear HX0 HY0 HZ0 HB0;go_wp2
 go_region_held3 (fun w'=>(w'.cell? ⟨w.heap.size,0,none⟩=some (.bool false)∧w'.cell? ⟨w.heap.size,1,none⟩=some (.slice A (zAc B32 n).length c)∧w'.cell? ⟨w.heap.size,2,none⟩=some (.slice A2 (zAc B32 d).length c2))∧(w'.cell? ⟨w.heap.size+1,0,none⟩=some (.bool false)∧w'.cell? ⟨w.heap.size+1,1,none⟩=some (.slice A3 (zAc B32 m).length c3)∧w'.cell? ⟨w.heap.size+1,2,none⟩=some (.slice A4 (zAc B32 d).length c4)))
  ((refine ⟨⟨?_,?_,?_⟩,?_,?_,?_⟩<;>first | with_reducible assumption | go_simp))
  (first
   | ((go_at_call 118;(with_reducible refine (HA.o _ (g1.drewN (nd+1)) (g3.drewN (nd+1))).mono ?_);rintro e1 w1 ⟨A5,c5,rfl,h5,hb1⟩;have HX1:=zq (HX.o.below hb1);have HY1:=zq (HY.o.below hb1);have HZ1:=zq (HZ.o.below hb1);have HB1:=zq (HB.o.trans (hb1.mono HB.o.size));have g21:=(g2.drewN (nd+1)).below hb1;have a0:=HX1.o.cell (i:=0) rfl;have a1:=HX1.o.cell (i:=1) rfl;have a2:=HX1.o.cell (i:=2) rfl;have b0:=HY1.o.cell (i:=0) rfl;have b1:=HY1.o.cell (i:=1) rfl;have b2:=HY1.o.cell (i:=2) rfl;clear hb1))
   | ((go_at_call 117;(with_reducible refine (HO.o _ _ _ h5 g21).mono ?_);rintro e2 w2 ⟨A6,c6,A7,c7,rfl,h6,h7,hb2⟩;have HX2:=zq (HX1.o.below hb2);have HY2:=zq (HY1.o.below hb2);have HZ2:=zq (HZ1.o.below hb2);have HB2:=zq (zAa HB1.o hb2);clear a0 a1 a2 b0 b1 b2;have a0:=HX2.o.cell (i:=0) rfl;have a1:=HX2.o.cell (i:=1) rfl;have a2:=HX2.o.cell (i:=2) rfl;have b0:=HY2.o.cell (i:=0) rfl;have b1:=HY2.o.cell (i:=1) rfl;have b2:=HY2.o.cell (i:=2) rfl;have r0:=HZ2.o.cell (i:=0) rfl;have r1:=HZ2.o.cell (i:=1) rfl;have r2:=HZ2.o.cell (i:=2) rfl;have fr:=HZ2.o.frozen;have rl:=HZ2.o.lt;clear hb2)))
 clear HX HY HZ HB;go_wp2;refine bodyPost_ret (v:=raV false A6 c6 pp A7 c7 pq) ql rfl ⟨A6,c6,A7,c7,rfl,h6.setR HZ2.o _ _ _,h7.setR HZ2.o _ _ _,?_⟩
 exact ((HB2.o.setCell zg _).setCell zg _).setCell zg _
theorem RAdd_diff (A A2 A3 A4:Option Addr) (c c2 c3 c4 n d m e:Nat) (w:World) (h:Nt w A c n) (h2:Nt w A2 c2 d) (h3:Nt w A3 c3 m) (h4:Nt w A4 c4 e)
  (hn:(zAc B32 n).length≤100000000) (hd:(zAc B32 d).length≤100000000) (hm:(zAc B32 m).length≤100000000) (he:(zAc B32 e).length≤100000000) (hd0:0<d) (he0:0<e) (hde:d≠e) :
  Calls Tryz.prog 75 #[raV false A c n A2 c2 d,raV false A3 c3 m A4 c4 e] w (zCK false (addP (n,d) (m,e)).1 (addP (n,d) (m,e)).2 w):=by
 have HC:=zq (fun W (x:Nt W A2 c2 d) (y:Nt W A4 c4 e)=>Cmp_c A2 A4 c2 c4 d e W x y za)
 have hk:(zDq d e == 0)=false:=by
  rcases Nat.lt_or_gt_of_ne hde with h | h
  ·rw [zBF h];rfl
  ·rw [zBB h];rfl
 have l1:=zDi n e;have l2:=zDi m d;have l3:=zDi d e;have l4:=len_add (n*e) (m*d);have HM1:=zq (fun W (x:Nt W A c n) (y:Nt W A4 c4 e)=>IMul_c A A4 c c4 n e W x y za za)
 have HM2:=zq (fun W (x:Nt W A3 c3 m) (y:Nt W A2 c2 d)=>IMul_c A3 A2 c3 c2 m d W x y za za)
 have HM3:=zq (fun W (x:Nt W A2 c2 d) (y:Nt W A4 c4 e)=>Mul_c A2 A4 c2 c4 d e W x y za za)
 have HA:=zq (fun A5 c5 A6 c6 W (x:Nt W A5 c5 (n*e)) (y:Nt W A6 c6 (m*d))=>IAdd_c A5 A6 c5 c6 (n*e) (m*d) W x y za za)
 have HO:=zq (fun A5 c5 A6 c6 W (x:Nt W A5 c5 (n*e+m*d)) (y:Nt W A6 c6 (d*e))=>Over_c A5 A6 c5 c6 (n*e+m*d) (d*e) false W x y (Nat.mul_pos hd0 he0) za za)
 simp only [Bool.false_and] at HO;have hap:addP (n,d) (m,e)=zBV (n*e+m*d) (d*e):=rfl;rw [hap];clear hap l1 l2 l3 l4;generalize (zBV (n*e+m*d) (d*e)).1=pp at *;generalize (zBV (n*e+m*d) (d*e)).2=pq at *;generalize n*e=p1 at *;generalize m*d=p2 at *;generalize d*e=p3 at *;generalize p1+p2=p4 at *;generalize zDq d e=cz at *;have HX0:Hid (Bx (((w.alloc (.cells (raC A c n A2 c2 d) 89)).alloc (.cells (raC A3 c3 m A4 c4 e) 89)).alloc (.cells zCb 89)) w.heap.size (raC A c n A2 c2 d) 89):=((Bx.new _ _ _).alloc _).alloc _;have HY0:Hid (Bx (((w.alloc (.cells (raC A c n A2 c2 d) 89)).alloc (.cells (raC A3 c3 m A4 c4 e) 89)).alloc (.cells zCb 89)) (w.heap.size+1) (raC A3 c3 m A4 c4 e) 89):=(Bx.new1 _ _ _ _).alloc _;have HZ0:Hid (Bx (((w.alloc (.cells (raC A c n A2 c2 d) 89)).alloc (.cells (raC A3 c3 m A4 c4 e) 89)).alloc (.cells zCb 89)) (w.heap.size+1+1) zCb 89):=Bx.new2 _ _ _ _ _;have HB0:Hid (Below w.heap.size w (((w.alloc (.cells (raC A c n A2 c2 d) 89)).alloc (.cells (raC A3 c3 m A4 c4 e) 89)).alloc (.cells zCb 89))):=(((Below.refl w.heap.size w).alloc (Nat.le_refl _) _).alloc ze _).alloc zg _;obtain ⟨W,hW⟩:∃ W,W=(((w.alloc (.cells (raC A c n A2 c2 d) 89)).alloc (.cells (raC A3 c3 m A4 c4 e) 89)).alloc (.cells zCb 89)):=⟨_,rfl⟩;have g1:Nt W A c n:=yp;have g2:Nt W A2 c2 d:=yk;have g3:Nt W A3 c3 m:=ym;have g4:Nt W A4 c4 e:=yo;rw [←hW] at HX0 HY0 HZ0 HB0;clear hn hd hm he hd0 he0 hde
 go_enter Tryz.func75,Tryz.ntmps75
 go_wp2_with fail
 rw [←hW];clear hW;have x0:=HX0.o.cell (i:=0) rfl;have x1:=HX0.o.cell (i:=1) rfl;have x2:=HX0.o.cell (i:=2) rfl;have y0:=HY0.o.cell (i:=0) rfl;have y1:=HY0.o.cell (i:=1) rfl;have y2:=HY0.o.cell (i:=2) rfl;have z0:=HZ0.o.frozen;have z1:=HZ0.o.lt
 go_wp2_with fail
 with_reducible refine (HC.o _ g2 g4).mono ?_
 rintro e0 w0 ⟨rfl,nd,rfl⟩;clear x0 x1 x2 y0 y1 y2 z0 z1;have HX:=zq (HX0.o.drewN (nd+1));have HY:=zq (HY0.o.drewN (nd+1));have HZ:=zq (HZ0.o.drewN (nd+1));have HB:=zq (zAd HB0.o (nd+1));have x0:=HX.o.cell (i:=0) rfl;have x1:=HX.o.cell (i:=1) rfl;have x2:=HX.o.cell (i:=2) rfl;have y0:=HY.o.cell (i:=0) rfl;have y1:=HY.o.cell (i:=1) rfl;have y2:=HY.o.cell (i:=2) rfl;clear HX0 HY0 HZ0 HB0;go_wp2
 go_region_held3 (fun w'=>(w'.cell? ⟨w.heap.size,0,none⟩=some (.bool false)∧w'.cell? ⟨w.heap.size,1,none⟩=some (.slice A (zAc B32 n).length c)∧w'.cell? ⟨w.heap.size,2,none⟩=some (.slice A2 (zAc B32 d).length c2))∧(w'.cell? ⟨w.heap.size+1,0,none⟩=some (.bool false)∧w'.cell? ⟨w.heap.size+1,1,none⟩=some (.slice A3 (zAc B32 m).length c3)∧w'.cell? ⟨w.heap.size+1,2,none⟩=some (.slice A4 (zAc B32 e).length c4)))
  ((refine ⟨⟨?_,?_,?_⟩,?_,?_,?_⟩<;>first | with_reducible assumption | go_simp))
  (first
   | ((go_at_call 76;(with_reducible refine (HM1.o _ (g1.drewN (nd+1)) (g4.drewN (nd+1))).mono ?_);rintro e1 w1 ⟨A5,c5,rfl,h5,hb1⟩;have HX1:=zq (HX.o.below hb1);have HY1:=zq (HY.o.below hb1);have HZ1:=zq (HZ.o.below hb1);have HB1:=zq (HB.o.trans (hb1.mono HB.o.size));have g21:=(g2.drewN (nd+1)).below hb1;have g31:=(g3.drewN (nd+1)).below hb1;have g41:=(g4.drewN (nd+1)).below hb1;have a0:=HX1.o.cell (i:=0) rfl;have a1:=HX1.o.cell (i:=1) rfl;have a2:=HX1.o.cell (i:=2) rfl;have b0:=HY1.o.cell (i:=0) rfl;have b1:=HY1.o.cell (i:=1) rfl;have b2:=HY1.o.cell (i:=2) rfl;clear hb1))
   | ((go_at_call 76;(with_reducible refine (HM2.o _ g31 g21).mono ?_);rintro e2 w2 ⟨A6,c6,rfl,h6,hb2⟩;have HX2:=zq (HX1.o.below hb2);have HY2:=zq (HY1.o.below hb2);have HZ2:=zq (HZ1.o.below hb2);have HB2:=zq (zAa HB1.o hb2);have h52:=h5.below hb2;have g22:=g21.below hb2;have g42:=g41.below hb2;clear a0 a1 a2 b0 b1 b2;have a0:=HX2.o.cell (i:=0) rfl;have a1:=HX2.o.cell (i:=1) rfl;have a2:=HX2.o.cell (i:=2) rfl;have b0:=HY2.o.cell (i:=0) rfl;have b1:=HY2.o.cell (i:=1) rfl;have b2:=HY2.o.cell (i:=2) rfl;clear hb2))
   | ((go_at_call 118;(with_reducible refine (HA.o _ _ _ _ _ h52 h6).mono ?_);rintro e3 w3 ⟨A7,c7,rfl,h7,hb3⟩;have HX3:=zq (HX2.o.below hb3);have HY3:=zq (HY2.o.below hb3);have HZ3:=zq (HZ2.o.below hb3);have HB3:=zq (zAa HB2.o hb3);have g23:=g22.below hb3;have g43:=g42.below hb3;clear a0 a1 a2 b0 b1 b2;have a0:=HX3.o.cell (i:=0) rfl;have a1:=HX3.o.cell (i:=1) rfl;have a2:=HX3.o.cell (i:=2) rfl;have b0:=HY3.o.cell (i:=0) rfl;have b1:=HY3.o.cell (i:=1) rfl;have b2:=HY3.o.cell (i:=2) rfl;clear hb3))
   | ((go_at_call 119;(with_reducible refine (HM3.o _ g23 g43).mono ?_);rintro e4 w4 ⟨A8,c8,rfl,h8,hb4⟩;have HX4:=zq (HX3.o.below hb4);have HY4:=zq (HY3.o.below hb4);have HZ4:=zq (HZ3.o.below hb4);have HB4:=zq (zAa HB3.o hb4);have h74:=h7.below hb4;clear a0 a1 a2 b0 b1 b2;have a0:=HX4.o.cell (i:=0) rfl;have a1:=HX4.o.cell (i:=1) rfl;have a2:=HX4.o.cell (i:=2) rfl;have b0:=HY4.o.cell (i:=0) rfl;have b1:=HY4.o.cell (i:=1) rfl;have b2:=HY4.o.cell (i:=2) rfl;clear hb4))
   | ((go_at_call 117;(with_reducible refine (HO.o _ _ _ _ _ h74 h8).mono ?_);rintro e5 w5 ⟨A9,c9,AD,cE,rfl,h9,hF,hb5⟩;have HX5:=zq (HX4.o.below hb5);have HY5:=zq (HY4.o.below hb5);have HZ5:=zq (HZ4.o.below hb5);have HB5:=zq (zAa HB4.o hb5);clear a0 a1 a2 b0 b1 b2;have a0:=HX5.o.cell (i:=0) rfl;have a1:=HX5.o.cell (i:=1) rfl;have a2:=HX5.o.cell (i:=2) rfl;have b0:=HY5.o.cell (i:=0) rfl;have b1:=HY5.o.cell (i:=1) rfl;have b2:=HY5.o.cell (i:=2) rfl;have r0:=HZ5.o.cell (i:=0) rfl;have r1:=HZ5.o.cell (i:=1) rfl;have r2:=HZ5.o.cell (i:=2) rfl;have fr:=HZ5.o.frozen;have rl:=HZ5.o.lt;clear hb5)))
 clear HX HY HZ HB;go_wp2;refine bodyPost_ret (v:=raV false A9 c9 pp AD cE pq) ql rfl ⟨A9,c9,AD,cE,rfl,h9.setR HZ5.o _ _ _,hF.setR HZ5.o _ _ _,?_⟩
 exact ((HB5.o.setCell zg _).setCell zg _).setCell zg _
theorem RAdd_c (A A2 A3 A4:Option Addr) (c c2 c3 c4 n d m e:Nat) (w:World) (h:Nt w A c n) (h2:Nt w A2 c2 d) (h3:Nt w A3 c3 m) (h4:Nt w A4 c4 e)
  (hn:(zAc B32 n).length≤100000000) (hd:(zAc B32 d).length≤100000000) (hm:(zAc B32 m).length≤100000000) (he:(zAc B32 e).length≤100000000) (hd0:0<d) (he0:0<e) :
  Calls Tryz.prog 75 #[raV false A c n A2 c2 d,raV false A3 c3 m A4 c4 e] w (zCK false (addP (n,d) (m,e)).1 (addP (n,d) (m,e)).2 w):=by
 by_cases hde:d=e
 ·exact RAdd_same A A2 A3 A4 c c2 c3 c4 n d m e w h h2 h3 h4 hn hd hm he hd0 he0 hde
 ·exact RAdd_diff A A2 A3 A4 c c2 c3 c4 n d m e w h h2 h3 h4 hn hd hm he hd0 he0 hde
theorem zDw:(⟨#[48]⟩:ByteArray).toList=[48]:=by rw [Dw.toList_eq]
theorem zAQ {s:ByteArray} (h:zCP s=true):s.data.toList.all dgB=true∧1≤s.size:=by
 unfold zCP at h;simp only [Bool.and_eq_true,Bool.or_eq_true,decide_eq_true_eq] at h;refine ⟨h.1,?_⟩
 rcases h.2 with h2 | h2<;>omega
def DigRel (w:World) (s:ByteArray) (m:Nat) (iv:Value) (wr:World):Prop :=
 wr=w∧∃ k:Nat,k+m=s.size∧iv = .int .i64 k∧(s.data.toList.take k).all dgB=true
theorem all_take_succ {s:ByteArray} {k:Nat} (hk:k<s.size) (h:(s.data.toList.take k).all dgB=true) (h2:dgB s[k]=true):(s.data.toList.take (k+1)).all dgB=true:=by
 rw [List.take_succ_eq_append_getElem (by simpa using hk),List.all_append,h,zDb s k hk]
 simp [h2]
theorem not_all {s:ByteArray} {k:Nat} (hk:k<s.size) (h2:dgB s[k]=false):s.data.toList.all dgB=false:=by
 rw [List.all_eq_false];exact ⟨s[k],by rw [←zDb s k hk];exact List.getElem_mem _,by simp [h2]⟩
theorem digits_c (s:ByteArray) (w:World) (hs:s.size≤9223372036854775807):Calls Tryz.prog 252 #[.string s] w (zAz (.bool (zCP s)) w):=by
 go_enter Tryz.func252,Tryz.ntmps252
 go_wp2
 go_loopg [6] s.size (DigRel w s)
 case atStart=>exact ⟨rfl,0,za,rfl,rfl⟩
 case round =>
  obtain ⟨hw,k,hkm,rfl,hall⟩:=hrel;subst hw;have HM:=zq hkm;have HA:=zq hall;clear hkm hall
  by_cases hlt:k<s.size
  ·by_cases h1:s[k].toNat<48
   ·have HD:=zq (not_all hlt (show dgB s[k]=false by unfold dgB;simp;omega))
    go_wp2;go_ret
    refine zAz.mk (zAp ?_) rfl
    unfold zCP;rw [HD.o];rfl
   ·by_cases h2:57<s[k].toNat
    ·have HD:=zq (not_all hlt (show dgB s[k]=false by unfold dgB;simp;omega))
     have h1b:(48:Int)≤(s[k].toNat:Int):=za;go_wp2;go_ret
     refine zAz.mk (zAp ?_) rfl
     unfold zCP;rw [HD.o];rfl
    ·have HD:=zq (all_take_succ hlt HA.o (show dgB s[k]=true by unfold dgB;simp;omega))
     have h1b:(48:Int)≤(s[k].toNat:Int):=za;have h2b:(s[k].toNat:Int)≤57:=za;go_wp2
     go_roundg (gk - 1)
     case measure=>have:=HM.o;omega
     case rel=>exact ⟨rfl,k+1,yc,zi,HD.o⟩
  ·obtain rfl:k=s.size:=by have:=HM.o;omega
   have HALL:Hid (s.data.toList.all dgB=true):=by
    show _=_
    have:=HA.o
    rwa [List.take_of_length_le ze] at this
   have hr:zCP s=(decide (s.size=1) || decide (1<s.size)&&decide ((s.data.toList.headD 0).toNat≠48)):=by
    unfold zCP;rw [HALL.o];rfl
   rcases Nat.eq_zero_or_pos s.size with h0 | h0
   ·have he:s=emp:=by
     apply Dw.toList_inj
     rw [Dw.toList_eq,Dw.toList_eq,List.eq_nil_of_length_eq_zero (l:=s.data.toList) (by simpa using h0)]
     rfl
    have hv:zCP s=false:=by rw [hr,h0];rfl
    rw [hv];have q1:=zAs he;have q2:(s.toList == [48])=false:=by rw [←zDw];exact zAr (by rw [he];decide)
    have HV:=zq hv;clear hr hv he;go_wp2;go_ret
    exact zAz.mk (zAp HV.o.symm) rfl
   ·have hne:s≠emp:=fun e=>by rw [e] at h0;exact absurd h0 zd
    have q1:=zAm hne
    by_cases hz:s=zCC
    ·have hv:zCP s=true:=by rw [hz];decide +kernel
     rw [hv];have q2:(s.toList == [48])=true:=by rw [←zDw];exact zAB hz
     have HV:=zq hv;clear hr hv hz hne;go_wp2;go_ret
     exact zAz.mk (zAp HV.o.symm) rfl
    ·have q2:(s.toList == [48])=false:=by rw [←zDw];exact zAr hz
     have hd0:s.data.toList.headD 0=s[0]:=zDu s h0
     by_cases hh:s[0].toNat=48
     ·have h1:s.size≠1:=fun e=>hz (by
       apply Dw.toList_inj
       rw [Dw.toList_eq,Dw.toList_eq]
       apply List.ext_getElem
       ·simp [zCC,e]
       ·intro i hi1 hi2
        obtain rfl:i=0:=by simp [e] at hi1;omega
        rw [zDb s 0 h0];have:s[0]=48:=UInt8.toNat_inj.1 (by simpa using hh)
        rw [this];rfl)
      have hv:zCP s=false:=by rw [hr,hd0,hh];simp [h1]
      have q3:((s[0].toNat:Int) != 48)=false:=by simp [hh]
      rw [hv];have HV:=zq hv;clear hr hv hz hne hh hd0 h1;go_wp2;go_ret
      exact zAz.mk (zAp HV.o.symm) rfl
     ·have hv:zCP s=true:=by
       rw [hr,hd0]
       rcases Nat.lt_or_ge 1 s.size with h | h
       ·simp [h,hh]
       ·have:s.size=1:=by omega
        simp [this]
      have q3:((s[0].toNat:Int) != 48)=true:=zg;rw [hv];have HV:=zq hv;clear hr hv hz hne hh hd0;go_wp2;go_ret
      exact zAz.mk (zAp HV.o.symm) rfl
theorem len_val {s:ByteArray} (h:s.data.toList.all dgB=true) (hs:s.size≤2000):(zAc B32 (zAy s)).length≤2000:=by
 have h1:=decV_dg h;have h2:10 ^ s.data.toList.length≤B32 ^ s.data.toList.length:=Nat.pow_le_pow_left zd _;have h3:=zBg zAt (Nat.lt_of_lt_of_le h1 h2);have h4:s.data.toList.length=s.size:=ze;unfold zAy;omega
theorem den_pos {s:ByteArray} (h:zCP s=true) (hz:s≠zCC):0<zAy s:=by
 obtain ⟨h1,h2⟩:=zAQ h;unfold zCP at h;rw [h1] at h;simp only [Bool.true_and,Bool.or_eq_true,decide_eq_true_eq,Bool.and_eq_true] at h;have hd0:s.data.toList.headD 0=s[0]:=zDu s za
 have hne:s[0].toNat≠48:=by
  rcases h with h | ⟨_,h⟩
  ·intro e
   apply hz
   apply Dw.toList_inj
   rw [Dw.toList_eq,Dw.toList_eq]
   apply List.ext_getElem
   ·simp [zCC,h]
   ·intro i hi1 hi2
    obtain rfl:i=0:=by simp [h] at hi1;omega
    rw [zDb s 0 za];have:s[0]=48:=UInt8.toNat_inj.1 (by simpa using e)
    rw [this];rfl
  ·rwa [hd0] at h
 have hdg:=dgB_of (List.all_eq_true.1 h1 s[0] (by rw [←zDb s 0 za];exact List.getElem_mem _))
 unfold zAy;rw [decV_cut s.data.toList 1]
 have e1:s.data.toList.take 1=[s[0]]:=by
  rw [List.take_succ_eq_append_getElem zg,zDb s 0 za];rfl
 have e2:zBI [s[0]]=s[0].toNat - 48:=by simp [zBI]
 rw [e1,e2];have h3:1*10 ^ (s.data.toList.length - 1)≤(s[0].toNat - 48)*10 ^ (s.data.toList.length - 1):=Nat.mul_le_mul_right _ za;have h4:0<10 ^ (s.data.toList.length - 1):=Nat.pow_pos za;omega
theorem CheckRatio_c (nu de:ByteArray) (w:World) (hs:(zAX nu).size≤9223372036854775807) (hs2:de.size≤9223372036854775807) :
  Calls Tryz.prog 208 #[.agg #[.string nu,.string de]] w (zAe (.int .i64 (zDm nu de)) w):=by
 generalize hres:zDm nu de=res;have HR:=zq hres;clear hres;unfold zDm at HR;have HB0:Hid (Below w.heap.size w (w.alloc (.cells #[.string nu,.string de] 40))):=(Below.refl w.heap.size w).alloc (Nat.le_refl _) _;have HC:=zq (fun W=>cut_c nu W)
 have HD1:=zq (fun W=>digits_c (zAX nu) W hs)
 have HD2:=zq (fun W=>digits_c de W hs2)
 have HF:=zq (fun (h1:zCP (zAX nu)=true) (h2:zCP de=true) (h3:(zAX nu).size≤2000) (h4:de.size≤2000) W=>From_c nu de W (zAQ h1).1 h3 (zAQ h2).1 h4)
 have HL:=zq (fun (h1:zCP (zAX nu)=true) (h2:zCP de=true) (hz:de≠zCC) (h3:(zAX nu).size≤2000) (h4:de.size≤2000) A c A2 c2 W (x:Nt W A c (zAy (zAX nu))) (y:Nt W A2 c2 (zAy de)) =>
  Lowest_c (sgB nu) A A2 c c2 (zAy (zAX nu)) (zAy de) W x y (den_pos h2 hz) (Nat.le_trans (len_val (zAQ h1).1 h3) za) (Nat.le_trans (len_val (zAQ h2).1 h4) za))
 go_enter Tryz.func208,Tryz.ntmps208
 go_wp2_with fail
 with_reducible refine (HC.o _).mono ?_
 rintro e w1 ⟨rfl,rfl⟩
 go_wp2_with fail
 with_reducible refine (HD1.o _).mono ?_
 rintro e w1 ⟨rfl,rfl⟩
 cases h1:zCP (zAX nu) with
 | false =>
  have HS:Hid (res=3):=by show _=_;rw [←HR.o,if_pos (.inl h1)]
  clear h1;go_wp2;go_ret
  exact zAe.mk (zAw HS.o.symm) HB0.o
 | true =>
  by_cases h2:zDp nu=true∧zAX nu=zCC
  ·have HS:Hid (res=3):=by show _=_;rw [←HR.o,if_pos (.inr (.inl h2))]
   have q1:=h2.1;have q2:((zAX nu).toList == [48])=true:=by rw [←zDw];exact zAB h2.2
   rw [q1];clear h1 h2 q1;go_wp2;go_ret
   exact zAe.mk (zAw HS.o.symm) HB0.o
  ·have HQ:Hid (zDp nu=false∨((zAX nu).toList == [48])=false):=by
    show _∨_
    by_cases h3:zDp nu=true
    ·exact .inr (by rw [←zDw];exact zAr fun e=>h2 ⟨h3,e⟩)
    ·exact .inl (by simpa using h3)
   have hr1:=HR.o
   have HR1:Hid ((if zCP de=false∨de=zCC then 3 else if 2000<(zAX nu).size∨2000<de.size then 2 else if Nat.gcd (zAy (zAX nu)) (zAy de)=1 then 0 else 3)=res):=by
    show _=_
    rw [←hr1]
    by_cases h4:zCP de=false∨de=zCC
    ·rw [if_pos h4,if_pos (.inr (.inr h4))]
    ·have hno:¬(zCP (zAX nu)=false∨(zDp nu=true∧zAX nu=zCC)∨zCP de=false∨de=zCC):=by
      rintro (h | h | h)
      ·rw [h1] at h;cases h
      ·exact h2 h
      ·exact h4 h
     rw [if_neg h4,if_neg hno]
   have H1:=zq h1;clear hr1 HR h2 h1 HD1 HC
   rcases HQ.o with q | q
   case' inr=>cases hng:zDp nu
   case' inl=>rw [q]
   all_goals
    clear HQ
    go_wp2_with fail
    with_reducible refine (HD2.o _).mono ?_
    rintro e w1 ⟨rfl,rfl⟩
    cases h3:zCP de with
    | false =>
     have HS:Hid (res=3):=by show _=_;rw [←HR1.o,if_pos (.inl h3)]
     clear h3;go_wp2;go_ret
     exact zAe.mk (zAw HS.o.symm) HB0.o
    | true =>
     by_cases h4:de=zCC
     ·have HS:Hid (res=3):=by show _=_;rw [←HR1.o,if_pos (.inr h4)]
      have q2:(de.toList == [48])=true:=by rw [←zDw];exact zAB h4
      clear h3 h4;go_wp2;go_ret
      exact zAe.mk (zAw HS.o.symm) HB0.o
     ·have q2:(de.toList == [48])=false:=by rw [←zDw];exact zAr h4
      have HR2:Hid ((if 2000<(zAX nu).size∨2000<de.size then 2 else if Nat.gcd (zAy (zAX nu)) (zAy de)=1 then 0 else 3)=res):=by
       show _=_
       have hno:¬(zCP de=false∨de=zCC):=by
        rintro (h | h)
        ·rw [h3] at h;cases h
        ·exact h4 h
       rw [←HR1.o,if_neg hno]
      by_cases h5:2000<(zAX nu).size
      ·have HS:Hid (res=2):=by show _=_;rw [←HR2.o,if_pos (.inl h5)]
       clear h3 h4;go_wp2;go_ret
       exact zAe.mk (zAw HS.o.symm) HB0.o
      ·by_cases h6:2000<de.size
       ·have HS:Hid (res=2):=by show _=_;rw [←HR2.o,if_pos (.inr h6)]
        clear h3 h4;go_wp2;go_ret
        exact zAe.mk (zAw HS.o.symm) HB0.o
       ·have HR3:Hid ((if Nat.gcd (zAy (zAX nu)) (zAy de)=1 then (0:Int) else 3)=res):=by
         show _=_
         rw [←HR2.o,if_neg (show ¬(2000<(zAX nu).size∨2000<de.size) by omega)]
        have HF2:=zq (HF.o H1.o h3 za za);have HL2:=zq (HL.o H1.o h3 h4 za za);clear h3 h4
        go_wp2_with fail
        with_reducible refine (HF2.o _).mono ?_
        rintro e w2 ⟨A5,c5,A6,c6,rfl,h7,h8,hb2⟩;have HB2:=zq (HB0.o.trans (hb2.mono HB0.o.size));clear hb2
        go_wp2_with fail
        with_reducible refine (HL2.o A5 c5 A6 c6 _ h7 h8).mono ?_
        rintro e w3 ⟨rfl,hb3⟩;have HB3:=zq (zAa HB2.o hb3);clear hb3 HF HL HF2 HL2 HB2
        by_cases h9:Nat.gcd (zAy (zAX nu)) (zAy de)=1
        ·have HS:Hid (res=0):=by show _=_;rw [←HR3.o,if_pos h9]
         have hlb:lowB (zAy (zAX nu)) (zAy de)=true:=by unfold lowB;exact decide_eq_true h9
         rw [hlb];clear h9 hlb;go_wp2;go_ret
         exact zAe.mk (zAw HS.o.symm) HB3.o
        ·have HS:Hid (res=3):=by show _=_;rw [←HR3.o,if_neg h9]
         have hlb:lowB (zAy (zAX nu)) (zAy de)=false:=by unfold lowB;exact decide_eq_false h9
         rw [hlb];clear h9 hlb;go_wp2;go_ret
         exact zAe.mk (zAw HS.o.symm) HB3.o
def posS (l:List ByteArray) (s:ByteArray):Int:=match l.findIdx? fun x=>decide (x=s) with
 | some i=>i
 | none=>-1
theorem posS_mem (l:List ByteArray) (s:ByteArray):decide ((0:Int)≤posS l s)=memS l s:=by
 unfold posS memS
 cases h:l.findIdx? fun x=>decide (x=s) with
 | none =>
  have:(l.any fun x=>decide (x=s))=false:=by
   rw [List.any_eq_false];intro x hx;have:=List.findIdx?_eq_none_iff.1 h x hx
   simpa using this
  rw [this];rfl
 | some i =>
  obtain ⟨hi,hp,_⟩:=List.findIdx?_eq_some_iff_getElem.1 h;have:(l.any fun x=>decide (x=s))=true:=List.any_eq_true.2 ⟨l[i],List.getElem_mem hi,hp⟩
  rw [this];simp
def PosIRel (w:World) (l:List ByteArray) (s:ByteArray) (m:Nat) (i:Value) (wr:World):Prop :=
 w=wr∧∃ k:Nat,k+m=l.length∧i = .int .i64 k∧∀ j (h:j<l.length),j<k→l[j]≠s
theorem indexS_c (A:Option Addr) (c:Nat) (l:List ByteArray) (s:ByteArray) (w:World) (hn:l.length≤1000000) (h:Strs w A l) :
  Calls Tryz.prog 51 #[.slice A l.length c,.string s] w (zAz (.int .i64 (posS l s)) w):=by
 generalize hres:posS l s=res;have HR:=zq hres;clear hres
 go_enter Tryz.func51,Tryz.ntmps51
 go_wp2
 go_loopg [8] l.length (PosIRel w l s)
 case atStart=>exact ⟨rfl,0,za,rfl,fun j _ hj=>absurd hj za⟩
 case round =>
  obtain ⟨hw,k,hk,rfl,hpre⟩:=hrel;subst hw;have HK:=zq hk;have HP:=zq hpre;have hk1:k≤l.length:=za;clear hk hpre
  by_cases hlt:k<l.length
  ·obtain ⟨b,o,rfl,hb,hc⟩:=h.at_ za
   have hc0:=hc k hlt;clear hc
   by_cases hq:s=l[k]
   ·have hqb:=zAB hq
    have HQ:=zq hq;clear hq;go_wp2;go_ret
    refine zAz.mk (zAw ?_) rfl
    rw [←HR.o];unfold posS;rw [List.findIdx?_eq_some_iff_getElem.2 ⟨hlt,by simp [HQ.o],fun j hj=>by simpa using HP.o j za hj⟩]
   ·have hqb:=zAr hq
    have HQ:=zq hq;clear hq;go_wp2
    go_roundg (gk - 1)
    case measure=>have:=HK.o;omega
    case rel =>
     refine ⟨rfl,k+1,zh,zi,fun j hj hjk=>?_⟩
     rcases Nat.lt_or_ge j k with h1 | h1
     ·exact HP.o j hj h1
     ·obtain rfl:j=k:=by omega
      exact fun e=>HQ.o e.symm
  ·go_wp2
   go_ret
   refine zAz.mk (zAw ?_) rfl
   rw [←HR.o];unfold posS
   rw [List.findIdx?_eq_none_iff.2 fun x hx=>by
    obtain ⟨j,hj,rfl⟩:=List.getElem_of_mem hx
    simpa using HP.o j hj za]
theorem containsS_c (A:Option Addr) (c:Nat) (l:List ByteArray) (s:ByteArray) (w:World) (hn:l.length≤1000000) (h:Strs w A l) :
  Calls Tryz.prog 21 #[.slice A l.length c,.string s] w (zAz (.bool (memS l s)) w):=by
 have hm:=posS_mem l s;generalize memS l s=res at *;have HM:=zq hm;clear hm
 go_enter Tryz.func21,Tryz.ntmps21
 go_wp2_with (go_at_call 51;refine (indexS_c _ _ _ _ _ hn h).mono ?_;rintro e w' ⟨rfl,rfl⟩)
 go_ret
 exact zAz.mk (zAp HM.o) rfl
end Go.Proofs.YtieoifkdobcpiaaGreatDoor
