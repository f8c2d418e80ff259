/- Parts of the proof, joined: Package num: Of, Whole, Parse, From, Lowest, Cmp, Add of quotients. Pa. -/
import Derived.Test.YtieoifkdobcpiaaGreatDoorSm04
set_option maxRecDepth 100000
set_option maxHeartbeats 8000000
namespace Go.Proofs.YtieoifkdobcpiaaGreatDoor
open Go.RowKit Dw
theorem Of_c (n:Nat) (w:World) (h:n≤1000000000):Calls Tryz.prog 78 #[.int .i64 (n:Int)] w (GivesI false n w):=by
 go_enter Tryz.func78,Tryz.ntmps78
 go_wp2_with fail
 with_reducible refine (natOf_c n _ za).mono ?_
 rintro e w1 ⟨A5,c5,rfl,h5,hb⟩;obtain ⟨hc,hf⟩:=bcellK hb;have hz:w.heap.size<w1.heap.size:=jh;have k0:w1.cell? ⟨w.heap.size,0,none⟩=some (.bool false):=zo;have k1:w1.cell? ⟨w.heap.size,1,none⟩=some (.slice none 0 0):=zo;have HB:Hid (Below w.heap.size w w1):=((aS w.heap.size w).alloc (aB _) _).trans (hb.mono ze);go_wp2;refine dY (v:=inV false A5 c5 n) (by simp [results,Tryz.results78,go_sem,hc]) rfl ⟨A5,c5,rfl,?_,?_⟩
 ·exact h5.set2 k0 k1 (nb_ _) (ns_ _ _ _) _ _
 ·exact (HB.o.setCell ze _).setCell ze _
theorem Whole_c (n:Nat) (w:World) (h:n≤1000000000):Calls Tryz.prog 34 #[.int .i64 (n:Int)] w (zCB false n 1 w):=by
 go_enter Tryz.func34,Tryz.ntmps34
 go_wp2_with fail
 with_reducible refine (Of_c n _ h).mono ?_
 rintro e w1 ⟨A5,c5,rfl,h5,hb⟩
 go_wp2_with fail
 with_reducible refine (One_c _).mono ?_
 rintro e w2 ⟨A6,c6,rfl,h6,hb6⟩;have h56:=h5.below hb6;have hb7:=zAa hb hb6;obtain ⟨hc,hf⟩:=bcellK hb7;have hz:w.heap.size<w2.heap.size:=by have:=hb7.size;simp at this;omega
 have k0:w2.cell? ⟨w.heap.size,0,none⟩=some (.bool false):=zo;have k1:w2.cell? ⟨w.heap.size,1,none⟩=some (.slice none 0 0):=zo;have k2:w2.cell? ⟨w.heap.size,2,none⟩=some (.slice none 0 0):=zo;have HB:Hid (Below w.heap.size w w2):=((aS w.heap.size w).alloc (aB _) _).trans (hb7.mono ze);go_wp2;refine dY (v:=raV false A5 c5 n A6 c6 1) (by simp [results,Tryz.results34,go_sem,hc]) rfl ⟨A5,c5,A6,c6,rfl,?_,?_,?_⟩
 ·exact h56.set3 k0 k1 k2 (nb_ _) (ns_ _ _ _) (ns_ _ _ _) _ _ _
 ·exact h6.set3 k0 k1 k2 (nb_ _) (ns_ _ _ _) (ns_ _ _ _) _ _ _
 ·exact ((HB.o.setCell ze _).setCell ze _).setCell ze _
theorem byte45 (c:UInt8):(45 == c)=decide (c.toNat=45):=by
 have h:∀ n:Nat,n<256→((45:UInt8) == UInt8.ofNat n)=decide ((UInt8.ofNat n).toNat=45):=qi;have:=h c.toNat c.toNat_lt
 simpa using this
theorem cut_c (s:BA) (w:World):Calls Tryz.prog 163 #[.string s,.string ⟨#[45]⟩] w (zAB (.tuple #[.string (zAY s),.bool (zDu s)]) w):=by
 have h:=Any.strings_CutPrefix Tryz.lays103 s ⟨#[45]⟩ w
 change Calls Tryz.prog 163 _ _ _ at h
 have e1:Lib.hasPrefix s.data.toList [45]=zDu s:=by
  unfold Lib.hasPrefix zDu;rw [Lib.size_eq]
  cases s.data.toList with
  | nil=>rfl
  | cons a l =>
   have:(45 == a)=decide (a.toNat=45):=byte45 a;simp [List.isPrefixOf,this]
 have e2:(⟨(Lib.trimPrefix s.data.toList [45]).toArray⟩:BA)=zAY s:=by
  unfold Lib.trimPrefix zAY absL;rw [e1]
  cases zDu s<;>simp
 refine h.mono fun _ _ ⟨he,hw⟩=>⟨?_,hw.symm⟩
 rw [he]
 show Ending.returned (.tuple #[.string ⟨(Lib.trimPrefix s.data.toList [45]).toArray⟩,.bool (Lib.hasPrefix s.data.toList [45])])=_
 rw [e1,e2]
def Bx (w:World) (g:Nat) (cs:Array Value) (T:TypeId):Prop:=w.heap[g]?=some (.cells cs T (0,0))
section
variable {w w':World} {g:Nat} {cs:Array Value} {T:TypeId}
theorem Bx.lt (h:Bx w g cs T):g<w.heap.size:=(Array.getElem?_eq_some_iff.1 h).1
theorem Bx.cell (h:Bx w g cs T) {i:Nat} {v:Value} (hi:cs[i]?=some v):w.cell? ⟨g,i,none⟩=some v:=by
 rw [aR w g i _ _ _ h];exact hi
theorem Bx.c (h:Bx w g cs T) (i:Nat) {v:Value} (hi:cs[i]?=some v):w.cell? ⟨g,i,none⟩=some v:=h.cell hi
theorem Bx.t {w:World} {g:Nat} {T:TypeId} {a b c:Value} (h:Bx w g #[a,b,c] T):w.cell? ⟨g,0,none⟩=some a∧w.cell? ⟨g,1,none⟩=some b∧w.cell? ⟨g,2,none⟩=some c:=⟨h.c 0 rfl,h.c 1 rfl,h.c 2 rfl⟩
theorem Bx.frozen (h:Bx w g cs T) (i:Nat):w.frozen? ⟨g,i,none⟩=false:=cO w g i _ _ h
theorem Bx.below (h:Bx w g cs T) (hb:Below w.heap.size w w'):Bx w' g cs T:=(hb.block g h.lt).trans h
theorem Bx.drew (h:Bx w g cs T):Bx w.drew g cs T:=h
theorem Bx.drewN (h:Bx w g cs T) (n:Nat):Bx (w.drewN n) g cs T:=h
theorem Bx.alloc (h:Bx w g cs T) (o:Obj):Bx (w.alloc o) g cs T:=(eA w o g h.lt).trans h
theorem Bx.new (w:World) (cs:Array Value) (T:TypeId):Bx (w.alloc (.cells cs T)) w.heap.size cs T:=cS w _
theorem Bx.new1 (w:World) (o:Obj) (cs:Array Value) (T:TypeId):Bx ((w.alloc o).alloc (.cells cs T)) (w.heap.size+1) cs T:=by
 have:=Bx.new (w.alloc o) cs T
 rwa [show (w.alloc o).heap.size=w.heap.size+1 by simp] at this
theorem Bx.new2 (w:World) (o o2:Obj) (cs:Array Value) (T:TypeId):Bx (((w.alloc o).alloc o2).alloc (.cells cs T)) (w.heap.size+1+1) cs T:=by
 have:=Bx.new1 (w.alloc o) o2 cs T
 rwa [show (w.alloc o).heap.size=w.heap.size+1 by simp] at this
end
abbrev zBX:Array Value:=#[.bool false,.slice none 0 0,.slice none 0 0]
theorem Nt.setR {w:World} {A:Option Addr} {c n R:Nat} {T:TypeId} (h:Nt w A c n) (hb:Bx w R zBX T) (u0 u1 u2:Value):Nt (((w.setCell ⟨R,0,none⟩ u0).setCell ⟨R,1,none⟩ u1).setCell ⟨R,2,none⟩ u2) A c n :=
 h.set3 (hb.c 0 rfl) (hb.c 1 rfl) (hb.c 2 rfl) (nb_ _) (ns_ _ _ _) (ns_ _ _ _) _ _ _
def sgB (s:BA):Bool:=zDu s&&decide (zAz (zAY s)≠0)
theorem Parse_c (s:BA) (w:World) (hd:(zAY s).data.toList.all dgB=true) (hs:(zAY s).size≤2000):Calls Tryz.prog 111 #[.string s] w (GivesI (sgB s) (zAz (zAY s)) w):=by
 have HS:Hid ((zAz (zAY s)=0∧sgB s=false)∨(0<(zAc B32 (zAz (zAY s))).length∧sgB s=zDu s)):=by
  by_cases h0:zAz (zAY s)=0
  ·exact .inl ⟨h0,by simp [sgB,h0]⟩
  ·exact .inr ⟨pos_len za,by simp [sgB,h0]⟩
 have HN:=zq (fun W=>natText_c (zAY s) W hd hs)
 have HC:=zq (fun W=>cut_c s W)
 clear hd hs;generalize zAY s=t at *;generalize zAz t=n at *;generalize sgB s=sg at *;generalize zDu s=ng at *
 rcases HS.o with ⟨rfl,rfl⟩ | ⟨hl,rfl⟩
 case' inr=>cases sg
 case' inl=>cases ng
 all_goals
  clear HS
  go_enter Tryz.func111,Tryz.ntmps111
  go_wp2_with fail
  with_reducible refine (HC.o _).mono ?_
  rintro e w1 ⟨rfl,rfl⟩
  go_wp2_with fail
  with_reducible refine (HN.o _).mono ?_
  rintro e w2 ⟨A5,c5,rfl,h5,hb⟩;obtain ⟨hc,hf⟩:=bcellK hb;have hz:w.heap.size<w2.heap.size:=jh;have k0:w2.cell? ⟨w.heap.size,0,none⟩=some (.bool false):=zo;have k1:w2.cell? ⟨w.heap.size,1,none⟩=some (.slice none 0 0):=zo;have HB:Hid (Below w.heap.size w w2):=((aS w.heap.size w).alloc (aB _) _).trans (hb.mono ze);clear HC HN;go_wp2;refine dY (v:=inV _ A5 c5 _) (by first | (simp [results,Tryz.results111,go_sem,hc];done) | (simp [results,Tryz.results111,go_sem,hc];rfl)) rfl ⟨A5,c5,rfl,?_,?_⟩
  ·exact h5.set2 k0 k1 (nb_ _) (ns_ _ _ _) _ _
  ·exact (HB.o.setCell ze _).setCell ze _
theorem From_c (nu de:BA) (w:World) (hd:(zAY nu).data.toList.all dgB=true) (hs:(zAY nu).size≤2000) (hd2:de.data.toList.all dgB=true) (hs2:de.size≤2000) :
  Calls Tryz.prog 70 #[.agg #[.string nu,.string de]] w (zCB (sgB nu) (zAz (zAY nu)) (zAz de) w):=by
 have HP:=zq (fun W=>Parse_c nu W hd hs)
 have HN:=zq (fun W=>natText_c de W hd2 hs2)
 clear hd hs hd2 hs2;generalize zAz (zAY nu)=n at *;generalize sgB nu=sg at *;generalize zAz de=d at *
 go_enter Tryz.func70,Tryz.ntmps70
 go_wp2;have HX:Hid (Bx ((w.alloc (.cells #[.string nu,.string de] 40)).alloc (.cells zBX 89)) w.heap.size #[.string nu,.string de] 40):=(Bx.new _ _ _).alloc _;have HR:Hid (Bx ((w.alloc (.cells #[.string nu,.string de] 40)).alloc (.cells zBX 89)) (w.heap.size+1) zBX 89):=Bx.new1 _ _ _ _;have HB:Hid (Below w.heap.size w ((w.alloc (.cells #[.string nu,.string de] 40)).alloc (.cells zBX 89))):=((aS w.heap.size w).alloc (aB _) _).alloc ze _
 go_region_held3 (fun w'=>w'.cell? ⟨w.heap.size,0,none⟩=some (.string nu)∧w'.cell? ⟨w.heap.size,1,none⟩=some (.string de)) ((refine ⟨?_,?_⟩<;>first | with_reducible assumption | go_simp))
  (first
   | ((go_at_call 111;(with_reducible refine (HP.o _).mono ?_);rintro e w1 ⟨A5,c5,rfl,h5,hb⟩;have HX1:=zq (HX.o.drew.below hb);have HR1:=zq (HR.o.drew.below hb);have HB1:=zq ((zAd HB.o 1).trans (hb.mono HB.o.size));have a0:=HX1.o.c 0 rfl;have a1:=HX1.o.c 1 rfl;clear hb))
   | ((go_at_call 112;(with_reducible refine (HN.o _).mono ?_);rintro e w2 ⟨A6,c6,rfl,h6,hb6⟩;have h56:=h5.below hb6;have HX2:=zq (HX1.o.below hb6);have HR2:=zq (HR1.o.below hb6);have HB2:=zq (zAa HB1.o hb6);have a2:=HX2.o.c 0 rfl;have a3:=HX2.o.c 1 rfl;obtain ⟨r0,r1,r2⟩:=HR2.o.t;have fr:=HR2.o.frozen;have rl:=HR2.o.lt;clear hb6)))
 clear HX HR HB HX1 HR1 HB1 a0 a1 h5;go_wp2;refine dY (v:=raV sg A5 c5 n A6 c6 d) (by simp [results,Tryz.results70,go_sem,r0,r1,r2]) rfl ⟨A5,c5,A6,c6,rfl,h56.setR HR2.o _ _ _,h6.setR HR2.o _ _ _,?_⟩
 exact ((HB2.o.setCell ze _).setCell ze _).setCell ze _
def lowB (n d:Nat):Bool:=decide (Nat.gcd n d=1)
theorem low_cmp {n d:Nat} (hd:0<d):(zCZ (zBY n d).2 d == 0)=lowB n d:=by
 unfold lowB zBY
 show (zCZ (d / Nat.gcd n d) d == 0)=_
 have hg:=dZ n hd
 by_cases h:Nat.gcd n d=1
 ·have e:d / Nat.gcd n d=d:=by rw [h];exact Nat.div_one d
  rw [e,zCx rfl];simp [h]
 ·have hlt:d / Nat.gcd n d<d:=Nat.div_lt_self hd za
  rw [zBF hlt];simp [h]
theorem fldDen (W:World) (ng:Bool) (A A2:Option Addr) (n c m c2:Nat):(Instr.field 89 (.agg #[.bool ng,.slice A n c,.slice A2 m c2]) 1).run Tryz.prog W = .ok (.slice A2 m c2) W:=zc
theorem Lowest_c (ng:Bool) (A A2:Option Addr) (c c2 n d:Nat) (w:World) (h:Nt w A c n) (h2:Nt w A2 c2 d) (hd:0<d) (hn:(zAc B32 n).length≤400000000) (hm:(zAc B32 d).length≤400000000) :
  Calls Tryz.prog 253 #[raV ng A c n A2 c2 d] w (zAe (.bool (lowB n d)) w):=by
 have hlc:=low_cmp (n:=n) hd;have HL2:Hid ((zAc B32 (zBY n d).2).length≤400000000):=dI (zAt zAu (dM d _)) hm;have HO:=zq (fun W (q:Nt W A c n) (q2:Nt W A2 c2 d)=>Over_c A A2 c c2 n d ng W q q2 hd hn hm)
 generalize (ng&&decide (n≠0))=ng2 at *;generalize (zBY n d).1=p1 at *;generalize (zBY n d).2=p2 at *;generalize lowB n d=lb at *;have HLC:=zq hlc;clear hlc hd;have HXX:Hid (Bx (w.alloc (.cells #[.bool ng,.slice A (zAc B32 n).length c,.slice A2 (zAc B32 d).length c2] 89)) w.heap.size #[.bool ng,.slice A (zAc B32 n).length c,.slice A2 (zAc B32 d).length c2] 89):=Bx.new _ _ _;have HB:Hid (Below w.heap.size w (w.alloc (.cells #[.bool ng,.slice A (zAc B32 n).length c,.slice A2 (zAc B32 d).length c2] 89))):=(aS w.heap.size w).alloc (aB _) _
 go_enter Tryz.func253,Tryz.ntmps253
 go_wp2;have hfd:=fldDen
 go_region_held3 (fun w'=>w'.cell? ⟨w.heap.size,0,none⟩=some (.bool ng)∧w'.cell? ⟨w.heap.size,1,none⟩=some (.slice A (zAc B32 n).length c)∧w'.cell? ⟨w.heap.size,2,none⟩=some (.slice A2 (zAc B32 d).length c2)) ((refine ⟨?_,?_,?_⟩<;>first | with_reducible assumption | go_simp))
  (first
   | ((go_at_call 117;(with_reducible refine (HO.o _ (Nt.drew (h.alloc _)) (Nt.drew (h2.alloc _))).mono ?_);rintro e w1 ⟨A5,c5,A6,c6,rfl,h5,h6,hb⟩;have HX1:=zq (HXX.o.drew.below hb);have HB1:=zq ((zAd HB.o 1).trans (hb.mono HB.o.size));obtain ⟨a0,a1,a2⟩:=HX1.o.t;have h21:=(Nt.drew (h2.alloc _)).below hb;clear hb))
   | ((go_at_call 116;(with_reducible refine (Cmp_c A6 A2 c6 c2 p2 d _ h6 h21 (dI HL2.o za)).mono ?_);rintro e w2 ⟨rfl,nd,rfl⟩)))
 clear HXX HB HX1 a0 a1 a2 h5 h6 h21 hfd;go_wp2;go_ret
 exact zAe.mk (zAs HLC.o) (zAd HB1.o nd)
theorem lowP_scale {k x y:Nat} (h:0<k):zBY (k*x) (k*y)=zBY x y:=by
 unfold zBY;rw [Nat.gcd_mul_left,Nat.mul_div_mul_left _ _ h,Nat.mul_div_mul_left _ _ h]
theorem addP_same (n m d:Nat) (h:0<d):addP (n,d) (m,d)=zBY (n+m) d:=by
 unfold addP
 show zBY (n*d+m*d) (d*d)=_
 rw [←bD,bB,lowP_scale h]
theorem zDn (a b:Nat):(zAc B32 (a*b)).length≤(zAc B32 a).length+(zAc B32 b).length:=by
 refine zBi zAu ?_
 rw [dB];have h1:=zBp zAu a;have h2:=zBp zAu b;exact bE (bL a (bP h2)) (dJ h1 (Nat.pow_pos zCp))
theorem len_add (a b:Nat):(zAc B32 (a+b)).length≤max (zAc B32 a).length (zAc B32 b).length+1:=by
 refine zBi zAu ?_
 have h1:=zBp zAu a;have h2:=zBp zAu b;have h3:B32 ^ (zAc B32 a).length≤B32 ^ max (zAc B32 a).length (zAc B32 b).length:=bY zCp (Nat.le_max_left _ _);have h4:B32 ^ (zAc B32 b).length≤B32 ^ max (zAc B32 a).length (zAc B32 b).length:=bY zCp (Nat.le_max_right _ _);rw [aZ];have h5:=bL (B32 ^ max (zAc B32 a).length (zAc B32 b).length) (show 2≤B32 by decide)
 omega
abbrev raC (A:Option Addr) (c n:Nat) (A2:Option Addr) (c2 d:Nat):Array Value:=#[.bool false,.slice A (zAc B32 n).length c,.slice A2 (zAc B32 d).length c2]
theorem RCmp_c (A A2 A3 A4:Option Addr) (c c2 c3 c4 n d m e:Nat) (w:World) (h:Nt w A c n) (h2:Nt w A2 c2 d) (h3:Nt w A3 c3 m) (h4:Nt w A4 c4 e)
  (hn:(zAc B32 n).length≤100000000) (hd:(zAc B32 d).length≤100000000) (hm:(zAc B32 m).length≤100000000) (he:(zAc B32 e).length≤100000000) :
  Calls Tryz.prog 33 #[raV false A c n A2 c2 d,raV false A3 c3 m A4 c4 e] w (zAe (.int .i64 (zCZ (n*e) (m*d))) w):=by
 have HM1:=zq (fun W (q:Nt W A c n) (q2:Nt W A4 c4 e)=>IMul_c A A4 c c4 n e W q q2 za za)
 have HM2:=zq (fun W (q:Nt W A3 c3 m) (q2:Nt W A2 c2 d)=>IMul_c A3 A2 c3 c2 m d W q q2 za za)
 have HL:Hid ((zAc B32 (n*e)).length≤400000000):=dI (zDn n e) za;obtain ⟨p,hp⟩:∃ p,n*e=p:=⟨_,rfl⟩;obtain ⟨q,hq⟩:∃ q,m*d=q:=⟨_,rfl⟩;rw [hp] at HM1 HL ⊢;rw [hq] at HM2 ⊢;clear hp hq;have HK:=zq (fun (A5:Option Addr) c5 (A6:Option Addr) c6 W (x:Nt W A5 c5 p) (y:Nt W A6 c6 q)=>ICmp_c A5 A6 c5 c6 p q W x y HL.o)
 have HX:Hid (Bx ((w.alloc (.cells (raC A c n A2 c2 d) 89)).alloc (.cells (raC A3 c3 m A4 c4 e) 89)) w.heap.size (raC A c n A2 c2 d) 89):=(Bx.new _ _ _).alloc _;have HY:Hid (Bx ((w.alloc (.cells (raC A c n A2 c2 d) 89)).alloc (.cells (raC A3 c3 m A4 c4 e) 89)) (w.heap.size+1) (raC A3 c3 m A4 c4 e) 89):=Bx.new1 _ _ _ _;have HB:Hid (Below w.heap.size w ((w.alloc (.cells (raC A c n A2 c2 d) 89)).alloc (.cells (raC A3 c3 m A4 c4 e) 89))):=((aS w.heap.size w).alloc (aB _) _).alloc ze _;clear hn hd hm he
 go_enter Tryz.func33,Tryz.ntmps33
 go_wp2
 go_region_held3 (fun w'=>(w'.cell? ⟨w.heap.size,0,none⟩=some (.bool false)∧w'.cell? ⟨w.heap.size,1,none⟩=some (.slice A (zAc B32 n).length c)∧w'.cell? ⟨w.heap.size,2,none⟩=some (.slice A2 (zAc B32 d).length c2))∧(w'.cell? ⟨w.heap.size+1,0,none⟩=some (.bool false)∧w'.cell? ⟨w.heap.size+1,1,none⟩=some (.slice A3 (zAc B32 m).length c3)∧w'.cell? ⟨w.heap.size+1,2,none⟩=some (.slice A4 (zAc B32 e).length c4)))
  ((refine ⟨⟨?_,?_,?_⟩,?_,?_,?_⟩<;>first | with_reducible assumption | go_simp))
  (first
   | ((go_at_call 76;(with_reducible refine (HM1.o _ (Nt.drew ((h.alloc _).alloc _)) (Nt.drew ((h4.alloc _).alloc _))).mono ?_);rintro e1 w1 ⟨A5,c5,rfl,h5,hb⟩;have HX1:=zq (HX.o.drew.below hb);have HY1:=zq (HY.o.drew.below hb);have HB1:=zq ((zAd HB.o 1).trans (hb.mono HB.o.size));obtain ⟨a0,a1,a2⟩:=HX1.o.t;obtain ⟨b0,b1,b2⟩:=HY1.o.t;have h31:=(Nt.drew ((h3.alloc _).alloc _)).below hb;have h21:=(Nt.drew ((h2.alloc _).alloc _)).below hb;clear hb))
   | ((go_at_call 76;(with_reducible refine (HM2.o _ h31 h21).mono ?_);rintro e2 w2 ⟨A6,c6,rfl,h6,hb6⟩;have h52:=h5.below hb6;have HX2:=zq (HX1.o.below hb6);have HY2:=zq (HY1.o.below hb6);have HB2:=zq (zAa HB1.o hb6);clear a0 a1 a2 b0 b1 b2;obtain ⟨a0,a1,a2⟩:=HX2.o.t;obtain ⟨b0,b1,b2⟩:=HY2.o.t;clear hb6))
   | ((go_at_call 77;(with_reducible refine (HK.o _ _ _ _ _ h52 h6).mono ?_);rintro e3 w3 ⟨rfl,hb7⟩;have HB3:=zq (zAa HB2.o hb7);have HX3:=zq (HX2.o.below hb7);have HY3:=zq (HY2.o.below hb7);clear a0 a1 a2 b0 b1 b2;obtain ⟨a0,a1,a2⟩:=HX3.o.t;obtain ⟨b0,b1,b2⟩:=HY3.o.t;clear hb7)))
 go_wp2;go_ret
 exact zAe.mk rfl HB3.o
theorem RAdd_same (A A2 A3 A4:Option Addr) (c c2 c3 c4 n d m e:Nat) (w:World) (h:Nt w A c n) (h2:Nt w A2 c2 d) (h3:Nt w A3 c3 m) (h4:Nt w A4 c4 e)
  (hn:(zAc B32 n).length≤100000000) (hd:(zAc B32 d).length≤100000000) (hm:(zAc B32 m).length≤100000000) (he:(zAc B32 e).length≤100000000) (hd0:0<d) (he0:0<e) (hde:d=e) :
  Calls Tryz.prog 75 #[raV false A c n A2 c2 d,raV false A3 c3 m A4 c4 e] w (zCB false (addP (n,d) (m,e)).1 (addP (n,d) (m,e)).2 w):=by
 subst hde;rw [addP_same n m d hd0];have HC:=zq (fun W (x:Nt W A2 c2 d) (y:Nt W A4 c4 d)=>Cmp_c A2 A4 c2 c4 d d W x y za)
 have HA:=zq (fun W (x:Nt W A c n) (y:Nt W A3 c3 m)=>IAdd_c A A3 c c3 n m W x y za za)
 have HO:=zq (fun A5 c5 W (x:Nt W A5 c5 (n+m)) (y:Nt W A2 c2 d)=>Over_c A5 A2 c5 c2 (n+m) d false W x y hd0 (by have:=len_add n m;omega) za)
 rw [zCx rfl] at HC;simp only [eB] at HO;generalize (zBY (n+m) d).1=pp at *;generalize (zBY (n+m) d).2=pq at *;generalize n+m=nm at *;have HX0:Hid (Bx (((w.alloc (.cells (raC A c n A2 c2 d) 89)).alloc (.cells (raC A3 c3 m A4 c4 d) 89)).alloc (.cells zBX 89)) w.heap.size (raC A c n A2 c2 d) 89):=((Bx.new _ _ _).alloc _).alloc _;have HY0:Hid (Bx (((w.alloc (.cells (raC A c n A2 c2 d) 89)).alloc (.cells (raC A3 c3 m A4 c4 d) 89)).alloc (.cells zBX 89)) (w.heap.size+1) (raC A3 c3 m A4 c4 d) 89):=(Bx.new1 _ _ _ _).alloc _;have HZ0:Hid (Bx (((w.alloc (.cells (raC A c n A2 c2 d) 89)).alloc (.cells (raC A3 c3 m A4 c4 d) 89)).alloc (.cells zBX 89)) (w.heap.size+1+1) zBX 89):=Bx.new2 _ _ _ _ _;have HB0:Hid (Below w.heap.size w (((w.alloc (.cells (raC A c n A2 c2 d) 89)).alloc (.cells (raC A3 c3 m A4 c4 d) 89)).alloc (.cells zBX 89))):=(((aS w.heap.size w).alloc (aB _) _).alloc ze _).alloc zg _;obtain ⟨W,hW⟩:∃ W,W=(((w.alloc (.cells (raC A c n A2 c2 d) 89)).alloc (.cells (raC A3 c3 m A4 c4 d) 89)).alloc (.cells zBX 89)):=⟨_,rfl⟩;have g1:Nt W A c n:=yu;have g2:Nt W A2 c2 d:=yp;have g3:Nt W A3 c3 m:=yq;have g4:Nt W A4 c4 d:=yr;rw [←hW] at HX0 HY0 HZ0 HB0;clear hn hd hm he hd0 he0
 go_enter Tryz.func75,Tryz.ntmps75
 go_wp2_with fail
 rw [←hW];clear hW;obtain ⟨x0,x1,x2⟩:=HX0.o.t;obtain ⟨y0,y1,y2⟩:=HY0.o.t;have z0:=HZ0.o.frozen;have z1:=HZ0.o.lt
 go_wp2_with fail
 with_reducible refine (HC.o _ g2 g4).mono ?_
 rintro e0 w0 ⟨rfl,nd,rfl⟩;clear x0 x1 x2 y0 y1 y2 z0 z1;have HX:=zq (HX0.o.drewN (nd+1));have HY:=zq (HY0.o.drewN (nd+1));have HZ:=zq (HZ0.o.drewN (nd+1));have HB:=zq (zAd HB0.o (nd+1));obtain ⟨x0,x1,x2⟩:=HX.o.t;obtain ⟨y0,y1,y2⟩:=HY.o.t;clear HX0 HY0 HZ0 HB0;go_wp2
 go_region_held3 (fun w'=>(w'.cell? ⟨w.heap.size,0,none⟩=some (.bool false)∧w'.cell? ⟨w.heap.size,1,none⟩=some (.slice A (zAc B32 n).length c)∧w'.cell? ⟨w.heap.size,2,none⟩=some (.slice A2 (zAc B32 d).length c2))∧(w'.cell? ⟨w.heap.size+1,0,none⟩=some (.bool false)∧w'.cell? ⟨w.heap.size+1,1,none⟩=some (.slice A3 (zAc B32 m).length c3)∧w'.cell? ⟨w.heap.size+1,2,none⟩=some (.slice A4 (zAc B32 d).length c4)))
  ((refine ⟨⟨?_,?_,?_⟩,?_,?_,?_⟩<;>first | with_reducible assumption | go_simp))
  (first
   | ((go_at_call 118;(with_reducible refine (HA.o _ (g1.drewN (nd+1)) (g3.drewN (nd+1))).mono ?_);rintro e1 w1 ⟨A5,c5,rfl,h5,hb1⟩;have HX1:=zq (HX.o.below hb1);have HY1:=zq (HY.o.below hb1);have HZ1:=zq (HZ.o.below hb1);have HB1:=zq (HB.o.trans (hb1.mono HB.o.size));have g21:=(g2.drewN (nd+1)).below hb1;obtain ⟨a0,a1,a2⟩:=HX1.o.t;obtain ⟨b0,b1,b2⟩:=HY1.o.t;clear hb1))
   | ((go_at_call 117;(with_reducible refine (HO.o _ _ _ h5 g21).mono ?_);rintro e2 w2 ⟨A6,c6,A7,c7,rfl,h6,h7,hb2⟩;have HX2:=zq (HX1.o.below hb2);have HY2:=zq (HY1.o.below hb2);have HZ2:=zq (HZ1.o.below hb2);have HB2:=zq (zAa HB1.o hb2);clear a0 a1 a2 b0 b1 b2;obtain ⟨a0,a1,a2⟩:=HX2.o.t;obtain ⟨b0,b1,b2⟩:=HY2.o.t;obtain ⟨r0,r1,r2⟩:=HZ2.o.t;have fr:=HZ2.o.frozen;have rl:=HZ2.o.lt;clear hb2)))
 clear HX HY HZ HB;go_wp2;refine dY (v:=raV false A6 c6 pp A7 c7 pq) qq rfl ⟨A6,c6,A7,c7,rfl,h6.setR HZ2.o _ _ _,h7.setR HZ2.o _ _ _,?_⟩
 exact ((HB2.o.setCell zg _).setCell zg _).setCell zg _
theorem RAdd_diff (A A2 A3 A4:Option Addr) (c c2 c3 c4 n d m e:Nat) (w:World) (h:Nt w A c n) (h2:Nt w A2 c2 d) (h3:Nt w A3 c3 m) (h4:Nt w A4 c4 e)
  (hn:(zAc B32 n).length≤100000000) (hd:(zAc B32 d).length≤100000000) (hm:(zAc B32 m).length≤100000000) (he:(zAc B32 e).length≤100000000) (hd0:0<d) (he0:0<e) (hde:d≠e) :
  Calls Tryz.prog 75 #[raV false A c n A2 c2 d,raV false A3 c3 m A4 c4 e] w (zCB false (addP (n,d) (m,e)).1 (addP (n,d) (m,e)).2 w):=by
 have HC:=zq (fun W (x:Nt W A2 c2 d) (y:Nt W A4 c4 e)=>Cmp_c A2 A4 c2 c4 d e W x y za)
 have hk:(zCZ d e == 0)=false:=by
  rcases Nat.lt_or_gt_of_ne hde with h | h
  ·rw [zBF h];rfl
  ·rw [zBy h];rfl
 have l1:=zDn n e;have l2:=zDn m d;have l3:=zDn d e;have l4:=len_add (n*e) (m*d);have HM1:=zq (fun W (x:Nt W A c n) (y:Nt W A4 c4 e)=>IMul_c A A4 c c4 n e W x y za za)
 have HM2:=zq (fun W (x:Nt W A3 c3 m) (y:Nt W A2 c2 d)=>IMul_c A3 A2 c3 c2 m d W x y za za)
 have HM3:=zq (fun W (x:Nt W A2 c2 d) (y:Nt W A4 c4 e)=>Mul_c A2 A4 c2 c4 d e W x y za za)
 have HA:=zq (fun A5 c5 A6 c6 W (x:Nt W A5 c5 (n*e)) (y:Nt W A6 c6 (m*d))=>IAdd_c A5 A6 c5 c6 (n*e) (m*d) W x y za za)
 have HO:=zq (fun A5 c5 A6 c6 W (x:Nt W A5 c5 (n*e+m*d)) (y:Nt W A6 c6 (d*e))=>Over_c A5 A6 c5 c6 (n*e+m*d) (d*e) false W x y (dN hd0 he0) za za)
 simp only [eB] at HO;have hap:addP (n,d) (m,e)=zBY (n*e+m*d) (d*e):=rfl;rw [hap];clear hap l1 l2 l3 l4;generalize (zBY (n*e+m*d) (d*e)).1=pp at *;generalize (zBY (n*e+m*d) (d*e)).2=pq at *;generalize n*e=p1 at *;generalize m*d=p2 at *;generalize d*e=p3 at *;generalize p1+p2=p4 at *;generalize zCZ d e=cz at *;have HX0:Hid (Bx (((w.alloc (.cells (raC A c n A2 c2 d) 89)).alloc (.cells (raC A3 c3 m A4 c4 e) 89)).alloc (.cells zBX 89)) w.heap.size (raC A c n A2 c2 d) 89):=((Bx.new _ _ _).alloc _).alloc _;have HY0:Hid (Bx (((w.alloc (.cells (raC A c n A2 c2 d) 89)).alloc (.cells (raC A3 c3 m A4 c4 e) 89)).alloc (.cells zBX 89)) (w.heap.size+1) (raC A3 c3 m A4 c4 e) 89):=(Bx.new1 _ _ _ _).alloc _;have HZ0:Hid (Bx (((w.alloc (.cells (raC A c n A2 c2 d) 89)).alloc (.cells (raC A3 c3 m A4 c4 e) 89)).alloc (.cells zBX 89)) (w.heap.size+1+1) zBX 89):=Bx.new2 _ _ _ _ _;have HB0:Hid (Below w.heap.size w (((w.alloc (.cells (raC A c n A2 c2 d) 89)).alloc (.cells (raC A3 c3 m A4 c4 e) 89)).alloc (.cells zBX 89))):=(((aS w.heap.size w).alloc (aB _) _).alloc ze _).alloc zg _;obtain ⟨W,hW⟩:∃ W,W=(((w.alloc (.cells (raC A c n A2 c2 d) 89)).alloc (.cells (raC A3 c3 m A4 c4 e) 89)).alloc (.cells zBX 89)):=⟨_,rfl⟩;have g1:Nt W A c n:=yu;have g2:Nt W A2 c2 d:=yp;have g3:Nt W A3 c3 m:=yq;have g4:Nt W A4 c4 e:=yr;rw [←hW] at HX0 HY0 HZ0 HB0;clear hn hd hm he hd0 he0 hde
 go_enter Tryz.func75,Tryz.ntmps75
 go_wp2_with fail
 rw [←hW];clear hW;obtain ⟨x0,x1,x2⟩:=HX0.o.t;obtain ⟨y0,y1,y2⟩:=HY0.o.t;have z0:=HZ0.o.frozen;have z1:=HZ0.o.lt
 go_wp2_with fail
 with_reducible refine (HC.o _ g2 g4).mono ?_
 rintro e0 w0 ⟨rfl,nd,rfl⟩;clear x0 x1 x2 y0 y1 y2 z0 z1;have HX:=zq (HX0.o.drewN (nd+1));have HY:=zq (HY0.o.drewN (nd+1));have HZ:=zq (HZ0.o.drewN (nd+1));have HB:=zq (zAd HB0.o (nd+1));obtain ⟨x0,x1,x2⟩:=HX.o.t;obtain ⟨y0,y1,y2⟩:=HY.o.t;clear HX0 HY0 HZ0 HB0;go_wp2
 go_region_held3 (fun w'=>(w'.cell? ⟨w.heap.size,0,none⟩=some (.bool false)∧w'.cell? ⟨w.heap.size,1,none⟩=some (.slice A (zAc B32 n).length c)∧w'.cell? ⟨w.heap.size,2,none⟩=some (.slice A2 (zAc B32 d).length c2))∧(w'.cell? ⟨w.heap.size+1,0,none⟩=some (.bool false)∧w'.cell? ⟨w.heap.size+1,1,none⟩=some (.slice A3 (zAc B32 m).length c3)∧w'.cell? ⟨w.heap.size+1,2,none⟩=some (.slice A4 (zAc B32 e).length c4)))
  ((refine ⟨⟨?_,?_,?_⟩,?_,?_,?_⟩<;>first | with_reducible assumption | go_simp))
  (first
   | ((go_at_call 76;(with_reducible refine (HM1.o _ (g1.drewN (nd+1)) (g4.drewN (nd+1))).mono ?_);rintro e1 w1 ⟨A5,c5,rfl,h5,hb1⟩;have HX1:=zq (HX.o.below hb1);have HY1:=zq (HY.o.below hb1);have HZ1:=zq (HZ.o.below hb1);have HB1:=zq (HB.o.trans (hb1.mono HB.o.size));have g21:=(g2.drewN (nd+1)).below hb1;have g31:=(g3.drewN (nd+1)).below hb1;have g41:=(g4.drewN (nd+1)).below hb1;obtain ⟨a0,a1,a2⟩:=HX1.o.t;obtain ⟨b0,b1,b2⟩:=HY1.o.t;clear hb1))
   | ((go_at_call 76;(with_reducible refine (HM2.o _ g31 g21).mono ?_);rintro e2 w2 ⟨A6,c6,rfl,h6,hb2⟩;have HX2:=zq (HX1.o.below hb2);have HY2:=zq (HY1.o.below hb2);have HZ2:=zq (HZ1.o.below hb2);have HB2:=zq (zAa HB1.o hb2);have h52:=h5.below hb2;have g22:=g21.below hb2;have g42:=g41.below hb2;clear a0 a1 a2 b0 b1 b2;obtain ⟨a0,a1,a2⟩:=HX2.o.t;obtain ⟨b0,b1,b2⟩:=HY2.o.t;clear hb2))
   | ((go_at_call 118;(with_reducible refine (HA.o _ _ _ _ _ h52 h6).mono ?_);rintro e3 w3 ⟨A7,c7,rfl,h7,hb3⟩;have HX3:=zq (HX2.o.below hb3);have HY3:=zq (HY2.o.below hb3);have HZ3:=zq (HZ2.o.below hb3);have HB3:=zq (zAa HB2.o hb3);have g23:=g22.below hb3;have g43:=g42.below hb3;clear a0 a1 a2 b0 b1 b2;obtain ⟨a0,a1,a2⟩:=HX3.o.t;obtain ⟨b0,b1,b2⟩:=HY3.o.t;clear hb3))
   | ((go_at_call 119;(with_reducible refine (HM3.o _ g23 g43).mono ?_);rintro e4 w4 ⟨A8,c8,rfl,h8,hb4⟩;have HX4:=zq (HX3.o.below hb4);have HY4:=zq (HY3.o.below hb4);have HZ4:=zq (HZ3.o.below hb4);have HB4:=zq (zAa HB3.o hb4);have h74:=h7.below hb4;clear a0 a1 a2 b0 b1 b2;obtain ⟨a0,a1,a2⟩:=HX4.o.t;obtain ⟨b0,b1,b2⟩:=HY4.o.t;clear hb4))
   | ((go_at_call 117;(with_reducible refine (HO.o _ _ _ _ _ h74 h8).mono ?_);rintro e5 w5 ⟨A9,c9,AD,cE,rfl,h9,hF,hb5⟩;have HX5:=zq (HX4.o.below hb5);have HY5:=zq (HY4.o.below hb5);have HZ5:=zq (HZ4.o.below hb5);have HB5:=zq (zAa HB4.o hb5);clear a0 a1 a2 b0 b1 b2;obtain ⟨a0,a1,a2⟩:=HX5.o.t;obtain ⟨b0,b1,b2⟩:=HY5.o.t;obtain ⟨r0,r1,r2⟩:=HZ5.o.t;have fr:=HZ5.o.frozen;have rl:=HZ5.o.lt;clear hb5)))
 clear HX HY HZ HB;go_wp2;refine dY (v:=raV false A9 c9 pp AD cE pq) qq rfl ⟨A9,c9,AD,cE,rfl,h9.setR HZ5.o _ _ _,hF.setR HZ5.o _ _ _,?_⟩
 exact ((HB5.o.setCell zg _).setCell zg _).setCell zg _
theorem RAdd_c (A A2 A3 A4:Option Addr) (c c2 c3 c4 n d m e:Nat) (w:World) (h:Nt w A c n) (h2:Nt w A2 c2 d) (h3:Nt w A3 c3 m) (h4:Nt w A4 c4 e)
  (hn:(zAc B32 n).length≤100000000) (hd:(zAc B32 d).length≤100000000) (hm:(zAc B32 m).length≤100000000) (he:(zAc B32 e).length≤100000000) (hd0:0<d) (he0:0<e) :
  Calls Tryz.prog 75 #[raV false A c n A2 c2 d,raV false A3 c3 m A4 c4 e] w (zCB false (addP (n,d) (m,e)).1 (addP (n,d) (m,e)).2 w):=by
 by_cases hde:d=e
 ·exact RAdd_same A A2 A3 A4 c c2 c3 c4 n d m e w h h2 h3 h4 hn hd hm he hd0 he0 hde
 ·exact RAdd_diff A A2 A3 A4 c c2 c3 c4 n d m e w h h2 h3 h4 hn hd hm he hd0 he0 hde
theorem zDK:(⟨#[48]⟩:BA).toList=[48]:=by rw [Dw.toList_eq]
theorem zAQ {s:BA} (h:zCR s=true):s.data.toList.all dgB=true∧1≤s.size:=by
 unfold zCR at h;simp only [dT,Bool.or_eq_true,aH] at h;refine ⟨h.1,?_⟩
 rcases h.2 with h2 | h2<;>omega
def DigRel (w:World) (s:BA) (m:Nat) (iv:Value) (wr:World):Prop :=
 wr=w∧∃ k:Nat,k+m=s.size∧iv = .int .i64 k∧(s.data.toList.take k).all dgB=true
theorem all_take_succ {s:BA} {k:Nat} (hk:k<s.size) (h:(s.data.toList.take k).all dgB=true) (h2:dgB s[k]=true):(s.data.toList.take (k+1)).all dgB=true:=by
 rw [bM (by simpa using hk),dS,h,zDb s k hk]
 simp [h2]
theorem not_all {s:BA} {k:Nat} (hk:k<s.size) (h2:dgB s[k]=false):s.data.toList.all dgB=false:=by
 rw [List.all_eq_false];exact ⟨s[k],by rw [←zDb s k hk];exact aJ _,by simp [h2]⟩
theorem digits_c (s:BA) (w:World) (hs:s.size≤9223372036854775807):Calls Tryz.prog 252 #[.string s] w (zAB (.bool (zCR s)) w):=by
 go_enter Tryz.func252,Tryz.ntmps252
 go_wp2
 go_loopg [6] s.size (DigRel w s)
 case atStart=>exact ⟨rfl,0,za,rfl,rfl⟩
 case round =>
  obtain ⟨hw,k,hkm,rfl,hall⟩:=hrel;subst hw;have HM:=zq hkm;have HA:=zq hall;clear hkm hall
  by_cases hlt:k<s.size
  ·by_cases h1:s[k].toNat<48
   ·have HD:=zq (not_all hlt (show dgB s[k]=false by unfold dgB;simp;omega))
    go_wp2;go_ret
    refine zAB.mk (zAs ?_) rfl
    unfold zCR;rw [HD.o];rfl
   ·by_cases h2:57<s[k].toNat
    ·have HD:=zq (not_all hlt (show dgB s[k]=false by unfold dgB;simp;omega))
     have h1b:(48:Int)≤(s[k].toNat:Int):=za;go_wp2;go_ret
     refine zAB.mk (zAs ?_) rfl
     unfold zCR;rw [HD.o];rfl
    ·have HD:=zq (all_take_succ hlt HA.o (show dgB s[k]=true by unfold dgB;simp;omega))
     have h1b:(48:Int)≤(s[k].toNat:Int):=za;have h2b:(s[k].toNat:Int)≤57:=za;go_wp2
     go_roundg (gk - 1)
     case measure=>have:=HM.o;omega
     case rel=>exact ⟨rfl,k+1,yi,zi,HD.o⟩
  ·obtain rfl:k=s.size:=by have:=HM.o;omega
   have HALL:Hid (s.data.toList.all dgB=true):=by
    show _=_
    have:=HA.o
    rwa [cY ze] at this
   have hr:zCR s=(decide (s.size=1) || decide (1<s.size)&&decide ((s.data.toList.headD 0).toNat≠48)):=by
    unfold zCR;rw [HALL.o];rfl
   rcases bR s.size with h0 | h0
   ·have he:s=emp:=by
     apply Dw.toList_inj
     rw [Dw.toList_eq,Dw.toList_eq,dQ (l:=s.data.toList) (by simpa using h0)]
     rfl
    have hv:zCR s=false:=by rw [hr,h0];rfl
    rw [hv];have q1:=zAr he;have q2:(s.toList == [48])=false:=by rw [←zDK];exact zAm (by rw [he];decide)
    have HV:=zq hv;clear hr hv he;go_wp2;go_ret
    exact zAB.mk (zAs HV.o.symm) rfl
   ·have hne:s≠emp:=fun e=>by rw [e] at h0;exact absurd h0 zd
    have q1:=zAo hne
    by_cases hz:s=zCH
    ·have hv:zCR s=true:=by rw [hz];decide +kernel
     rw [hv];have q2:(s.toList == [48])=true:=by rw [←zDK];exact zAn hz
     have HV:=zq hv;clear hr hv hz hne;go_wp2;go_ret
     exact zAB.mk (zAs HV.o.symm) rfl
    ·have q2:(s.toList == [48])=false:=by rw [←zDK];exact zAm hz
     have hd0:s.data.toList.headD 0=s[0]:=zDC s h0
     by_cases hh:s[0].toNat=48
     ·have h1:s.size≠1:=fun e=>hz (by
       apply Dw.toList_inj
       rw [Dw.toList_eq,Dw.toList_eq]
       apply eC
       ·simp [zCH,e]
       ·intro i hi1 hi2
        obtain rfl:i=0:=by simp [e] at hi1;omega
        rw [zDb s 0 h0];have:s[0]=48:=UInt8.toNat_inj.1 (by simpa using hh)
        rw [this];rfl)
      have hv:zCR s=false:=by rw [hr,hd0,hh];simp [h1]
      have q3:((s[0].toNat:Int) != 48)=false:=by simp [hh]
      rw [hv];have HV:=zq hv;clear hr hv hz hne hh hd0 h1;go_wp2;go_ret
      exact zAB.mk (zAs HV.o.symm) rfl
     ·have hv:zCR s=true:=by
       rw [hr,hd0]
       rcases aU 1 s.size with h | h
       ·simp [h,hh]
       ·have:s.size=1:=by omega
        simp [this]
      have q3:((s[0].toNat:Int) != 48)=true:=zg;rw [hv];have HV:=zq hv;clear hr hv hz hne hh hd0;go_wp2;go_ret
      exact zAB.mk (zAs HV.o.symm) rfl
theorem len_val {s:BA} (h:s.data.toList.all dgB=true) (hs:s.size≤2000):(zAc B32 (zAz s)).length≤2000:=by
 have h1:=decV_dg h;have h2:10 ^ s.data.toList.length≤B32 ^ s.data.toList.length:=dU zd _;have h3:=zBi zAu (dL h1 h2);have h4:s.data.toList.length=s.size:=ze;unfold zAz;omega
theorem den_pos {s:BA} (h:zCR s=true) (hz:s≠zCH):0<zAz s:=by
 obtain ⟨h1,h2⟩:=zAQ h;unfold zCR at h;rw [h1] at h;simp only [Bool.true_and,Bool.or_eq_true,aH,dT] at h;have hd0:s.data.toList.headD 0=s[0]:=zDC s za
 have hne:s[0].toNat≠48:=by
  rcases h with h | ⟨_,h⟩
  ·intro e
   apply hz
   apply Dw.toList_inj
   rw [Dw.toList_eq,Dw.toList_eq]
   apply eC
   ·simp [zCH,h]
   ·intro i hi1 hi2
    obtain rfl:i=0:=by simp [h] at hi1;omega
    rw [zDb s 0 za];have:s[0]=48:=UInt8.toNat_inj.1 (by simpa using e)
    rw [this];rfl
  ·rwa [hd0] at h
 have hdg:=dgB_of (List.all_eq_true.1 h1 s[0] (by rw [←zDb s 0 za];exact aJ _))
 unfold zAz;rw [decV_cut s.data.toList 1]
 have e1:s.data.toList.take 1=[s[0]]:=by
  rw [bM zg,zDb s 0 za];rfl
 have e2:zBM [s[0]]=s[0].toNat - 48:=by simp [zBM]
 rw [e1,e2];have h3:1*10 ^ (s.data.toList.length - 1)≤(s[0].toNat - 48)*10 ^ (s.data.toList.length - 1):=aP _ za;have h4:0<10 ^ (s.data.toList.length - 1):=Nat.pow_pos za;omega
theorem CheckRatio_c (nu de:BA) (w:World) (hs:(zAY nu).size≤9223372036854775807) (hs2:de.size≤9223372036854775807) :
  Calls Tryz.prog 208 #[.agg #[.string nu,.string de]] w (zAe (.int .i64 (zDq nu de)) w):=by
 generalize hres:zDq nu de=res;have HR:=zq hres;clear hres;unfold zDq at HR;have HB0:Hid (Below w.heap.size w (w.alloc (.cells #[.string nu,.string de] 40))):=(aS w.heap.size w).alloc (aB _) _;have HC:=zq (fun W=>cut_c nu W)
 have HD1:=zq (fun W=>digits_c (zAY nu) W hs)
 have HD2:=zq (fun W=>digits_c de W hs2)
 have HF:=zq (fun (h1:zCR (zAY nu)=true) (h2:zCR de=true) (h3:(zAY nu).size≤2000) (h4:de.size≤2000) W=>From_c nu de W (zAQ h1).1 h3 (zAQ h2).1 h4)
 have HL:=zq (fun (h1:zCR (zAY nu)=true) (h2:zCR de=true) (hz:de≠zCH) (h3:(zAY nu).size≤2000) (h4:de.size≤2000) A c A2 c2 W (x:Nt W A c (zAz (zAY nu))) (y:Nt W A2 c2 (zAz de)) =>
  Lowest_c (sgB nu) A A2 c c2 (zAz (zAY nu)) (zAz de) W x y (den_pos h2 hz) (dI (len_val (zAQ h1).1 h3) za) (dI (len_val (zAQ h2).1 h4) za))
 go_enter Tryz.func208,Tryz.ntmps208
 go_wp2_with fail
 with_reducible refine (HC.o _).mono ?_
 rintro e w1 ⟨rfl,rfl⟩
 go_wp2_with fail
 with_reducible refine (HD1.o _).mono ?_
 rintro e w1 ⟨rfl,rfl⟩
 cases h1:zCR (zAY nu) with
 | false =>
  have HS:Hid (res=3):=by show _=_;rw [←HR.o,aE (.inl h1)]
  clear h1;go_wp2;go_ret
  exact zAe.mk (zAx HS.o.symm) HB0.o
 | true =>
  by_cases h2:zDu nu=true∧zAY nu=zCH
  ·have HS:Hid (res=3):=by show _=_;rw [←HR.o,aE (.inr (.inl h2))]
   have q1:=h2.1;have q2:((zAY nu).toList == [48])=true:=by rw [←zDK];exact zAn h2.2
   rw [q1];clear h1 h2 q1;go_wp2;go_ret
   exact zAe.mk (zAx HS.o.symm) HB0.o
  ·have HQ:Hid (zDu nu=false∨((zAY nu).toList == [48])=false):=by
    show _∨_
    by_cases h3:zDu nu=true
    ·exact .inr (by rw [←zDK];exact zAm fun e=>h2 ⟨h3,e⟩)
    ·exact .inl (by simpa using h3)
   have hr1:=HR.o
   have HR1:Hid ((if zCR de=false∨de=zCH then 3 else if 2000<(zAY nu).size∨2000<de.size then 2 else if Nat.gcd (zAz (zAY nu)) (zAz de)=1 then 0 else 3)=res):=by
    show _=_
    rw [←hr1]
    by_cases h4:zCR de=false∨de=zCH
    ·rw [aE h4,aE (.inr (.inr h4))]
    ·have hno:¬(zCR (zAY nu)=false∨(zDu nu=true∧zAY nu=zCH)∨zCR de=false∨de=zCH):=by
      rintro (h | h | h)
      ·rw [h1] at h;cases h
      ·exact h2 h
      ·exact h4 h
     rw [aC h4,aC hno]
   have H1:=zq h1;clear hr1 HR h2 h1 HD1 HC
   rcases HQ.o with q | q
   case' inr=>cases hng:zDu nu
   case' inl=>rw [q]
   all_goals
    clear HQ
    go_wp2_with fail
    with_reducible refine (HD2.o _).mono ?_
    rintro e w1 ⟨rfl,rfl⟩
    cases h3:zCR de with
    | false =>
     have HS:Hid (res=3):=by show _=_;rw [←HR1.o,aE (.inl h3)]
     clear h3;go_wp2;go_ret
     exact zAe.mk (zAx HS.o.symm) HB0.o
    | true =>
     by_cases h4:de=zCH
     ·have HS:Hid (res=3):=by show _=_;rw [←HR1.o,aE (.inr h4)]
      have q2:(de.toList == [48])=true:=by rw [←zDK];exact zAn h4
      clear h3 h4;go_wp2;go_ret
      exact zAe.mk (zAx HS.o.symm) HB0.o
     ·have q2:(de.toList == [48])=false:=by rw [←zDK];exact zAm h4
      have HR2:Hid ((if 2000<(zAY nu).size∨2000<de.size then 2 else if Nat.gcd (zAz (zAY nu)) (zAz de)=1 then 0 else 3)=res):=by
       show _=_
       have hno:¬(zCR de=false∨de=zCH):=by
        rintro (h | h)
        ·rw [h3] at h;cases h
        ·exact h4 h
       rw [←HR1.o,aC hno]
      by_cases h5:2000<(zAY nu).size
      ·have HS:Hid (res=2):=by show _=_;rw [←HR2.o,aE (.inl h5)]
       clear h3 h4;go_wp2;go_ret
       exact zAe.mk (zAx HS.o.symm) HB0.o
      ·by_cases h6:2000<de.size
       ·have HS:Hid (res=2):=by show _=_;rw [←HR2.o,aE (.inr h6)]
        clear h3 h4;go_wp2;go_ret
        exact zAe.mk (zAx HS.o.symm) HB0.o
       ·have HR3:Hid ((if Nat.gcd (zAz (zAY nu)) (zAz de)=1 then (0:Int) else 3)=res):=by
         show _=_
         rw [←HR2.o,aC (show ¬(2000<(zAY nu).size∨2000<de.size) by omega)]
        have HF2:=zq (HF.o H1.o h3 za za);have HL2:=zq (HL.o H1.o h3 h4 za za);clear h3 h4
        go_wp2_with fail
        with_reducible refine (HF2.o _).mono ?_
        rintro e w2 ⟨A5,c5,A6,c6,rfl,h7,h8,hb2⟩;have HB2:=zq (HB0.o.trans (hb2.mono HB0.o.size));clear hb2
        go_wp2_with fail
        with_reducible refine (HL2.o A5 c5 A6 c6 _ h7 h8).mono ?_
        rintro e w3 ⟨rfl,hb3⟩;have HB3:=zq (zAa HB2.o hb3);clear hb3 HF HL HF2 HL2 HB2
        by_cases h9:Nat.gcd (zAz (zAY nu)) (zAz de)=1
        ·have HS:Hid (res=0):=by show _=_;rw [←HR3.o,aE h9]
         have hlb:lowB (zAz (zAY nu)) (zAz de)=true:=by unfold lowB;exact cW h9
         rw [hlb];clear h9 hlb;go_wp2;go_ret
         exact zAe.mk (zAx HS.o.symm) HB3.o
        ·have HS:Hid (res=3):=by show _=_;rw [←HR3.o,aC h9]
         have hlb:lowB (zAz (zAY nu)) (zAz de)=false:=by unfold lowB;exact cX h9
         rw [hlb];clear h9 hlb;go_wp2;go_ret
         exact zAe.mk (zAx HS.o.symm) HB3.o
def posS (l:List BA) (s:BA):Int:=match l.findIdx? fun x=>decide (x=s) with
 | some i=>i
 | none=>-1
theorem posS_mem (l:List BA) (s:BA):decide ((0:Int)≤posS l s)=zDt l s:=by
 unfold posS zDt
 cases h:l.findIdx? fun x=>decide (x=s) with
 | none =>
  have:(l.any fun x=>decide (x=s))=false:=by
   rw [aV];intro x hx;have:=List.findIdx?_eq_none_iff.1 h x hx
   simpa using this
  rw [this];rfl
 | some i =>
  obtain ⟨hi,hp,_⟩:=List.findIdx?_eq_some_iff_getElem.1 h;have:(l.any fun x=>decide (x=s))=true:=List.any_eq_true.2 ⟨l[i],aJ hi,hp⟩
  rw [this];simp
def PosIRel (w:World) (l:List BA) (s:BA) (m:Nat) (i:Value) (wr:World):Prop :=
 w=wr∧∃ k:Nat,k+m=l.length∧i = .int .i64 k∧∀ j (h:j<l.length),j<k→l[j]≠s
theorem indexS_c (A:Option Addr) (c:Nat) (l:List BA) (s:BA) (w:World) (hn:l.length≤1000000) (h:Strs w A l) :
  Calls Tryz.prog 51 #[.slice A l.length c,.string s] w (zAB (.int .i64 (posS l s)) w):=by
 generalize hres:posS l s=res;have HR:=zq hres;clear hres
 go_enter Tryz.func51,Tryz.ntmps51
 go_wp2
 go_loopg [8] l.length (PosIRel w l s)
 case atStart=>exact ⟨rfl,0,za,rfl,fun j _ hj=>absurd hj za⟩
 case round =>
  obtain ⟨hw,k,hk,rfl,hpre⟩:=hrel;subst hw;have HK:=zq hk;have HP:=zq hpre;have hk1:k≤l.length:=za;clear hk hpre
  by_cases hlt:k<l.length
  ·obtain ⟨b,o,rfl,hb,hc⟩:=h.at_ za
   have hc0:=hc k hlt;clear hc
   by_cases hq:s=l[k]
   ·have hqb:=zAn hq
    have HQ:=zq hq;clear hq;go_wp2;go_ret
    refine zAB.mk (zAx ?_) rfl
    rw [←HR.o];unfold posS;rw [List.findIdx?_eq_some_iff_getElem.2 ⟨hlt,by simp [HQ.o],fun j hj=>by simpa using HP.o j za hj⟩]
   ·have hqb:=zAm hq
    have HQ:=zq hq;clear hq;go_wp2
    go_roundg (gk - 1)
    case measure=>have:=HK.o;omega
    case rel =>
     refine ⟨rfl,k+1,zh,zi,fun j hj hjk=>?_⟩
     rcases aU j k with h1 | h1
     ·exact HP.o j hj h1
     ·obtain rfl:j=k:=by omega
      exact fun e=>HQ.o e.symm
  ·go_wp2
   go_ret
   refine zAB.mk (zAx ?_) rfl
   rw [←HR.o];unfold posS
   rw [List.findIdx?_eq_none_iff.2 fun x hx=>by
    obtain ⟨j,hj,rfl⟩:=aK hx
    simpa using HP.o j hj za]
theorem containsS_c (A:Option Addr) (c:Nat) (l:List BA) (s:BA) (w:World) (hn:l.length≤1000000) (h:Strs w A l) :
  Calls Tryz.prog 21 #[.slice A l.length c,.string s] w (zAB (.bool (zDt l s)) w):=by
 have hm:=posS_mem l s;generalize zDt l s=res at *;have HM:=zq hm;clear hm
 go_enter Tryz.func21,Tryz.ntmps21
 go_wp2_with (go_at_call 51;refine (indexS_c _ _ _ _ _ hn h).mono ?_;rintro e w' ⟨rfl,rfl⟩)
 go_ret
 exact zAB.mk (zAs HM.o) rfl
abbrev Ints:=Rd1 (fun n:Int=>Value.int .i64 n)
def cmpI (a b:Int):Int:=if a<b then -1 else if b<a then 1 else 0
theorem isNaN_c (a:Int) (w:World):Calls Tryz.prog 223 #[.int .i64 a] w (zAB (.bool false) w):=by
 have hb:(a != a)=false:=ze
 go_enter Tryz.func223,Tryz.ntmps223
 go_wp2;go_ret
 exact zAB.mk rfl rfl
theorem cmpI_c (a b:Int) (w:World):Calls Tryz.prog 206 #[.int .i64 a,.int .i64 b] w (zAB (.int .i64 (cmpI a b)) w):=by
 generalize hres:cmpI a b=res;have HR:=zq hres;clear hres
 by_cases h1:a<b
 ·have HS:Hid (res = -1):=by
   show res = -1
   rw [←HR.o];unfold cmpI;rw [aE h1]
  go_enter Tryz.func206,Tryz.ntmps206
  go_wp2_with (go_at_call 223;refine (isNaN_c _ _).mono ?_;rintro e w' ⟨rfl,rfl⟩)
  go_ret
  exact zAB.mk (zAx HS.o.symm) rfl
 ·by_cases h2:b<a
  ·have HS:Hid (res=1):=by
    show res=1
    rw [←HR.o];unfold cmpI;rw [aC h1,aE h2]
   go_enter Tryz.func206,Tryz.ntmps206
   go_wp2_with (go_at_call 223;refine (isNaN_c _ _).mono ?_;rintro e w' ⟨rfl,rfl⟩)
   go_ret
   exact zAB.mk (zAx HS.o.symm) rfl
  ·have HS:Hid (res=0):=by
    show res=0
    rw [←HR.o];unfold cmpI;rw [aC h1,aC h2]
   go_enter Tryz.func206,Tryz.ntmps206
   go_wp2_with (go_at_call 223;refine (isNaN_c _ _).mono ?_;rintro e w' ⟨rfl,rfl⟩)
   go_ret
   exact zAB.mk (zAx HS.o.symm) rfl
def orI:List Int→Int
 | []=>0
 | a::l=>if a=0 then orI l else a
theorem orI_at {l:List Int} {k:Nat} (hk:k<l.length) (hp:∀ j (h:j<l.length),j<k→l[j]=0) (h:l[k]≠0):orI l=l[k]:=by
 induction l generalizing k with
 | nil=>simp at hk
 | cons a t ih =>
  cases k with
  | zero=>simp at h;simp [orI,h]
  | succ k =>
   have h0:a=0:=hp 0 ze za;rw [orI,aE h0];exact ih (by simpa using hk) (fun j hj hjk=>hp (j+1) qe za) zn
theorem orI_none {l:List Int} (hp:∀ j (h:j<l.length),l[j]=0):orI l=0:=by
 induction l with
 | nil=>rfl
 | cons a t ih =>
  have h0:a=0:=hp 0 ze;rw [orI,aE h0];exact ih fun j hj=>hp (j+1) qe
def OrRel (w:World) (l:List Int) (m:Nat) (i:Value) (wr:World):Prop :=
 w=wr∧∃ k:Nat,k+m=l.length∧i = .int .i64 k∧∀ j (h:j<l.length),j<k→l[j]=0
theorem cmpOr_c (A:Option Addr) (c:Nat) (l:List Int) (w:World) (hn:l.length≤1000000) (h:Ints w A l) :
  Calls Tryz.prog 205 #[.slice A l.length c] w (zAB (.int .i64 (orI l)) w):=by
 generalize hres:orI l=res;have HR:=zq hres;clear hres
 go_enter Tryz.func205,Tryz.ntmps205
 go_wp2
 go_loopg [8] l.length (OrRel w l)
 case atStart=>exact ⟨rfl,0,za,rfl,fun j _ hj=>absurd hj za⟩
 case round =>
  obtain ⟨hw,k,hk,rfl,hpre⟩:=hrel;subst hw;have HK:=zq hk;have HP:=zq hpre;have hk1:k≤l.length:=za;clear hk hpre
  by_cases hlt:k<l.length
  ·obtain ⟨b,o,rfl,hb,hc⟩:=h.at_ za
   have hc0:=hc k hlt;clear hc
   by_cases hq:l[k]=0
   ·have hqb:(l[k] != 0)=false:=by simpa using hq
    have HQ:=zq hq;clear hq;go_wp2
    go_roundg (gk - 1)
    case measure=>have:=HK.o;omega
    case rel =>
     refine ⟨rfl,k+1,zh,zi,fun j hj hjk=>?_⟩
     rcases aU j k with h1 | h1
     ·exact HP.o j hj h1
     ·obtain rfl:j=k:=by omega
      exact HQ.o
   ·have hqb:(l[k] != 0)=true:=by simpa using hq
    have HQ:=zq hq;clear hq;go_wp2;go_ret
    exact zAB.mk (zAx (by rw [←HR.o,orI_at hlt HP.o HQ.o])) rfl
  ·go_wp2
   go_ret
   exact zAB.mk (zAx (by rw [←HR.o,orI_none fun j hj=>HP.o j hj za])) rfl
def cfS (x y:BA):Int:=Lib.compareBytes x.data.toList y.data.toList
theorem compare_less:∀ (a b:List UInt8),decide (Lib.compareBytes a b<0)=Op.bytesLess a b
 | [],[]=>by simp [Lib.compareBytes,Op.bytesLess]
 | [],_::_=>by simp [Lib.compareBytes,Op.bytesLess]
 | _::_,[]=>by simp [Lib.compareBytes,Op.bytesLess]
 | a::x,b::y=>by
  have ih:=compare_less x y;rw [Lib.compareBytes,Op.bytesLess]
  by_cases h1:a<b
  ·simp [h1]
  ·by_cases h2:b<a
   ·have h3:¬ a=b:=fun e=>by subst e;exact h1 h2
    simp [h1,h2,h3]
   ·have h3:a=b:=UInt8.le_antisymm (UInt8.not_lt.1 h2) (UInt8.not_lt.1 h1)
    subst h3;simp only [h1,eD];rw [ih];simp
theorem cfS_lt (x y:BA):decide (cfS x y<0)=slt x y:=by
 unfold cfS slt;rw [compare_less,Dw.toList_eq,Dw.toList_eq]
theorem compareS_c (x y:BA) (w:World):Calls Tryz.prog 207 #[.string x,.string y] w (zAB (.int .i64 (cfS x y)) w):=by
 have h:=Any.strings_Compare Tryz.lays106 x y w
 change Calls Tryz.prog 207 _ _ _ at h
 exact h.mono fun _ _ ⟨he,hw⟩=>⟨he,hw.symm⟩
def Shs (w:World) (A:Option Addr) (l:List Sh):Prop :=
 0<l.length→∃ b o:Nat,A=some ⟨b,o,none⟩∧∀ i (h:i<l.length),w.cell? ⟨b,o+i*3,none⟩=some (.string (l[i]).pt)∧w.cell? ⟨b,o+i*3+1,none⟩=some (.string (l[i]).nu)∧w.cell? ⟨b,o+i*3+2,none⟩=some (.string (l[i]).de)
theorem Shs.at_ {w:World} {A:Option Addr} {l:List Sh} (h:Shs w A l) (hl:0<l.length):∃ b o:Nat,A=some ⟨b,o,none⟩∧b<w.heap.size∧∀ i (h:i<l.length),w.cell? ⟨b,o+i*3,none⟩=some (.string (l[i]).pt)∧w.cell? ⟨b,o+i*3+1,none⟩=some (.string (l[i]).nu)∧w.cell? ⟨b,o+i*3+2,none⟩=some (.string (l[i]).de):=by
 obtain ⟨b,o,rfl,hc⟩:=h hl;exact ⟨b,o,rfl,World.block_lt_of_cell? w _ (hc 0 hl).1,hc⟩
theorem Shs.below {w w':World} {A:Option Addr} {l:List Sh} (h:Shs w A l) (hb:Below w.heap.size w w'):Shs w' A l:=fun hl=>by
 obtain ⟨b,o,rfl,hlt,hc⟩:=h.at_ hl;refine ⟨b,o,rfl,fun i hi=>?_⟩
 rw [hb.cell hlt,hb.cell hlt,hb.cell hlt];exact hc i hi
abbrev deC (d:De):Array Value:=#[.string d.id,.int .i64 d.day,.int .i64 d.kd,.string d.th,.string d.fr,.string d.to_,.string d.nu,.string d.de,.bool d.ex,.bool d.sb,.slice d.arA d.ar.length d.arc,.slice d.usA d.us.length d.usc,.int .i64 d.bg,.int .i64 d.en,.slice d.shA d.sh.length d.shc,.string d.ot]
abbrev deV (d:De):Value:=.agg (deC d)
structure DeOk (w:World) (d:De):Prop where
 ars:Ars w d.arA d.ar
 uses:Strs w d.usA d.us
 shs:Shs w d.shA d.sh
 lens:d.ar.length≤140737488355328∧d.us.length≤140737488355328∧d.sh.length≤140737488355328
 strs:d.id.size≤9223372036854775807∧d.th.size≤9223372036854775807∧d.fr.size≤9223372036854775807∧d.to_.size≤9223372036854775807∧d.nu.size≤9223372036854775807∧d.de.size≤9223372036854775807
 shz:∀ s∈d.sh,s.pt.size≤9223372036854775807∧s.nu.size≤9223372036854775807∧s.de.size≤9223372036854775807
theorem DeOk.below {w w':World} {d:De} (h:DeOk w d) (hb:Below w.heap.size w w'):DeOk w' d:=⟨h.ars.below hb,h.uses.below hb,h.shs.below hb,h.lens,h.strs,h.shz⟩
theorem isDay_c (n:Int) (w:World):Calls Tryz.prog 68 #[.int .i64 n] w (zAB (.bool (zCr n)) w):=by
 by_cases h1:0≤n
 ·by_cases h2:n≤200000
  ·have hv:zCr n=true:=by simp [zCr,h1,h2]
   rw [hv];have HV:=zq hv;clear hv
   go_enter Tryz.func68,Tryz.ntmps68
   go_wp2;go_ret
   exact zAB.mk rfl rfl
  ·have hv:zCr n=false:=by simp [zCr,h2]
   rw [hv];have HV:=zq hv;have h2':200000<n:=za;clear hv h2
   go_enter Tryz.func68,Tryz.ntmps68
   go_wp2;go_ret
   exact zAB.mk (zAs (cX za)) rfl
 ·have hv:zCr n=false:=by simp [zCr,h1]
  rw [hv];have HV:=zq hv;have h1':n<0:=za;clear hv h1
  go_enter Tryz.func68,Tryz.ntmps68
  go_wp2;go_ret
  exact zAB.mk rfl rfl
def kindB (n:Int):Bool:=decide (1≤n)&&decide (n≤5)
theorem isKindD_c (n:Int) (w:World):Calls Tryz.prog 147 #[.int .i64 n] w (zAB (.bool (kindB n)) w):=by
 by_cases h1:1≤n
 ·by_cases h2:n≤5
  ·have hv:kindB n=true:=by simp [kindB,h1,h2]
   rw [hv];have HV:=zq hv;clear hv
   go_enter Tryz.func147,Tryz.ntmps147
   go_wp2;go_ret
   exact zAB.mk rfl rfl
  ·have hv:kindB n=false:=by simp [kindB,h2]
   rw [hv];have HV:=zq hv;have h2':5<n:=za;clear hv h2
   go_enter Tryz.func147,Tryz.ntmps147
   go_wp2;go_ret
   exact zAB.mk (zAs (cX za)) rfl
 ·have hv:kindB n=false:=by simp [kindB,h1]
  rw [hv];have HV:=zq hv;have h1':n<1:=za;clear hv h1
  go_enter Tryz.func147,Tryz.ntmps147
  go_wp2;go_ret
  exact zAB.mk rfl rfl
def deCmp (a b:De):Int:=orI [cmpI a.day b.day,cfS a.id b.id]
theorem deCmp_lt (a b:De):decide (deCmp a b<0)=deLt a b:=by
 unfold deCmp deLt cmpI
 rcases Int.lt_trichotomy a.day b.day with h | h | h
 ·simp [h,orI]
 ·rw [h]
  have e1:=cfS_lt a.id b.id;rw [←e1]
  by_cases hz:cfS a.id b.id=0
  ·simp [orI,hz]
  ·simp [orI,hz]
 ·have h1:¬ a.day<b.day:=by omega
  have h2:¬ a.day=b.day:=za;simp [orI,h,h1,h2]
theorem ints_twoR (w:World) (a b:Int) (t:TypeId):Ints (w.alloc (.cells #[.int .i64 a,.int .i64 b] t)) (some ⟨w.heap.size,0,none⟩) [a,b]:=fun _=>by
 refine ⟨w.heap.size,0,rfl,fun i hi=>?_⟩
 have h2:i=0∨i=1:=by simp at hi;omega
 rcases h2 with rfl | rfl
 ·exact (Bx.new w _ t).cell rfl
 ·exact (Bx.new w _ t).cell rfl
theorem compareDeeds_c (a b:De) (w:World):Calls Tryz.prog 146 #[deV a,deV b] w (zAe (.int .i64 (deCmp a b)) w):=by
 have HX:Hid (Bx ((w.alloc (.cells (deC a) 52)).alloc (.cells (deC b) 52)) w.heap.size (deC a) 52):=(Bx.new _ _ _).alloc _;have HY:Hid (Bx ((w.alloc (.cells (deC a) 52)).alloc (.cells (deC b) 52)) (w.heap.size+1) (deC b) 52):=Bx.new1 _ _ _ _;have HB:Hid (Below w.heap.size w ((w.alloc (.cells (deC a) 52)).alloc (.cells (deC b) 52))):=((aS w.heap.size w).alloc (aB _) _).alloc ze _;obtain ⟨W,hW⟩:∃ W,W=(w.alloc (.cells (deC a) 52)).alloc (.cells (deC b) 52):=⟨_,rfl⟩;rw [←hW] at HX HY HB;unfold deCmp;have HC:=zq (fun W'=>cmpI_c a.day b.day W')
 have HS:=zq (fun W'=>compareS_c a.id b.id W')
 go_enter Tryz.func146,Tryz.ntmps146
 go_wp2_with fail
 rw [←hW];clear hW;have x0:=HX.o.c 0 rfl;have x1:=HX.o.c 1 rfl;have y0:=HY.o.c 0 rfl;have y1:=HY.o.c 1 rfl;generalize cmpI a.day b.day=z1 at *;generalize cfS a.id b.id=z2 at *
 have ho:∀ W':World,Calls Tryz.prog 205 #[.slice (some ⟨W'.heap.size,0,none⟩) 2 2] (W'.alloc (.cells #[.int .i64 z1,.int .i64 z2] 3)).drew (zAB (.int .i64 (orI [z1,z2])) (W'.alloc (.cells #[.int .i64 z1,.int .i64 z2] 3)).drew) :=
  fun W'=>cmpOr_c (some ⟨W'.heap.size,0,none⟩) 2 [z1,z2] _ ze (Rd1.drew (ints_twoR W' z1 z2 _))
 have HO:=zq ho;clear ho;refine wp_region_still_tail 10 zc zc ?_
 simp only [bW,dO,dP,dF]
 iterate 4 still_step
 still_call ((HC.o _).mono (fun _ _ h=>⟨h.1,h.2.symm⟩))
 iterate 4 still_step
 still_call ((HS.o _).mono (fun _ _ h=>⟨h.1,h.2.symm⟩))
 refine wpStill_nil ?_
 change wpList _ _ _ _ _ W.drew
 clear x0 x1 y0 y1 HC HS
 go_wp2_with fail
 with_reducible refine (HO.o W).mono ?_
 rintro e w3 ⟨rfl,rfl⟩;have HB3:Hid (Below w.heap.size w (W.alloc (.cells #[.int .i64 z1,.int .i64 z2] 3)).drew):=zAd (HB.o.alloc HB.o.size _) 1;go_wp2;go_ret
 exact zAe.mk rfl HB3.o
def fldC (k:Int):Array Value :=
 if k=1 then #[.bool true,.bool false,.bool false,.bool false,.bool false,.bool false,.bool false,.bool true,.bool false]
 else if k=2 then #[.bool true,.bool true,.bool true,.bool true,.bool false,.bool true,.bool true,.bool false,.bool false]
 else if k=3 then #[.bool true,.bool true,.bool true,.bool false,.bool true,.bool true,.bool true,.bool false,.bool false]
 else if k=4 then #[.bool false,.bool false,.bool false,.bool false,.bool false,.bool false,.bool false,.bool false,.bool true]
 else #[.bool false,.bool true,.bool false,.bool false,.bool false,.bool false,.bool false,.bool true,.bool false]
theorem zCW (k:Int) (w:World) (hk:1≤k∧k≤5):Calls Tryz.prog 63 #[.int .i64 k] w (zAe (.agg (fldC k)) w):=by
 have h5:k=1∨k=2∨k=3∨k=4∨k=5:=za
 rcases h5 with rfl | rfl | rfl | rfl | rfl
 all_goals
  clear hk
  go_enter Tryz.func63,Tryz.ntmps63
  go_wp2;refine dY (v:=.agg (fldC _)) (by simp [results,Tryz.results63,go_sem];rfl) rfl ⟨rfl,?_⟩
  exact (aS w.heap.size w).alloc (aB _) _
end Go.Proofs.YtieoifkdobcpiaaGreatDoor
namespace Dw
open Go Go.RowKit
def RdK {α:Type} (enc:α→List Value) (w:World) (A:Option Addr) (l:List α):Prop :=
 0<l.length→∃ b o:Nat,A=some ⟨b,o,none⟩∧∀ j v,(l.flatMap enc)[j]?=some v→w.cell? ⟨b,o+j,none⟩=some v
theorem flat_cells {α:Type} {enc:α→List Value} {k:Nat} (hk:∀ x,(enc x).length=k) {w:World} {b:Nat}:∀ (l:List α) (o:Nat),
  (∀ i (h:i<l.length) c v,(enc l[i])[c]?=some v→w.cell? ⟨b,o+i*k+c,none⟩=some v)→∀ j v,(l.flatMap enc)[j]?=some v→w.cell? ⟨b,o+j,none⟩=some v
 | [],_,_,j,v,h=>by simp at h
 | a::t,o,hc,j,v,h=>by
  rw [List.flatMap_cons] at h
  by_cases hj:j<k
  ·rw [List.getElem?_append_left (by rw [hk];exact hj)] at h
   have:=hc 0 ze j v h
   simpa using this
  ·rw [List.getElem?_append_right (by rw [hk];omega),hk] at h
   have:=flat_cells hk t (o+k) (fun i hi c u hu=>by
    have h2:=hc (i+1) zg c u (by simpa using hu)
    rwa [show o+(i+1)*k+c=o+k+i*k+c by rw [bD];omega] at h2) (j - k) v h
   rwa [show o+k+(j - k)=o+j by omega] at this
theorem flat_len {α:Type} {enc:α→List Value} {k:Nat} (hk:∀ x,(enc x).length=k):∀ (l:List α),(l.flatMap enc).length=l.length*k
 | []=>ze
 | a::t=>by rw [List.flatMap_cons,dA,hk,flat_len hk t,aY,bD];omega
theorem flat_at {α:Type} {enc:α→List Value} {k:Nat} (hk:∀ x,(enc x).length=k):∀ (l:List α) (i:Nat) (h:i<l.length) (c:Nat),c<k→(l.flatMap enc)[i*k+c]?=(enc l[i])[c]?
 | [],i,h,_,_=>by simp at h
 | a::t,0,_,c,hc=>by
  rw [List.flatMap_cons,List.getElem?_append_left (by rw [hk];omega)];simp
 | a::t,i+1,h,c,hc=>by
  rw [List.flatMap_cons,List.getElem?_append_right (by rw [hk,bD];omega),hk,show (i+1)*k+c - k=i*k+c by rw [bD];omega,flat_at hk t i zn c hc]
  simp
theorem addN (b o j:Nat):(⟨b,o,none⟩:Addr).add j=⟨b,o+j,none⟩:=by unfold Addr.add;split<;>simp_all
theorem wpList_pushK {P:Program} {α:Type} {enc:α→List Value} {k:Nat} (hk:∀ x,(enc x).length=k) (hf:∀ x,∀ u∈enc x,u.oneCell'=true) {ops:Array Oper} {rest:List Oper} {o:Oper} {a:Act} {w:World} {Q:Exit→Act→World→Prop}
  {e:TypeId} {z:Value} {bytes:Nat} (s x:Operand) (t:TypeId) (hT:ElemT P t e z k bytes) (hgd:o.guard=none) (ho:o.op = .call { callee:=.builtin .append,args:=#[s,x],argTypes:=#[t,t] })
  (base:Nat) (v:Value) (l:List α) (hs:a.eval s=v) (hown:zAT enc k w base e v l)
  (A:Option Addr) (m cp:Nat) (ys:List α) (hm:m=ys.length) (hx:a.eval x = .slice A m cp) (hr:RdK enc w A ys) (hA:A≠none∨ys=[])
  (hlen:l.length+ys.length≤maxLen) (hbytes:(l.length+ys.length)*bytes≤140737488355328) (hbase:base≤w.heap.size)
  (h:∀ v' w',zAT enc k w' base e v' (l++ys)→w.grownBy w' v.ownBlock→Below base w w'→(v'.ownBlock=v.ownBlock∨v'.ownBlock=some w.heap.size)→wpList P ops Q rest (a.put o.dst v') w'):wpList P ops Q (o::rest) a w:=by
 obtain ⟨i,hi,hz0,hz1,hz2⟩:=info_parts hT.info;subst hm
 have hfin:∀ v' w',w'.ownsRow base e k v' (l.length+ys.length) (l.flatMap enc++ys.flatMap enc)→zAT enc k w' base e v' (l++ys):=fun v' w' h1=>by
  unfold zAT;rw [dA,List.flatMap_append];exact h1
 have hbel:∀ w',w.grownBy w' v.ownBlock→Below base w w':=fun w' hg=>(aS _ _).grown hg hbase fun j hj=>(aT hown j hj).1
 cases A with
 | none =>
  have hy:ys=[]:=hA.resolve_left (fun h=>h rfl)
  subst hy;refine wpList_plain hgd fun _ hK=>?_
  have hrun:(Builtin.append_ #[t,t] o.type #[v,.slice none 0 cp]).run P w = .ok v w:=by
   rcases hown.2 with ⟨rfl,_⟩ | ⟨g,cap,cur,rfl,_,_,hnc,_⟩
   ·simp [Builtin.append_,eE hT.ty,Go.sizeOf,typeInfo,hi,Builtin.lenOf,Builtin.firstCells]
   ·simp [Builtin.append_,eE hT.ty,Go.sizeOf,typeInfo,hi,Builtin.lenOf,Builtin.firstCells,hnc,storeCells]
  unfold Oper.wp execOp;simp only [eF] at hx;simp only [ho,resolve,invoke,builtin,Sem.run_bind,Sem.run_pure,Result.andThen_ok,List.map_toArray,eG,List.map_nil,hs,hx,hrun];exact hK _ _ (h v w (by simpa using hown) (World.grownBy.refl w _) (hbel w (World.grownBy.refl w _)) (.inl rfl))
 | some ad =>
  refine wpList_append_own_at _ hgd s x t ho base e i z k bytes hT.ty hi hz0 hz1 hz2 hT.zs hT.pos v l.length _ hs hown ad ys.length cp (ys.flatMap enc) hx (flat_len hk ys) ?_ ?_ hlen hbytes hbase ?_
  ·intro j u hj
   have hjl:0<ys.length:=by
    refine eH fun e=>?_
    rw [dQ e] at hj;simp at hj
   obtain ⟨b,o,h1,hc⟩:=hr hjl
   injection h1 with h1
   subst h1;rw [addN];exact hc j u hj
  ·intro u hu
   obtain ⟨y,_,hy⟩:=List.mem_flatMap.1 hu;exact hf y u hy
  ·intro v' w' h1 h2 _ h4
   exact h v' w' (hfin v' w' h1) h2 (hbel w' h2) h4
theorem zAT.rdk {α:Type} {enc:α→List Value} {k:Nat} {w:World} {base:Nat} {e:TypeId} {v:Value} {l:List α} (h:zAT enc k w base e v l):∃ A c,v = .slice A l.length c∧RdK enc w A l:=by
 rcases h.2 with ⟨rfl,hn⟩ | ⟨g,cap,cur,rfl,hb,hgg,hnc,_,hsz,htake⟩
 ·exact ⟨none,0,by rw [hn],fun hl=>za⟩
 ·refine ⟨_,_,rfl,fun _=>⟨g,0,rfl,fun j v hv=>?_⟩⟩
  rw [←htake,List.getElem?_take] at hv
  split at hv
  ·rw [aQ,aR w g j _ _ _ hgg]
   simpa using hv
  ·cases hv
section
variable {w:World} {A:Option Addr}
theorem RdK.of1 {α:Type} {f:α→Value} {l:List α} (h:Rd1 f w A l):RdK (fun x=>[f x]) w A l:=fun hl=>by
 obtain ⟨b,o,rfl,hc⟩:=h hl;refine ⟨b,o,rfl,flat_cells (k:=1) (fun _=>rfl) l o fun i hi c v hv=>?_⟩
 match c,hv with
 | 0,hv=>simp at hv;subst hv;rw [cA,cZ];exact hc i hi
end
end Dw
