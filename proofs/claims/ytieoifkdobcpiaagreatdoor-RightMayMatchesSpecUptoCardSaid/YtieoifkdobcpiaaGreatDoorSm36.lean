/- Parts of the proof, joined: Package right: parts: list; Shares. Plain facts of the law RightShares. -/
import Derived.Test.YtieoifkdobcpiaaGreatDoorSm35
import Derived.Deep.Upon
set_option maxRecDepth 100000
set_option maxHeartbeats 8000000
namespace Go.Proofs.YtieoifkdobcpiaaGreatDoor
open Go.RowKit Dw
section
variable {rs:List Rg} {us:List BA} {ds:List De} {th pl use:BA} {day:Int}
end
theorem insN_len (p:BA):∀ l:List BA,(zDW p l).length≤l.length+1
 | []=>by simp [zDW]
 | a::l=>by
  unfold zDW;have:=insN_len p l
  split
  ·simp
  ·split
   ·simp
   ·simp;omega
theorem zDE:∀ (l:List Sh) (K:List BA),(zBk l K).length≤K.length+l.length
 | [],_=>aB _
 | s::l,K=>by
  have h1:=zDE l (zDW s.pt K);have h2:=insN_len s.pt K
  show (zBk l (zDW s.pt K)).length≤_
  simp only [aY];omega
theorem keys_len {rs:List Rg} {us:List BA} {ds:List De} (h:zCI rs us ds=0) (i:Nat) (th use:BA) (day:Int) (n:Nat) (hn:n≤ds.length):(zBD rs ds i th use day n).length≤1000000:=by
 have hsl:∀ d∈ds,d.sh.length≤20:=fun d hd=>by
  obtain ⟨k,hk,rfl⟩:=aK hd;exact (zDT ((zAZ h).2 k hk) (zAZ h).1).2.2
 have hdl:=(zCs h).2.2
 have h1:∀ (l:List De) (K:List BA),(∀ d∈l,d∈ds)→(l.foldl (zAJ th day) K).length≤K.length+20*l.length:=fun l=>by
  induction l with
  | nil=>exact fun K _=>dK _ _
  | cons d l ih =>
   intro K hd;have a:=ih (zAJ th day K d) fun e he=>hd e (aW _ he)
   have b:(zAJ th day K d).length≤K.length+20:=by
    unfold zAJ
    split
    ·have:=zDE d.sh K
     have:=hsl d (hd d aX);omega
    ·omega
   show (l.foldl (zAJ th day) (zAJ th day K d)).length≤_
   rw [aY];omega
 have h2:∀ (l:List De) (K:List BA),(∀ d∈l,d∈ds)→(l.foldl (zBd (zDO rs ds i th use day)) K).length≤K.length+22*l.length:=fun l=>by
  induction l with
  | nil=>exact fun K _=>dK _ _
  | cons d l ih =>
   intro K hd;have a:=ih (zBd (zDO rs ds i th use day) K d) fun e he=>hd e (aW _ he)
   have b:(zBd (zDO rs ds i th use day) K d).length≤K.length+22:=by
    unfold zBd zAw
    split
    ·split
     ·have h3:=zDE d.sh (zDW d.fr K)
      have h4:=insN_len d.fr K;have:=hsl d (hd d aX);omega
     ·have h3:=insN_len d.to_ (zDW d.fr K)
      have h4:=insN_len d.fr K;omega
    ·omega
   show (l.foldl (zBd _) (zBd _ K d)).length≤_
   rw [aY];omega
 have e1:=h2 (ds.take n) (zDY th day ds) fun d hd=>bZ hd
 have e2:=h1 ds [] fun d hd=>hd
 have e3:(ds.take n).length≤200:=js;have e4:(zDY th day ds).length≤0+20*ds.length:=e2;unfold zBD;omega
theorem szQ_in {q:Rat} {M k:Nat} (h0:0≤q) (h1:q≤1) (hd:q.den∣M) (hz:M≠0) (hM:M<10 ^ k):SzQ k q:=by
 have g1:=(Rat.le_iff q 1).1 h1;have g2:=Rat.num_nonneg.2 h0;have g3:=Nat.le_of_dvd (eH hz) hd;have g4:q.num≤q.den:=by simpa using g1
 exact szQ_of (M:=M) ⟨za,g3⟩ hM
theorem sumF_app (a b:List BA) (f:zBm):zBQ (a++b) f=zBQ a f+zBQ b f:=by
 induction a with
 | nil=>rw [List.nil_append,sumF_nil];grind
 | cons x a ih=>rw [List.cons_append,zBb,zBb,ih];grind
theorem sumF_den {f:zBm} {M:Nat} (hM:M≠0) (h:∀ p,(f p).den∣M):∀ N:List BA,(zBQ N f).den∣M
 | []=>Nat.one_dvd _
 | p::N=>den_add hM (h p) (sumF_den hM h N)
theorem sumF_takeLe {f:zBm} (h:∀ p,0≤f p) (N:List BA) (j:Nat):zBQ (N.take j) f≤zBQ N f:=by
 have e:=sumF_app (N.take j) (N.drop j) f;rw [bQ] at e;have:=sum_ge (N:=N.drop j) h
 grind
theorem sumF_snoc {f:zBm} {N:List BA} {j:Nat} (h:j<N.length):zBQ (N.take (j+1)) f=zBQ (N.take j) f+f N[j]:=by
 rw [bM h,sumF_app,zBb,sumF_nil]
 grind
theorem sums_sz {K L:List BA} {M:Nat} {f:zBm} (h:HoldB K M f) (hs:zBQ L f≤1) (hM:M<10 ^ 10000000) (j:Nat):0≤zBQ (L.take j) f∧SzQ 10000000 (zBQ (L.take j) f) :=
 ⟨sum_ge h.ok.pos,szQ_in (sum_ge h.ok.pos) (by have:=sumF_takeLe h.ok.pos L j;grind) (sumF_den h.nz h.den _) h.nz hM⟩
theorem ho_q {l:List Ho} {L:List BA} {f:zBm} (h:prH l=zCT L f) {j:Nat} (hj:j<l.length):∃ h2:j<L.length,(l[j]).q=f L[j]∧(l[j]).pt=L[j]:=by
 have hlen:=zDG h;have h2:j<L.length:=za;have e:=bH (fun x:List (BA×Rat)=>x[j]?) h
 simp only [prH,zCT,List.getElem?_map,List.getElem?_eq_getElem hj,List.getElem?_eq_getElem h2,eO,eN,Prod.mk.injEq] at e;exact ⟨h2,e.2.trans zk,e.1⟩
def SmR (w:World) (s:Nat) (L:List BA) (f:zBm) (n m:Nat) (iv:Value) (wr:World):Prop :=
 ∃ (j:Nat) (A:Option Addr) (c:Nat) (A2:Option Addr) (c2:Nat),j+m=n∧iv = .int .i64 (j:Nat)∧Bx wr s (nuC false A c (zBQ (L.take j) f).num.natAbs A2 c2 (zBQ (L.take j) f).den) 45 ∧
  Lt wr A c (zBQ (L.take j) f).num.natAbs∧Lt wr A2 c2 (zBQ (L.take j) f).den∧Bx wr w.heap.size zBE 45∧Below w.heap.size w wr
theorem sumR_c (A:Option Addr) (c:Nat) (l:List Ho) (K L:List BA) (f:zBm) (M:Nat) (w:World) (hr:RdK eHo w A l) (hk:HoOk w l) (hp:prH l=zCT L f) (hb:HoldB K M f) (hs:zBQ L f≤1) (hM:M<10 ^ 10000000) (hl:l.length≤1000000) :
  Calls Tryz.prog 57 #[.slice A l.length c] w (zDk (zBQ L f) w):=by
 have HR:=zq hr;have HK:=zq hk;have HP:=zq (fun j (h:j<l.length)=>ho_q hp h)
 have HSZ:=zq (fun j=>sums_sz hb hs hM j)
 have HPS:=zq hb.ok.pos;have HZQ:Hid (∀ p,SzQ 50000000 (f p)):=fun p=>(szQ_of (hb.num p) hM).le zd
 have HLL:=zq (zDG hp);have hbw:Below w.heap.size w (w.alloc (.cells zBE 45)):=(aS _ _).alloc (aB _) _;have HX:Hid (Bx (w.alloc (.cells zBE 45)) w.heap.size zBE 45):=Bx.new _ _ _;obtain ⟨W,hW⟩:∃ W,W=w.alloc (.cells zBE 45):=⟨_,rfl⟩;rw [←hW] at hbw HX;have HB:=zq hbw;have hwl:w.heap.size<W.heap.size:=HX.o.lt;clear hr hk hp hb hs hM hbw
 go_enter Tryz.func57,Tryz.ntmps57
 go_upto_region 1 with fail
 rw [←hW];clear hW
 go_wp2_with fail
 with_reducible refine (Int_0 W).mono ?_
 rintro e w2 ⟨A1,c1,A2,c2,rfl,n1,n2,hb2⟩;have HX2:=zq (HX.o.below hb2);have HB2:=zq (zAa HB.o hb2);have hs2:=hb2.size;have N1:=zq n1;have N2:=zq n2;clear hb2 n1 n2 HX HB;go_upto_region 2 with fail
 obtain ⟨w3,hw3⟩:∃ w3,w3=w2.alloc (.cells #[.bool false,.slice A1 (zAc BT 0).length c1,.slice A2 (zAc BT 1).length c2] 45):=⟨_,rfl⟩;rw [←hw3];have hba:Below w2.heap.size w2 w3:=by rw [hw3];exact (aS _ _).alloc (aB _) _
 have HST:Hid (SmR w w2.heap.size L f l.length l.length (.int .i64 0) w3):=by
  refine ⟨0,A1,c1,A2,c2,za,rfl,?_,N1.out.below hba,N2.out.below hba,HX2.o.below hba,zAa HB2.o hba⟩
  rw [hw3];exact Bx.new _ _ _
 clear hw3 hba HX2 HB2 N1 N2;go_wp2
 go_loopg [4] l.length (SmR w w2.heap.size L f l.length)
 case atStart=>exact HST.o
 clear HST
 case round =>
  obtain ⟨j,A3,c3,A4,c4,hjm,rfl,hs,n1,n2,hz,hb⟩:=hrel;have HJ:=zq hjm;have HS:=zq hs;have N1:=zq n1;have N2:=zq n2;have HZ:=zq hz;have HB:=zq hb;clear hjm hs n1 n2 hz hb
  by_cases hlt:j<l.length
  ·obtain ⟨b,o,hA,hc⟩:=HR.o za
   subst hA;have hrg:=ho_at hc hlt;have hkx:=HK.o _ (aJ hlt);obtain ⟨hj2,hq,_⟩:=HP.o j hlt;have HSN:=zq (sumF_snoc (f:=f) hj2);rw [←hq] at HSN;have HQ0:Hid (0≤(l[j]).q):=by show _≤_;rw [hq];exact HPS.o _
   have HQZ:Hid (SzQ 50000000 (l[j]).q):=by show SzQ _ _;rw [hq];exact HZQ.o _
   have HSJ:=zq (HSZ.o j);clear hq;generalize l[j]=x at *;obtain ⟨pt,t,b2,q2⟩:=x;obtain ⟨A5,c5,A6,c6,e3,e4,h5,h6⟩:=hkx;simp only at e3 e4 HSN HQ0 HQZ h5 h6 hrg;subst e3;subst e4;have x1:wr.cell? ⟨b,o+j*4+1,none⟩=some (.bool false):=zAg HB.o (hrg 1 _ rfl);have x2:wr.cell? ⟨b,o+j*4+1+1,none⟩=some (.slice A5 (zAc BT q2.num.natAbs).length c5):=zAg HB.o (hrg 2 _ rfl);have x3:wr.cell? ⟨b,o+j*4+1+2,none⟩=some (.slice A6 (zAc BT q2.den).length c6):=zAg HB.o (hrg 3 _ rfl);obtain ⟨S,hS⟩:∃ S,S=zBQ (L.take j) f:=⟨_,rfl⟩;rw [←hS] at HS N1 N2 HSN HSJ;have H5:=zq (h5.below HB.o);have H6:=zq (h6.below HB.o);clear hrg hc h5 h6 hS;obtain ⟨s0,s1,s2⟩:=HS.o.t;go_upto_region 5 with fail
   refine wp_region_still_tail 6 zc zc ?_
   simp only [bW,dO,dP,dF]
   repeat still_step
   refine wpStill_nil ?_
   change wpList _ _ _ _ _ wr.drew
   have HPL:Hid (Calls Tryz.prog 16 #[nuV false A3 c3 S.num.natAbs A4 c4 S.den,nuV false A5 c5 q2.num.natAbs A6 c6 q2.den] wr.drew (zDk (S+q2) wr.drew)) :=
    PlusQ_c A3 A4 A5 A6 c3 c4 c5 c6 S q2 wr.drew N1.out.drew N2.out.drew H5.o.drew H6.o.drew HSJ.o.1 HQ0.o (HSJ.o.2.le zd) HQZ.o
   clear s0 s1 s2 x1 x2 x3 H5 H6 N1 N2
   go_wp2_with fail
   with_reducible refine HPL.o.mono ?_
   rintro e v2 ⟨A8,c8,A9,c9,rfl,h8,h9,hb⟩;have HS2:=zq (HS.o.drew.below hb);have HZ2:=zq (HZ.o.drew.below hb);have HB2:=zq (zAa (zAd HB.o 1) hb);have H8:=zq h8;have H9:=zq h9;obtain ⟨s0,s1,s2⟩:=HS2.o.t;have sf:=HS2.o.frozen;have sl:=HS2.o.lt;clear hb h8 h9 HS HZ HB HPL;go_wp2
   go_roundg (gk - 1)
   case measure=>have:=HJ.o;omega
   case rel =>
    refine ⟨j+1,A8,c8,A9,c9,yb,zi,?_,?_,?_,((HZ2.o.far zg _).far zg _).far zg _,((HB2.o.setCell zg _).setCell zg _).setCell zg _⟩
    ·rw [HSN.o];exact ((HS2.o.set 0 _).set 1 _).set 2 _
    ·rw [HSN.o];exact H8.o.setN HS2.o ze ze ze _ _ _ _ _ _ _
    ·rw [HSN.o];exact H9.o.setN HS2.o ze ze ze _ _ _ _ _ _ _
  ·have hje:j=l.length:=by have:=HJ.o;omega
   have he:L.take j=L:=cY (by have:=HLL.o;omega)
   rw [he] at HS N1 N2;clear he;obtain ⟨s0,s1,s2⟩:=HS.o.t;have sl:=HS.o.lt;have zf:=HZ.o.frozen;have zl:=HZ.o.lt;obtain ⟨z0,z1,z2⟩:=HZ.o.t;subst hje;go_wp2;refine dY (v:=nuV false A3 c3 (zBQ L f).num.natAbs A4 c4 (zBQ L f).den) (by simp [results,Tryz.results57,go_sem,z0,z1,z2]) rfl ⟨A3,c3,A4,c4,rfl,N1.out.setR HZ.o _ _ _ _ _,N2.out.setR HZ.o _ _ _ _ _,zBo HB.o za _ _ _⟩
theorem sumF_perm {a b:List BA} (f:zBm) (h:a.Perm b):zBQ a f=zBQ b f:=by
 induction h with
 | nil=>rfl
 | cons x _ ih=>rw [zBb,zBb,ih]
 | swap x y l=>rw [zBb,zBb,zBb,zBb];grind
 | trans _ _ h1 h2=>exact h1.trans h2
def ToR (w:World) (g s it:Nat) (f:zBm) (L:List (BA×Value)) (tot:Rat) (M:Nat) (m:Nat) (wr:World):Prop :=
 ∃ (R:List (BA×Value)) (q:Rat) (A:Option Addr) (c:Nat) (A2:Option Addr) (c2:Nat),R.length=m∧zBx Value.string wr it g L R∧q+zBQ (R.map (·.1)) f=tot∧0≤q∧q.den∣M ∧
  Bx wr s (raC A c q.num.natAbs A2 c2 q.den) 89∧Nt wr A c q.num.natAbs∧Nt wr A2 c2 q.den∧Bx wr w.heap.size zBX 89∧Below w.heap.size w wr
theorem pr_far {w:World} {it g:Nat} {L R:List (BA×Value)} (h:zBx Value.string w it g L R) {p:Addr} (h1:it≠p.block) (h2:g≠p.block) (v:Value):zBx Value.string (w.setCell p v) it g L R :=
 h.keep (cR w p v g h2) (cR w p v it h1)
theorem Nt.iter {w w':World} {A:Option Addr} {c n it g:Nat} {L R:List (BA×Value)} (h:Nt w A c n) (hp:zBx Value.string w it g L R) (hg:w.grownBy w' (some it)):Nt w' A c n:=h.grown hg fun k cs e hk e2=>by
 injection e2 with e2
 subst e2;obtain ⟨es,clk,since,c0,seen,_,_,_,_,_,h6,_⟩:=hp
 rcases hk with hk | ⟨o,x,hk⟩
 ·rw [h6] at hk;cases hk
 ·rw [no_iter_cell h6 o] at hk;cases hk
theorem Bx.iter {w w':World} {b it g:Nat} {cs:Array Value} {T:TypeId} {L R:List (BA×Value)} (h:Bx w b cs T) (hp:zBx Value.string w it g L R) (hg:w.grownBy w' (some it)):Bx w' b cs T :=
 (hg.block b h.lt fun e=>by
  injection e with e
  subst e;obtain ⟨es,clk,since,c0,seen,_,_,_,_,_,h6,_⟩:=hp;unfold Bx at h;rw [h6] at h;cases h).trans h
theorem total_c (g:Nat) (K:List BA) (f:zBm) (M:Nat) (w:World) (hp:zAI w g f) (hk:HoldB K M f) (hM:SzN 100000000 M):Calls Tryz.prog 32 #[.map (some g)] w (zDl (zBQ K f) w):=by
 have hpm:=hp;obtain ⟨L,h1,h2,h3⟩:=hp;have hgl:=h1.lt;have hLn:=h1.nodup
 have hLm:∀ p,p∈L.map (·.1)↔f p≠0:=fun p=>by
  rw [h2,List.mem_map]
  constructor
  ·rintro ⟨x,hx,rfl⟩;exact ⟨x.2,hx⟩
  ·rintro ⟨v,hv⟩;exact ⟨_,hv,rfl⟩
 have HSUM:Hid (zBQ (L.map (·.1)) f=zBQ K f):=sum_mono hLn hk.nd ⟨hk.ok.pos,fun p hp=>aL fun hn=>hp ((hLm p).2 hn)⟩ hk.ok
 have HK:=zq hk;have HLE:Hid (zBQ K f≤1):=hk.sum;have HSZ:=zq hM;have HH3:=zq h3;have HZ:Hid (Bx (w.alloc (.cells zBX 89)) w.heap.size zBX 89):=Bx.new _ _ _;have HB:Hid (Below w.heap.size w (w.alloc (.cells zBX 89))):=(aS _ _).alloc (aB _) _;obtain ⟨W,hW⟩:∃ W,W=w.alloc (.cells zBX 89):=⟨_,rfl⟩;rw [←hW] at HZ HB;have HH1:=zq h1;generalize zBQ K f=tot at *;have hwW:w.heap.size<W.heap.size:=HZ.o.lt;have HWH:Hid (∀ W,Calls Tryz.prog 34 #[.int .i64 0] W (zCB false 0 1 W)):=fun W=>Whole_c 0 W za
 clear hpm h1 h2 h3 hLn hLm hk hM
 go_enter Tryz.func32,Tryz.ntmps32
 go_upto_region 1 with fail
 rw [←hW];clear hW
 go_wp2_with fail
 with_reducible refine (HWH.o _).mono ?_
 rintro e w2 ⟨A,c,A2,c2,rfl,n1,n2,hb2⟩;have HB2:=zq (zAa HB.o hb2);have hs2:W.heap.size≤w2.heap.size:=hb2.size;have HBA:Hid (Below w2.heap.size w2 (w2.alloc (.cells (raC A c 0 A2 c2 1) 89))):=(aS _ _).alloc (aB _) _;have HZ2:=zq (HZ.o.below hb2);have HS3:Hid (Bx (w2.alloc (.cells (raC A c 0 A2 c2 1) 89)) w2.heap.size (raC A c 0 A2 c2 1) 89):=Bx.new _ _ _;have HN1:=zq (n1.below HBA.o);have HN2:=zq (n2.below HBA.o);go_upto_region 2 with fail
 obtain ⟨w3,hw3⟩:∃ w3,w3=w2.alloc (.cells (raC A c 0 A2 c2 1) 89):=⟨_,rfl⟩;rw [←hw3] at HBA HS3 HN1 HN2 ⊢;clear hb2 n1 n2 hw3 HB HZ;have HB3:=zq (zAa HB2.o HBA.o);have HZ3:=zq (HZ2.o.below HBA.o);have hs3:w2.heap.size<w3.heap.size:=HS3.o.lt;obtain ⟨o,hrun,hpr⟩:=zBx.start (P:=Tryz.prog) tMapP (HH1.o.below HB3.o);have HPR:=zq hpr;have hba:Below w3.heap.size w3 (w3.alloc o):=(aS _ _).alloc (aB _) _;have HBB:=zq hba;clear hpr hba;go_wp2;clear hrun
 go_loopg [] L.length (ToR w g w2.heap.size w3.heap.size f L tot M)
 case atStart =>
  refine ⟨L,0,A,c,A2,c2,rfl,HPR.o,?_,zd,Nat.one_dvd _,HS3.o.below HBB.o,HN1.o.below HBB.o,HN2.o.below HBB.o,HZ3.o.below HBB.o,zAa HB3.o HBB.o⟩
  rw [HSUM.o];grind
 clear HPR HBB HN1 HN2 HS3 HZ3 HBA HB2 HZ2 HB3 HH1
 case round =>
  obtain ⟨R,q,A3,c3,A4,c4,hm,hpr,hq,hq0,hqd,hs,n1,n2,hz,hb⟩:=hrel;have HM:=zq hm;have HQ:=zq hq;have HQ0:=zq hq0;have HQD:=zq hqd;have HS:=zq hs;have H1:=zq n1;have H2:=zq n2;have HZ:=zq hz;have HB:=zq hb;have HPR:=zq hpr;clear hm hpr hq hq0 hqd hs n1 n2 hz hb
  rcases zBx.next (P:=Tryz.prog) HPR.o str_inj za 0 with ⟨hR,hnx⟩ | ⟨x,R',w',hperm,hxL,hnx,hen,hpr',hg',hs'⟩
  ·have HE:Hid (q=tot):=by
    show _=_
    rw [←HQ.o,hR,List.map_nil,sumF_nil];grind
   obtain ⟨s0,s1,s2⟩:=HS.o.t;have sl:=HS.o.lt;have zf:=HZ.o.frozen;have zl:=HZ.o.lt;obtain ⟨z0,z1,z2⟩:=HZ.o.t;clear hR HQ HPR;go_wp2;refine dY (v:=raV false A3 c3 q.num.natAbs A4 c4 q.den) (by simp [results,Tryz.results32,go_sem,z0,z1,z2]) rfl ?_
   unfold zDl;rw [←HE.o];exact ⟨A3,c3,A4,c4,rfl,H1.o.setR HZ.o _ _ _,H2.o.setR HZ.o _ _ _,((HB.o.setCell ze _).setCell ze _).setCell ze _⟩
  ·obtain ⟨p,v⟩:=x
   obtain ⟨A5,c5,A6,c6,e,n5,n6⟩:=HH3.o p v hxL;subst e;have HB1:=zq (zCb HB.o HB.o.size hg' (show w.heap.size≤w3.heap.size by omega))
   have HPR1:=zq hpr';have HPM:=zq hperm;have HS1:=zq (HS.o.iter HPR.o hg');have HZ1:=zq (HZ.o.iter HPR.o hg');have H11:=zq (H1.o.iter HPR.o hg');have H21:=zq (H2.o.iter HPR.o hg');have N5:=zq (n5.below HB1.o);have N6:=zq (n6.below HB1.o);have hba:Below w'.heap.size w' (w'.alloc (.cells (raC A5 c5 (f p).num.natAbs A6 c6 (f p).den) 89)):=(aS _ _).alloc (aB _) _;have HXP:Hid (Bx (w'.alloc (.cells (raC A5 c5 (f p).num.natAbs A6 c6 (f p).den) 89)) wr.heap.size (raC A5 c5 (f p).num.natAbs A6 c6 (f p).den) 89):=by show Bx _ _ _ _;rw [←hs'];exact Bx.new _ _ _
   have hq1:q≤1:=by
    have h1:=HQ.o;have h2:=sum_ge (N:=R.map (·.1)) HK.o.ok.pos;have h3:=HLE.o
    grind
   have HQZ:Hid (SzQ 100000000 q):=szQ_le HQ0.o hq1 HQD.o HK.o.nz HSZ.o;have hw':w'.heap.size=wr.heap.size:=hs';clear hperm hxL hpr' hg' hs' n5 n6 HS HZ H1 H2 HPR HB hq1;go_upto_region 5 with fail
   obtain ⟨w4,hw4⟩:∃ w4,w4=w'.alloc (.cells (raC A5 c5 (f p).num.natAbs A6 c6 (f p).den) 89):=⟨_,rfl⟩;rw [←hw4] at hba HXP ⊢;clear hw4;have HS4:=zq (HS1.o.below hba);have HZ4:=zq (HZ1.o.below hba);have HB4:=zq (zAa HB1.o hba);have HP4:=zq (HPR1.o.below hba)
   have HAD:Hid (Calls Tryz.prog 75 #[raV false A3 c3 q.num.natAbs A4 c4 q.den,raV false A5 c5 (f p).num.natAbs A6 c6 (f p).den] w4 (zDl (q+f p) w4)) :=
    AddQ_c A3 A4 A5 A6 c3 c4 c5 c6 q (f p) w4 (H11.o.below hba) (H21.o.below hba) (N5.out.below hba) (N6.out.below hba) HQ0.o (HK.o.ok.pos p) HQZ.o (HK.o.sz HSZ.o p)
   obtain ⟨s0,s1,s2⟩:=HS4.o.t;obtain ⟨x0,x1,x2⟩:=HXP.o.t;clear hba HS1 HZ1 HB1 HPR1 H11 H21 N5 N6
   go_wp2_with fail
   with_reducible refine HAD.o.mono ?_
   rintro e w5 ⟨A7,c7,A8,c8,rfl,h7,h8,hb5⟩;have HS5:=zq (HS4.o.below hb5);have HZ5:=zq (HZ4.o.below hb5);have HB5:=zq (zAa HB4.o hb5);have HP5:=zq (HP4.o.below hb5);have H7:=zq h7;have H8:=zq h8;clear hb5 h7 h8 s0 s1 s2 x0 x1 x2 HAD HXP HS4 HZ4 HB4 HP4;obtain ⟨s0,s1,s2⟩:=HS5.o.t;have sf:=HS5.o.frozen;have sl:=HS5.o.lt;go_wp2
   go_roundg R'.length
   case measure=>have h1:=HPM.o.length_eq;have h2:=HM.o;rw [aY] at h1;omega
   case rel =>
    have e1:zBQ (R.map (·.1)) f=f p+zBQ (R'.map (·.1)) f:=by
     rw [sumF_perm f (HPM.o.map (·.1)),eG,zBb]
    refine ⟨R',q+f p,A7,c7,A8,c8,rfl,pr_far (pr_far (pr_far HP5.o zg zg _) zg zg _) zg zg _,?_,?_,den_add HK.o.nz HQD.o (HK.o.den p),((HS5.o.set 0 _).set 1 _).set 2 _,?_,?_,((HZ5.o.far zg _).far zg _).far zg _,?_⟩
    ·have:=HQ.o;rw [e1] at this;grind
    ·have h1:=HQ0.o;have h2:=HK.o.ok.pos p;grind
    ·exact H7.o.set3 s0 s1 s2 (nb_ _) (ns_ _ _ _) (ns_ _ _ _) _ _ _
    ·exact H8.o.set3 s0 s1 s2 (nb_ _) (ns_ _ _ _) (ns_ _ _ _) _ _ _
    ·exact ((HB5.o.setCell zg _).setCell zg _).setCell zg _
def scanD (party:BA) (d:De) (G:List BA):Option (List BA):=if d.to_=party then none else some (if (d.sb&&!zDt G d.to_)=true then G++[d.to_] else G)
def zDr (P:De→Bool) (party:BA):List De→List BA→Option (List BA)
 | [],G=>some G
 | d::l,G=>if P d=true then match scanD party d G with
  | none=>none
  | some G'=>zDr P party l G' else zDr P party l G
def scanF (party:BA):List De→List BA→Option (List BA)
 | [],G=>some G
 | d::l,G=>match scanD party d G with
  | none=>none
  | some G'=>scanF party l G'
theorem scanL_filter (P:De→Bool) (party:BA):∀ (l:List De) (G:List BA),zDr P party l G=scanF party (l.filter P) G
 | [],_=>rfl
 | d::l,G=>by
  by_cases h:P d=true
  ·rw [zDr,aE h,eX h,scanF]
   cases scanD party d G with
   | none=>rfl
   | some G'=>exact scanL_filter P party l G'
  ·rw [zDr,aC h,eS h]
   exact scanL_filter P party l G
theorem lic_filter (P:De→Bool):∀ (ds:List De) (n:Nat),n≤ds.length→((List.range n).filter fun j=>P (ds.getD j default)).map (fun j=>ds.getD j default)=(ds.take n).filter P
 | _,0,_=>ze
 | ds,n+1,h=>by
  have ih:=lic_filter P ds n za;have e:ds.getD n default=ds[n]:=by rw [List.getD_eq_getElem?_getD,List.getElem?_eq_getElem za,aO]
  rw [dV,dW,eQ,ih,bM za,dW]
  congr 1
  by_cases hp:P ds[n]=true
  ·rw [eX (by rw [e];exact hp),eX hp]
   show [ds.getD n default]=[ds[n]]
   rw [e]
  ·rw [eS (by rw [e];exact hp),eS hp];simp
theorem lic_at {P:De→Bool} {ds:List De} {q:Nat} (h:q<(licL ds P ds.length).length):∃ (k:Nat) (hk:k<ds.length) (h2:q<(ds.filter P).length),(licL ds P ds.length)[q]=(k:Int)∧(ds.filter P)[q]=ds[k]:=by
 have hf:=lic_filter P ds ds.length (aB _);rw [bX] at hf;unfold licL at h ⊢;rw [aM] at h;have h2:q<(ds.filter P).length:=by rw [←hf,aM];exact h
 obtain ⟨k,hk⟩:∃ k,k=((List.range ds.length).filter fun j=>P (ds.getD j default))[q]:=⟨_,rfl⟩
 have hkr:k<ds.length:=by
  have:=aJ h;rw [←hk] at this;exact List.mem_range.1 (List.mem_filter.1 this).1
 refine ⟨k,hkr,h2,by rw [aN,←hk],?_⟩
 have e:(ds.filter P)[q]=ds.getD k default:=by
  simp only [←hf,aN];rw [hk]
 rw [e,List.getD_eq_getElem?_getD,List.getElem?_eq_getElem hkr,aO]
theorem lic_len {P:De→Bool} {ds:List De}:(licL ds P ds.length).length=(ds.filter P).length:=by
 have hf:=lic_filter P ds ds.length (aB _);rw [bX] at hf;rw [←hf,aM];unfold licL;rw [aM]
theorem scanF_hit {party:BA} {G:List BA} {d:De} {l:List De} (ht:d.to_=party):scanF party (d::l) G=none:=by
 rw [scanF];unfold scanD;rw [aE ht]
theorem scanF_new {party:BA} {G:List BA} {d:De} {l:List De} (ht:d.to_≠party) (hs:d.sb=true) (hm:zDt G d.to_=false):scanF party (d::l) G=scanF party l (G++[d.to_]):=by
 rw [scanF];unfold scanD;rw [aC ht,aE (by rw [hs,hm];rfl)]
theorem scanF_old {party:BA} {G:List BA} {d:De} {l:List De} (ht:d.to_≠party) (hs:(d.sb&&!zDt G d.to_)=false):scanF party (d::l) G=scanF party l G:=by
 rw [scanF];unfold scanD;rw [aC ht,aC (by rw [hs];simp)]
def mayN (ds:List De) (Q:BA→De→Bool) (party:BA):Nat→Nat→List BA→Bool
 | 0,_,_=>false
 | f+1,i,G=>match G[i]? with
  | none=>false
  | some g=>match zDr (Q g) party ds G with
   | none=>true
   | some G'=>mayN ds Q party f (i+1) G'
def mayF (rs:List Rg) (ds:List De) (i:Nat) (use:BA) (day:Int) (th party ho:BA):Bool :=
 if ctlF rs ds i use day th ho=party then true else mayN ds (fun g=>zCF rs ds i use day th g false) party (ds.length+2) 0 [ctlF rs ds i use day th ho]
structure Giv (ps G:List BA):Prop where
 nd:G.Nodup
 sub:∀ g∈G,g∈ps
theorem Giv.len {ps G:List BA} (h:Giv ps G):G.length≤ps.length:=nodup_len h.nd h.sub
theorem Giv.one {ps:List BA} {p:BA} (h:p∈ps):Giv ps [p]:=⟨ze,fun g hg=>by rw [List.mem_singleton.1 hg];exact h⟩
theorem Giv.add {ps G:List BA} {p:BA} (h:Giv ps G) (hp:p∈ps) (hm:zDt G p=false):Giv ps (G++[p]):=by
 refine ⟨?_,fun g hg=>?_⟩
 ·rw [List.nodup_append]
  exact ⟨h.nd,ze,fun a ha b hb=>by rw [List.mem_singleton.1 hb];exact fun e=>memS_false.1 hm (by rw [←e];exact ha)⟩
 ·rcases List.mem_append.1 hg with hg | hg
  ·exact h.sub g hg
  ·rw [List.mem_singleton.1 hg];exact hp
theorem scanL_skip {P:De→Bool} {party:BA} {G:List BA} {d:De} {l:List De} (h:P d=false):zDr P party (d::l) G=zDr P party l G:=by
 rw [zDr,aC jl]
theorem scanL_hit {P:De→Bool} {party:BA} {G:List BA} {d:De} {l:List De} (h:P d=true) (ht:d.to_=party):zDr P party (d::l) G=none:=by
 rw [zDr,aE h];unfold scanD;rw [aE ht]
theorem scanL_new {P:De→Bool} {party:BA} {G:List BA} {d:De} {l:List De} (h:P d=true) (ht:d.to_≠party) (hs:d.sb=true) (hm:zDt G d.to_=false):zDr P party (d::l) G=zDr P party l (G++[d.to_]):=by
 rw [zDr,aE h];unfold scanD;rw [aC ht,aE (by rw [hs,hm];rfl)]
theorem scanL_old {P:De→Bool} {party:BA} {G:List BA} {d:De} {l:List De} (h:P d=true) (ht:d.to_≠party) (hs:(d.sb&&!zDt G d.to_)=false):zDr P party (d::l) G=zDr P party l G:=by
 rw [zDr,aE h];unfold scanD;rw [aC ht,aC (by rw [hs];simp)]
theorem mayN_end {ds:List De} {Q:BA→De→Bool} {party:BA} {f i:Nat} {G:List BA} (h:G.length≤i):mayN ds Q party f i G=false:=by
 cases f with
 | zero=>rfl
 | succ f=>rw [mayN,List.getElem?_eq_none h]
theorem mayN_yes {ds:List De} {Q:BA→De→Bool} {party:BA} {f i:Nat} {G:List BA} (h:i<G.length) (hs:zDr (Q G[i]) party ds G=none):mayN ds Q party (f+1) i G=true:=by
 rw [mayN,List.getElem?_eq_getElem h];simp only [hs]
theorem mayN_next {ds:List De} {Q:BA→De→Bool} {party:BA} {f i:Nat} {G G':List BA} (h:i<G.length) (hs:zDr (Q G[i]) party ds G=some G'):mayN ds Q party (f+1) i G=mayN ds Q party f (i+1) G':=by
 rw [mayN,List.getElem?_eq_getElem h];simp only [hs]
theorem ctlN_mem {nx:BA→Option BA} {ps:List BA} (hq:∀ p q,nx p=some q→q∈ps):∀ (f:Nat) (seen:List BA) (p:BA),p∈ps→ctlN nx f seen p∈ps
 | 0,_,_,h=>h
 | f+1,seen,p,h=>by
  unfold ctlN
  split
  ·exact h
  ·split
   ·exact h
   ·next q hx=>exact ctlN_mem hq f (p::seen) q (hq p q hx)
theorem ctlF_mem {rs:List Rg} {ds:List De} {i:Nat} {use:BA} {day:Int} {th ho:BA}:ctlF rs ds i use day th ho∈ho::ds.map De.to_ :=
 ctlN_mem (fun _ _ h=>nextP_mem h) _ _ _ aX
theorem to_mem {ds:List De} {d:De} (h:d∈ds) (ho:BA):d.to_∈ho::ds.map De.to_:=aW _ (eY h)
def mayW (rs:List Rg) (ds:List De) (i:Nat) (th party use:BA) (day:Int):Bool :=
 decide (orgSum th day ds=1)&&(holL (zBD rs ds i th use day ds.length) (zAH rs ds i th use day ds.length)).all fun h=>mayF rs ds i use day th party h
def mayA (rs:List Rg) (us:List BA) (ds:List De) (th party pl use:BA) (day:Int):Bool×Int :=
 if zCI rs us ds≠0 then (false,zCI rs us ds) else if (zBe th&&zBe party)=false then (false,5) else if (leafB rs pl&&zDt us use)=false then (false,5) else if zCr day=false then (false,1)
 else if zCl rs ds ((idx rs pl).getD 0) th use day ds.length=true then (false,2) else (mayW rs ds ((idx rs pl).getD 0) th party use day,0)
theorem elQS:ElemT Tryz.prog 23 9 (.string ⟨#[]⟩) 1 16:=⟨Tryz.underlying23,zc,rfl,zd⟩
def QuS (w:World) (b:Nat) (v:Value) (l:List BA):Prop :=
 ∃ (off cap:Nat) (cs:Array Value),v = .slice (some ⟨b,off,none⟩) l.length cap∧Bx w b cs 9∧off+cap≤cs.size∧l.length≤cap∧cap≤maxLen∧∀ j (h:j<l.length),cs[off+j]?=some (.string l[j])
theorem QuS.below {w w':World} {b:Nat} {v:Value} {l:List BA} (h:QuS w b v l) (hb:Below w.heap.size w w'):QuS w' b v l:=by
 obtain ⟨off,cap,cs,e,h2,h3⟩:=h;exact ⟨off,cap,cs,e,h2.below hb,h3⟩
theorem QuS.lt {w:World} {b:Nat} {v:Value} {l:List BA} (h:QuS w b v l):b<w.heap.size:=by
 obtain ⟨off,cap,cs,e,h2,h3⟩:=h;exact h2.lt
theorem QuS.grown {w w':World} {b g:Nat} {v:Value} {l:List BA} (h:QuS w b v l) (hg:w.grownBy w' (some g)) (hne:b≠g):QuS w' b v l:=by
 obtain ⟨off,cap,cs,e,h2,h3⟩:=h;exact ⟨off,cap,cs,e,(hg.block b h2.lt fun e=>hne (fE e)).trans h2,h3⟩
theorem QuS.map_ne {w:World} {b g:Nat} {v:Value} {l:List BA} {f:BA→Option Value} (h:QuS w b v l) (hm:zAA Value.string w g f):b≠g:=fun e=>by
 obtain ⟨off,cap,cs,_,h2,_⟩:=h;obtain ⟨es,clk,L,h1,_⟩:=hm;unfold Bx at h2;rw [e,h1] at h2
 cases h2
theorem QuS.one {w:World} {b:Nat} {s:BA} (h:Bx w b #[.string s] 9):QuS w b (.slice (some ⟨b,0,none⟩) 1 1) [s] :=
 ⟨0,1,_,rfl,h,ze,ze,zm,fun j hj=>by
  have:j=0:=qe;subst this
  rfl⟩
theorem QuS.sl {w:World} {b:Nat} {v:Value} {l:List BA} (h:QuS w b v l):∃ off cap,v = .slice (some ⟨b,off,none⟩) l.length cap∧l.length≤cap∧cap≤maxLen∧(∀ j (h:j<l.length),w.cell? ⟨b,off+j,none⟩=some (.string l[j])):=by
 obtain ⟨off,cap,cs,e,h2,h3,h4,h5,h6⟩:=h;exact ⟨off,cap,e,h4,h5,fun j hj=>h2.cell (h6 j hj)⟩
theorem QuS.tail {w:World} {b off cap:Nat} {x:BA} {l:List BA} (h:QuS w b (.slice (some ⟨b,off,none⟩) (l.length+1) cap) (x::l)):QuS w b (.slice (if cap=1 then some ⟨b,off,none⟩ else some ⟨b,off+1,none⟩) l.length (cap - 1)) l:=by
 obtain ⟨off',cap',cs,e,h2,h3,h4,h5,h6⟩:=h;simp only [aY,dR,eN,Addr.mk.injEq,and_true,true_and] at e;obtain ⟨rfl,rfl⟩:=e;simp only [aY] at h4 h6
 by_cases hc:cap=1
 ·rw [aE hc]
  exact ⟨off,cap - 1,cs,rfl,h2,za,za,za,fun j hj=>za⟩
 ·rw [aC hc]
  refine ⟨off+1,cap - 1,cs,rfl,h2,za,za,za,fun j hj=>?_⟩
  have:=h6 (j+1) za;rw [show off+1+j=off+(j+1) by omega,this]
  rfl
theorem run_pushQ {w:World} {b:Nat} {v:Value} {l:List BA} (h:QuS w b v l) (x:BA) (g:Nat) (hx:w.cell? ⟨g,0,none⟩=some (.string x)) (hl:l.length≤1000000) (ty:TypeId) :
  ∃ v' w',(Builtin.append_ #[23,23] ty #[v,.slice (some ⟨g,0,none⟩) 1 1]).run Tryz.prog w = .ok v' w'∧(∃ b',QuS w' b' v' (l++[x])∧(b'=b∨b'=w.heap.size))∧w.grownBy w' (some b):=by
 obtain ⟨i,hi,hz0,hz1,hz2⟩:=info_parts elQS.info;obtain ⟨off,cap,cs,rfl,h2,h3,h4,h5,h6⟩:=h
 have hs:Src Tryz.prog i.size 23 (.slice (some ⟨g,0,none⟩) 1 1) 1 [.string x] w:=by
  rw [hz1];refine Src.ofSlice w elQS.ty ⟨g,0,none⟩ 1 1 [Value.string x] rfl (fun j u hj=>?_) (fun u hu=>by rw [List.mem_singleton.1 hu];rfl)
  match j,hj with
  | 0,hj =>
   have e:Value.string x=u:=qe;rw [←e];rw [Addr.add_lit];exact hx
 by_cases hfit:l.length+1≤cap
 ·have hrun:=run_append_room_src (P:=Tryz.prog) w 23 23 ty 9 i elQS.ty hi b off l.length cap (.slice (some ⟨g,0,none⟩) 1 1) 1 [.string x] hs hfit
   (fun j hj=>by
    have hj0:j=0:=qe;subst hj0;rw [hz1,cA,cZ,aR w b _ _ _ _ h2];rw [Array.getElem?_eq_getElem (show off+l.length<cs.size by omega)]
    rfl)
   (fun j _=>h2.frozen _)
  rw [hz1,cA] at hrun;refine ⟨_,_,hrun,⟨b,?_,.inl rfl⟩,?_⟩
  ·refine ⟨off,cap,cs.setIfInBounds (off+l.length) (.string x),by rw [dA];rfl,h2.set _ _,by simpa using h3,by rw [dA];exact hfit,h5,fun j hj=>?_⟩
   rw [dA,List.length_singleton] at hj
   by_cases hjl:j<l.length
   ·rw [Array.getElem?_setIfInBounds,aC za,List.getElem_append_left hjl]
    exact h6 j hjl
   ·obtain rfl:j=l.length:=by omega
    rw [Array.getElem?_setIfInBounds,aE rfl,aE za,List.getElem_append_right (aB _)];simp
  ·exact ⟨rfl,rfl,rfl,by simp [World.setCells,World.setCell],fun k _ hne=>cR w _ _ k (fun e=>hne (by rw [show k=b from e]))⟩
 ·have hce:cap=l.length:=by omega
  subst hce
  have hold:(Builtin.firstCells i.size l.length (.slice (some ⟨b,off,none⟩) l.length l.length)).run Tryz.prog w.drew = .ok (l.map Value.string).toArray w.drew:=by
   rw [hz1];refine (Src.ofSlice (size:=1) w elQS.ty ⟨b,off,none⟩ l.length l.length (l.map Value.string) ze (fun j u hj=>?_) (fun u hu=>?_):Src Tryz.prog 1 23 _ _ _ w).cellsD
   ·rw [List.getElem?_map] at hj
    by_cases hjl:j<l.length
    ·rw [List.getElem?_eq_getElem hjl] at hj
     simp only [eO,eN] at hj;rw [←hj];rw [Addr.add_lit];exact h2.cell (h6 j hjl)
    ·rw [List.getElem?_eq_none za] at hj;cases hj
   ·obtain ⟨s,_,rfl⟩:=List.mem_map.1 hu
    rfl
  have hbytes:(l.length+1)*i.bytes≤140737488355328:=by rw [hz2];omega
  have hg:l.length<l.length+1:=za;have hrun:=run_append_grow_src (P:=Tryz.prog) w 23 23 ty 9 i _ elQS.ty hi hz0 (some ⟨b,off,none⟩) l.length l.length (l.map Value.string) hold (.slice (some ⟨g,0,none⟩) 1 1) 1 [.string x] hs hg za (growslice_fits hg hbytes);have hge:=grownCap_ge w (l.length+1) l.length 9;have hcm:=grownCap_le_maxLen w (l.length+1) l.length 9 zm;refine ⟨_,_,hrun,⟨w.heap.size,?_,.inr rfl⟩,?_⟩
  ·refine ⟨0,_,_,by rw [dA];rfl,cS w.drew _,?_,by rw [dA];exact hge,hcm,fun j hj=>?_⟩
   ·rw [Array.size_append,List.size_toArray,size_zeroCells]
    simp only [dA,aM,List.length_singleton];have:(Value.string ⟨#[]⟩).cells.size=1:=rfl;rw [this];omega
   ·rw [aQ,Array.getElem?_append_left qe,List.getElem?_toArray,←List.map_singleton (f:=Value.string),←eQ,List.getElem?_map,List.getElem?_eq_getElem hj]
    rfl
  ·exact ⟨rfl,rfl,rfl,ze,fun k hk _=>eA w.drew _ k hk⟩
theorem wpList_pushQ {ops:Array Oper} {rest:List Oper} {o:Oper} {a:Act} {Q:Exit→Act→World→Prop} {w:World} (s x:Operand) (hgd:o.guard=none) (ho:o.op = .call { callee:=.builtin .append,args:=#[s,x],argTypes:=#[23,23] })
  (b:Nat) (v:Value) (l:List BA) (hv:a.eval s=v) (hq:QuS w b v l) (y:BA) (g:Nat) (hx:a.eval x = .slice (some ⟨g,0,none⟩) 1 1) (hc:w.cell? ⟨g,0,none⟩=some (.string y)) (hl:l.length≤1000000)
  (h:∀ v' w' b',QuS w' b' v' (l++[y])→(b'=b∨b'=w.heap.size)→w.grownBy w' (some b)→wpList Tryz.prog ops Q rest (a.put o.dst v') w'):wpList Tryz.prog ops Q (o::rest) a w:=by
 refine wpList_plain hgd fun K hK'=>?_
 obtain ⟨v',w',hrun,⟨b',h1,h2⟩,h3⟩:=run_pushQ hq y g hc hl o.type;unfold Oper.wp;simp [execOp,ho,resolve,invoke,builtin,hv,hx,hrun,Result.andThen]
 exact hK' _ _ (h v' w' b' h1 h2 h3)
theorem drop_cons' {α:Type} {l:List α} {i:Nat} (h:i<l.length):l.drop i=l[i]::l.drop (i+1):=aF h
theorem seenM_app (G:List BA) (p:BA):zDJ (G++[p])=fun x=>if x=p then some (.bool true) else zDJ G x:=by
 rw [←seenM_cons]
 funext x
 unfold zDJ
 have:zDt (G++[p]) x=zDt (p::G) x:=by
  rw [Bool.eq_iff_iff,zCd,zCd];simp [or_comm]
 rw [this]
theorem lic_get {P:De→Bool} {ds:List De} {q:Nat} (h:q<(licL ds P ds.length).length):∃ (k:Nat) (d:De),k<ds.length∧(licL ds P ds.length)[q]?=some (k:Int)∧(ds.filter P)[q]?=some d∧ds[k]?=some d:=by
 obtain ⟨k,hk,h2,e1,e2⟩:=lic_at h;exact ⟨k,ds[k],hk,by rw [List.getElem?_eq_getElem h,e1],by rw [List.getElem?_eq_getElem h2,e2],List.getElem?_eq_getElem hk⟩
theorem drop_get {α:Type} {l:List α} {q:Nat} {d:α} (h:l[q]?=some d):l.drop q=d::l.drop (q+1):=by
 obtain ⟨hq,e⟩:=List.getElem?_eq_some_iff.1 h;rw [aF hq,e]
theorem flat_ints:∀ l:List Int,l.flatMap encI=l.map fun x=>Value.int .i64 x
 | []=>rfl
 | a::l=>by rw [List.flatMap_cons,flat_ints l];rfl
theorem own_ints {w:World} {base n c:Nat} {A:Option Addr} {l:List Int} (h:zAT encI 1 w base 3 (.slice A n c) l):∃ bl,0<l.length→A=some ⟨bl,0,none⟩∧base≤bl∧bl<w.heap.size∧∀ j z,l[j]?=some z→w.cell? ⟨bl,j,none⟩=some (.int .i64 z):=by
 obtain ⟨A',c',e,hr⟩:=h.rdk
 injection e with e1 _ _
 subst e1
 rcases h.2 with ⟨h1,hn⟩ | ⟨g,cap,cur,hv,hb,hg,_⟩
 ·exact ⟨0,fun h0=>za⟩
 ·injection hv with hv _ _
  refine ⟨g,fun h0=>⟨hv,hb,(Array.getElem?_eq_some_iff.1 hg).1,fun j z hz=>?_⟩⟩
  obtain ⟨b,o,e,hc⟩:=hr h0;rw [hv] at e
  injection e with e
  injection e with e1 e2 _
  subst e1;subst e2
  have:=hc j (.int .i64 z) (by
   rw [flat_ints,List.getElem?_map,hz];rfl)
  rwa [aQ] at this
def MyR1 (W:World) (gm:Nat) (ds:List De) (ps:List BA) (Q:BA→De→Bool) (party:BA) (res:Bool) (n m:Nat) (qv:Value) (wr:World):Prop :=
 ∃ (i b:Nat) (v:Value) (G:List BA),v=qv∧QuS wr b v (G.drop i)∧W.heap.size≤b∧zAA Value.string wr gm (zDJ G)∧Giv ps G∧i≤G.length∧i+m=n∧mayN ds Q party m i G=res∧Below W.heap.size W wr
def MyR2 (W:World) (gm i bl lo hi:Nat) (Ls:List Int) (FL:List De) (ps:List BA) (party:BA) (sc:Option (List BA)) (m:Nat) (qv iv:Value) (wr:World):Prop :=
 ∃ (q b:Nat) (v:Value) (G:List BA),v=qv∧iv = .int .i64 (q:Nat)∧QuS wr b v (G.drop (i+1))∧W.heap.size≤b∧(b<lo∨hi≤b)∧hi≤wr.heap.size∧(∀ j z,Ls[j]?=some z→wr.cell? ⟨bl,j,none⟩=some (.int .i64 z)) ∧
  zAA Value.string wr gm (zDJ G)∧Giv ps G∧i+1≤G.length∧q+m=Ls.length∧scanF party (FL.drop q) G=sc∧Below W.heap.size W wr
theorem may_c (RA:Option Addr) (rc:Nat) (rs:List Rg) (UA:Option Addr) (uc:Nat) (us:List BA) (DA:Option Addr) (dc:Nat) (ds:List De) (L n i:Nat) (use:BA) (day:Int) (th party ho:BA) (w:World)
  (hl:LgIs RA rc rs UA uc us DA dc ds w L) (hd:Des w DA ds) (hn:(zAG rs)[n]?=some i) (hul:∀ d∈ds,d.us.length≤1000000) (hdl:ds.length≤200) :
  Calls Tryz.prog 36 #[.pointer (some ⟨L,0,none⟩),.string th,.string party,.string ho,.agg (sptC n use day)] w (zAe (.bool (mayF rs ds i use day th party ho)) w):=by
 obtain ⟨res,hres⟩:∃ res,res=mayF rs ds i use day th party ho:=⟨_,rfl⟩;rw [←hres];have HRES:=zq hres;clear hres;have hbw:Below w.heap.size w (w.alloc (.cells (sptC n use day) 76)):=(aS _ _).alloc (aB _) _;have HX:Hid (Bx (w.alloc (.cells (sptC n use day) 76)) w.heap.size (sptC n use day) 76):=Bx.new _ _ _;obtain ⟨W,hW⟩:∃ W,W=w.alloc (.cells (sptC n use day) 76):=⟨_,rfl⟩;rw [←hW] at HX hbw;have HB:=zq hbw;have HLW:=zq (hl.below hbw);have HDW:=zq (hd.below hbw);have HUL:=zq hul;clear hl hd hul hbw;have HCO:=zq (controls_c RA rc rs UA uc us DA dc ds L n i use day th ho W HLW.o HDW.o hn HUL.o hdl);have HPS:=zq (ctlF_mem (rs:=rs) (ds:=ds) (i:=i) (use:=use) (day:=day) (th:=th) (ho:=ho));unfold mayF at HRES;obtain ⟨c,hcc⟩:∃ c,c=ctlF rs ds i use day th ho:=⟨_,rfl⟩;rw [←hcc] at HCO HPS HRES;clear hcc;have hmm:=@run_makeMap Tryz.prog
 go_enter Tryz.func36,Tryz.ntmps36
 go_upto_region 1 with fail
 rw [←hW];clear hW;obtain ⟨x0,x1,x2⟩:=HX.o.t;have hsx:=HX.o.lt
 go_wp2_with fail
 with_reducible refine HCO.o.mono ?_
 rintro e w1 ⟨rfl,hb1⟩;have HB1:=zq hb1;clear hb1 HCO x0 x1 x2 hsx;go_upto_region 2 with fail
 obtain ⟨w2,hw2⟩:∃ w2,w2=w1.alloc (.cells #[.string c] 9):=⟨_,rfl⟩;rw [←hw2];have hba:Below w1.heap.size w1 w2:=by rw [hw2];exact (aS _ _).alloc (aB _) _
 have HQ2:Hid (Bx w2 w1.heap.size #[.string c] 9):=by show Bx _ _ _ _;rw [hw2];exact Bx.new _ _ _
 have HB2:=zq (zAa HB1.o hba);have hs1:W.heap.size≤w1.heap.size:=HB1.o.size;have hs2:w1.heap.size<w2.heap.size:=HQ2.o.lt;clear hw2 hba;obtain ⟨w4,hup,hm4,hg4,hz4⟩:=zAV (P:=Tryz.prog) tMapSB kStr (zAA.new Value.string w2) c (.bool true);have HM4:Hid (zAA Value.string w4 w2.heap.size (zDJ [c])):=by show zAA _ _ _ _;rw [seenM_cons,seenM_nil];exact hm4
 have hba:Below w2.heap.size w2 (w2.alloc (.map #[] 0)):=(aS _ _).alloc (aB _) _;have HQ3:=zq (HQ2.o.below hba);have HQ4:Hid (Bx w4 w1.heap.size #[.string c] 9):=(hg4.block w1.heap.size HQ3.o.lt fun e=>by have:=fE e;omega).trans HQ3.o
 have HB4:Hid (Below W.heap.size W w4):=zCb (zAa HB2.o hba) zg hg4 za;have hz5:w2.heap.size<w4.heap.size:=by rw [hz4];simp
 have q0:=HQ3.o.c 0 rfl;have ql:=HQ3.o.lt;have p0:=HQ4.o.c 0 rfl;have pl:=HQ4.o.lt;clear hm4 hg4 hz4 hba HQ2 HB2 HB1
 by_cases hcp:c=party
 ·have e1:=zAn hcp
  have HS:Hid (res=true):=by show _=_;rw [HRES.o,aE hcp]
  clear hcp;go_wp2;go_ret
  exact zAe.mk jq (zAa HB.o HB4.o)
 have e1:=zAm hcp;rw [aC hcp] at HRES;clear hcp;go_wp2;clear hup hmm q0 ql p0 pl e1;obtain ⟨gm,hgm⟩:∃ gm,gm=w2.heap.size:=⟨_,rfl⟩;have hgm2:W.heap.size≤gm:=za;have hgm3:gm<w4.heap.size:=za;rw [←hgm] at HM4 ⊢;clear hgm
 go_loopg [11] (ds.length+2) (MyR1 W gm ds (ho::ds.map De.to_) (fun g=>zCF rs ds i use day th g false) party res (ds.length+2))
 case atStart=>exact ⟨0,w1.heap.size,_,[c],rfl,QuS.one HQ4.o,hs1,HM4.o,Giv.one HPS.o,bF _,za,HRES.o.symm,HB4.o⟩
 clear HM4 HQ4 HB4 HQ3 HPS HRES hz5 hs1 hs2 hgm3
 case round =>
  obtain ⟨j,b,v,G,rfl,hq,hbb,hm,hgv,hjl,hjm,hmy,hb⟩:=hrel;have HQ:=zq hq;have HM:=zq hm;have HG:=zq hgv;have HJ:=zq hjm;have HMY:=zq hmy;have HBW:=zq hb;have hgl:G.length≤ds.length+1:=by simpa using hgv.len
  clear hq hm hgv hjm hmy hb
  by_cases hlt:j<G.length
  ·obtain ⟨f,rfl⟩:∃ f,gk=f+1:=⟨gk - 1,yb⟩
   obtain ⟨g,hg⟩:∃ g,G[j]=g:=⟨_,rfl⟩;have hdr:=drop_cons' hlt;rw [hg] at hdr;have HYES:=zq (mayN_yes (ds:=ds) (Q:=fun g=>zCF rs ds i use day th g false) (party:=party) (f:=f) hlt)
   have HNXT:=zq (fun G'=>mayN_next (ds:=ds) (Q:=fun g=>zCF rs ds i use day th g false) (party:=party) (f:=f) (G':=G') hlt)
   simp only [hg] at HYES HNXT;rw [hdr] at HQ;clear hg hdr;obtain ⟨off,cap,rfl,hc1,hc2,hcl⟩:=HQ.o.sl;have y0:wr.cell? ⟨b,off,none⟩=some (.string g):=hcl 0 ze;have hbl:b<wr.heap.size:=HQ.o.lt;have HQT:=zq HQ.o.tail;have hln:(G.drop (j+1)).length=G.length - (j+1):=bV;have HXW:=zq (HX.o.below HBW.o);have HLI:=zq (licences_c RA rc rs UA uc us DA dc ds L n i use day th g false wr (HLW.o.below HBW.o) (HDW.o.below HBW.o) hn HUL.o hdl);clear hcl HQ;simp only [aY] at hc1 hc2 ⊢;obtain ⟨T,hT⟩:∃ T,T=G.drop (j+1):=⟨_,rfl⟩;rw [←hT] at HQT hln hc1 ⊢;have hTl:T.length≤1000000:=za;clear hln;have HT:=zq hT;clear hT;have k1:(0:Int)<(T.length:Int)+1:=za;have k2:(1:Int)≤(T.length:Int)+1:=za;unfold maxLen at hc2;obtain ⟨x0,x1,x2⟩:=HXW.o.t;have hsx:=HXW.o.lt;go_upto_region 8 with fail
   obtain ⟨v2,hv2⟩:∃ v2,v2=Value.slice (if cap=1 then some ⟨b,off,none⟩ else some ⟨b,off+1,none⟩) T.length (cap - 1):=⟨_,rfl⟩
   rw [←hv2] at HQT ⊢;clear hv2 k1 k2 hc1 hc2 y0
   go_wp2_with fail
   with_reducible refine HLI.o.mono ?_
   rintro e w5 ⟨vl,rfl,ho5,hb5⟩;obtain ⟨AL5,cL5,rfl,_⟩:=ho5.rdk;obtain ⟨bl,hbl5⟩:=own_ints ho5;have hll:=licL_len ds (zCF rs ds i use day th g false) ds.length;have HLA:=zq (fun q (h:q<(licL ds (zCF rs ds i use day th g false) ds.length).length)=>lic_get h)
   have HLE:=zq (lic_len (ds:=ds) (P:=zCF rs ds i use day th g false));have HSF:=zq (fun G=>scanL_filter (zCF rs ds i use day th g false) party ds G)
   obtain ⟨Ls,hLs⟩:∃ Ls,Ls=licL ds (zCF rs ds i use day th g false) ds.length:=⟨_,rfl⟩;obtain ⟨FL,hFL⟩:∃ FL,FL=ds.filter (zCF rs ds i use day th g false):=⟨_,rfl⟩;simp only [←hLs,←hFL] at HLA HLE HSF hll hbl5 ⊢;clear hLs hFL ho5;have HB5:=zq (zAa HBW.o hb5);have HM5:=zq (HM.o.below hb5);have HQ5:=zq (HQT.o.below hb5);have hs5:=hb5.size;have hgm5:gm<wr.heap.size:=HM.o.lt;obtain ⟨sc,hsc⟩:∃ sc,sc=scanF party FL G:=⟨_,rfl⟩
   have HYS:Hid (sc=none→res=true):=fun h=>by
    rw [←HMY.o];exact HYES.o (by rw [HSF.o,←hsc,h])
   have HNS:Hid (∀ G',sc=some G'→mayN ds (fun g=>zCF rs ds i use day th g false) party f (j+1) G'=res):=fun G' h=>by
    rw [←HMY.o];exact (HNXT.o G' (by rw [HSF.o,←hsc,h])).symm
   obtain ⟨lo,hlo⟩:∃ lo,lo=wr.heap.size:=⟨_,rfl⟩;obtain ⟨hi,hhi⟩:∃ hi,hi=w5.heap.size:=⟨_,rfl⟩;rw [←hlo] at hbl hgm5 hs5 hbl5;rw [←hhi] at hs5 hbl5;rw [HT.o] at HQ5;have HBL:=zq hbl5;have HM2:Hid (MyR2 W gm j bl lo hi Ls FL (ho::ds.map De.to_) party sc Ls.length v2 (.int .i64 0) w5):=⟨0,b,v2,G,rfl,rfl,HQ5.o,hbb,.inl hbl,za,fun q z hz=>(hbl5 (by have:=(List.getElem?_eq_some_iff.1 hz).1;omega)).2.2.2 q z hz,HM5.o,HG.o,hlt,za,hsc.symm,HB5.o⟩
   clear hsc hlo hhi hb5 hbl5 HQ5 HM5 HB5 HQT HM HBW HLI HXW x0 x1 x2 hsx HYES HNXT HSF HMY HG HT hbl hbb;go_wp2
   go_loopg [11,47] Ls.length (MyR2 W gm j bl lo hi Ls FL (ho::ds.map De.to_) party sc)
   case atStart=>exact HM2.o
   clear HM2
   case round =>
    obtain ⟨q,b,v,G,rfl,rfl,hq,hbb,hbr,hhs,hcl,hm,hgv,hjl,hqm,hsf,hb⟩:=hrel;have HQ:=zq hq;have HM:=zq hm;have HG:=zq hgv;have HK:=zq hqm;have HSC:=zq hsf;have HBW:=zq hb;have HCL:=zq hcl;clear hq hm hgv hqm hsf hb hcl
    by_cases hql:q<Ls.length
    ·obtain ⟨k,d,hk,e1,e2,e3⟩:=HLA.o q hql
     obtain ⟨hA,hb1,hb2,_⟩:=HBL.o za;subst hA;have c0:=HCL.o q _ e1;have hbls:bl<wr.heap.size:=za;obtain ⟨bd,od,hA,hbd0,hcd⟩:=HDW.o za;subst hA;obtain ⟨hk2,e3⟩:=List.getElem?_eq_some_iff.1 e3;have hp:=(hcd k hk).1;rw [e3] at hp;have hrg:wr.rangeAt bd (od+k*16) (deC d).toList:=fun q v hv=>(HBW.o.cell (p:=⟨bd,od+k*16+q,none⟩) hbd0).trans (hp q v hv)
     have HDM:Hid (d.to_∈ho::ds.map De.to_):=to_mem (by rw [←e3];exact aJ hk) ho
     have HSC2:=HSC.o;rw [drop_get e2] at HSC2;have HSC2:=zq HSC2;obtain ⟨r1,r2,g1,g2,ALx,cLx,vr,vi,ins,base,hlx,_⟩:=HLW.o.below HBW.o;have l2:=hlx.c 2 rfl;have hsl:=hlx.lt;clear hcd hp e1 e2 e3 hlx;go_upto_region 11 with fail
     clear c0
     iterate 23 go_step
     refine fC _ _ zk bd (od+k*16) zk (deC d).toList _ hrg Tryz.underlying52 rfl zc ?_
     clear hrg l2 hsl;go_upto_region 12 with fail
     obtain ⟨wd,hwd⟩:∃ wd,wd=wr.alloc (.cells (deC d) 52):=⟨_,rfl⟩;rw [←hwd];have hbd:Below wr.heap.size wr wd:=zt;have HDX:Hid (Bx wd wr.heap.size (deC d) 52):=yg;have HBD:=zq (zAa HBW.o hbd);have HMD:=zq (HM.o.below hbd);have HQD:=zq (HQ.o.below hbd);have HCD:Hid (∀ q z,Ls[q]?=some z→wd.cell? ⟨bl,q,none⟩=some (.int .i64 z)):=fun q z hz=>zAg hbd (HCL.o q z hz)
     have hgmr:gm<wr.heap.size:=HM.o.lt;have hsd:wr.heap.size<wd.heap.size:=HDX.o.lt;have hbr0:b<wr.heap.size:=HQ.o.lt;clear hwd hbd HBW HM HQ HCL;have d5:wd.cell? ⟨wr.heap.size,5,none⟩=some (.string d.to_):=HDX.o.c 5 rfl;have d9:wd.cell? ⟨wr.heap.size,9,none⟩=some (.bool d.sb):=HDX.o.c 9 rfl
     by_cases htp:d.to_=party
     ·have q1:=zAn htp
      have HS:Hid (res=true):=HYS.o (by rw [←HSC2.o,scanF_hit htp])
      clear htp;go_wp2;go_ret
      exact zAe.mk jq (zAa HB.o HBD.o)
     have q1:=zAm htp;have HTP:=zq htp;have hlk:=zAC tMapSB kStr zBoolS HMD.o d.to_ false;clear htp
     cases hsb:d.sb with
     | false =>
      have HSN:Hid (scanF party (FL.drop (q+1)) G=sc):=by show _=_;rw [←HSC2.o,scanF_old HTP.o (by rw [hsb];rfl)]
      rw [hsb] at d9;clear hlk hsb;go_wp2
      go_roundg (gk - 1)
      case measure=>have:=HK.o;omega
      case rel=>exact ⟨q+1,b,v,G,rfl,zi,HQD.o,hbb,hbr,za,HCD.o,HMD.o,HG.o,hjl,zh,HSN.o,HBD.o⟩
     | true =>
      rw [hsb] at d9
      cases hms:zDt G d.to_ with
      | true =>
       have HSN:Hid (scanF party (FL.drop (q+1)) G=sc):=by show _=_;rw [←HSC2.o,scanF_old HTP.o (by rw [hms];simp)]
       rw [show zDJ G d.to_=some (.bool true) by unfold zDJ;rw [aE hms]] at hlk
       simp only [eJ,eD,aO] at hlk;clear hms hsb;go_wp2
       go_roundg (gk - 1)
       case measure=>have:=HK.o;omega
       case rel=>exact ⟨q+1,b,v,G,rfl,zi,HQD.o,hbb,hbr,za,HCD.o,HMD.o,HG.o,hjl,zh,HSN.o,HBD.o⟩
      | false =>
       have HSN:Hid (scanF party (FL.drop (q+1)) (G++[d.to_])=sc):=by show _=_;rw [←HSC2.o,scanF_new HTP.o hsb hms]
       have HGN:=zq (HG.o.add HDM.o hms);rw [show zDJ G d.to_=none by unfold zDJ;rw [aC (by rw [hms];simp)]] at hlk
       simp only [eJ,eD,eP] at hlk;clear hms hsb;obtain ⟨wu,hup,hmu,hgu,hsu⟩:=zAV (P:=Tryz.prog) tMapSB kStr HMD.o d.to_ (.bool true);have HMU:Hid (zAA Value.string wu gm (zDJ (G++[d.to_]))):=by show zAA _ _ _ _;rw [seenM_app];exact hmu
       have hne1:b≠gm:=HQD.o.map_ne HMD.o;have HQU:=zq (HQD.o.grown hgu hne1);have HBU:=zq (zCb HBD.o HBD.o.size hgu hgm2);have HDU:Hid (Bx wu wr.heap.size (deC d) 52):=(hgu.block wr.heap.size HDX.o.lt fun e=>by have:=fE e;omega).trans HDX.o
       have HCU:Hid (∀ q z,Ls[q]?=some z→wu.cell? ⟨bl,q,none⟩=some (.int .i64 z)):=fun q z hz=>(World.cell?_of_block (a:=⟨bl,q,none⟩) (hgu.block bl za fun e=>by have:=fE e;omega)).trans (HCD.o q z hz)
       have hba:Below wu.heap.size wu (wu.alloc (.cells #[.string d.to_] 9)):=(aS _ _).alloc (aB _) _;have HQV:=zq (HQU.o.below hba);have HMV:=zq (HMU.o.below hba);have HBV:=zq (zAa HBU.o hba);have HCV:Hid (∀ q z,Ls[q]?=some z→(wu.alloc (.cells #[.string d.to_] 9)).cell? ⟨bl,q,none⟩=some (.int .i64 z)):=fun q z hz=>zAg hba (HCU.o q z hz)
       have HNV:Hid ((wu.alloc (.cells #[.string d.to_] 9)).cell? ⟨wu.heap.size,0,none⟩=some (.string d.to_)):=(Bx.new wu #[.string d.to_] 9).c 0 rfl
       have hdl2:(G.drop (j+1)).length≤1000000:=by
        rw [bV];have:=HG.o.len;simp only [aY,aM] at this;omega
       have u5:wu.cell? ⟨wr.heap.size,5,none⟩=some (.string d.to_):=HDU.o.c 5 rfl;have ul:wr.heap.size<wu.heap.size:=HDU.o.lt;clear hmu hgu hsu hba HMD HQD HBD HCD HDX HMU HQU HBU HCU HDU
       go_wp2_with (at_builtin;refine wpList_pushQ _ _ rfl rfl b v (G.drop (j+1)) rfl HQV.o d.to_ wu.heap.size rfl HNV.o hdl2 ?_;intro v3 w6 b3 hq3 hb3 hg3)
       have HQ6:Hid (QuS w6 b3 v3 ((G++[d.to_]).drop (j+1))):=by show QuS _ _ _ _;rw [List.drop_append_of_le_length hjl];exact hq3
       have hvl:wu.heap.size<(wu.alloc (.cells #[.string d.to_] 9)).heap.size:=ze;have HB6:=zq (zCb HBV.o HBV.o.size hg3 hbb);have HM6:Hid (zAA Value.string w6 gm (zDJ (G++[d.to_]))):=HMV.o.keep (hg3.block gm HMV.o.lt fun e=>hne1 (fE e).symm)
       have HC6:Hid (∀ q z,Ls[q]?=some z→w6.cell? ⟨bl,q,none⟩=some (.int .i64 z)):=fun q z hz=>(World.cell?_of_block (a:=⟨bl,q,none⟩) (hg3.block bl za fun e=>by have:=fE e;omega)).trans (HCV.o q z hz)
       have hs6:=hg3.size;have hb31:W.heap.size≤b3:=by rcases hb3 with h | h<;>omega
       have hb32:b3<lo∨hi≤b3:=by rcases hb3 with h | h<;>omega
       have hjl2:j+1≤(G++[d.to_]).length:=by rw [dA];omega
       clear hq3 hb3 hg3 hlk hup u5 d5 d9 q1 HQV HMV HBV HCV HNV;go_wp2
       go_roundg (gk - 1)
       case measure=>have:=HK.o;omega
       case rel=>exact ⟨q+1,b3,v3,G++[d.to_],rfl,zi,HQ6.o,hb31,hb32,za,HC6.o,HM6.o,HGN.o,hjl2,zh,HSN.o,HB6.o⟩
    ·have hqe:q=Ls.length:=by have:=HK.o;omega
     have hfl:FL.length≤q:=by rw [hqe,HLE.o];exact aB _
     have HRS:Hid (mayN ds (fun g=>zCF rs ds i use day th g false) party f (j+1) G=res):=HNS.o G (by
      rw [←HSC.o,List.drop_eq_nil_of_le hfl];rfl)
     clear hfl hqe;go_wp2
     go_roundg f
     case measure=>omega
     case rel=>exact ⟨j+1,b,v,G,rfl,HQ.o,hbb,HM.o,HG.o,hjl,yb,HRS.o,HBW.o⟩
  ·have hje:G.drop j=[]:=List.drop_eq_nil_of_le za
   have HS:Hid (res=false):=by show _=_;rw [←HMY.o];exact mayN_end za
   rw [hje] at HQ;obtain ⟨off,cap,rfl,_⟩:=HQ.o.sl;simp only [eF];clear hje;go_wp2;go_ret
   exact zAe.mk jq (zAa HB.o HBW.o)
end Go.Proofs.YtieoifkdobcpiaaGreatDoor
