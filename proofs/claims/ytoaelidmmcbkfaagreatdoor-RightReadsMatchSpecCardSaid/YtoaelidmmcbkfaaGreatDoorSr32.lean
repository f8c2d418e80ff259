/- Package right: Read. The reference's checkGift. The reference's checkDeed. -/
import Derived.Test.YtoaelidmmcbkfaaGreatDoorSr31
set_option maxRecDepth 100000
set_option maxHeartbeats 8000000
namespace Go.Proofs.YtoaelidmmcbkfaaGreatDoor
open Go.RowKit Dw
def zAN (t:Ln) (w:World) (e:Ending) (w':World):Prop :=
 ∃ RA rc rs UA uc us DA dc ds n f,e = .returned (.tuple #[.agg (tiC RA rc rs UA uc us DA dc ds),.int .i64 n,.int .i64 f])∧zEp t=((rs,us,ds.map zBr),n,f)∧(Rgs w' RA rs∧Strs w' UA us∧Des w' DA ds) ∧
  (rs.length≤600000∧us.length≤600000∧ds.length≤600002)∧(∀ i (h:i<rs.length),(rs[i]).nm.size≤600000)∧(∀ i (h:i<us.length),(us[i]).size≤600000)∧Below w.heap.size w w'
theorem zAN.no {t:Ln} {w w':World} {n f:Int} (h:zEp t=(([],[],[]),n,f)) (hb:Below w.heap.size w w'):zAN t w (.returned (.tuple #[.agg #[.slice none 0 0,.slice none 0 0,.slice none 0 0],.int .i64 n,.int .i64 f])) w' :=
 ⟨none,0,[],none,0,[],none,0,[],n,f,rfl,h,⟨(fun h=>absurd h zd),(fun h=>absurd h zd),(fun h=>absurd h zd)⟩,zd,(fun i h=>absurd h zd),(fun i h=>absurd h zd),hb⟩
theorem zBE {w0 w:World} {g:Nat} (h:Below w0.heap.size w0 w) (hg:w0.heap.size≤g) (a b c:Value):Below w0.heap.size w0 (((w.setCell ⟨g,0,none⟩ a).setCell ⟨g,1,none⟩ b).setCell ⟨g,2,none⟩ c) :=
 dP (dP (dP h hg _) hg _) hg _
theorem regs_small {L:List Ln} (hs:Sht L):(zAT L).1.length≤600000∧(∀ r∈(zAT L).1,r.nm.size≤600000)∧Sht (zAT L).2:=by
 have e:=regsX_ok L;have hs2:=hs;rw [e] at hs2;refine ⟨by have:=hs2.left.1;rw [aK] at this;exact this,fun r hr=>?_,hs2.right⟩
 have h1:=hs2.left.2 (rgW r) (List.mem_map.2 ⟨r,hr,rfl⟩);have h2:=joi_mem [zBw,r.nm.data.toList,if r.par=emp then [45] else r.par.data.toList] (n:=r.nm.data.toList) zd
 unfold rgW at h1;rw [zDx] at h2;omega
theorem fin_rows {w7:World} {z B1:Nat} (hz:z<B1) {A1 A2 A3:Option Addr} {c1 c2 c3:Nat} {rs:List Rg} {us:List BA} {T:List De} (a b c:Value) (o1:zAF eRg 2 w7 B1 56 (.slice A1 rs.length c1) rs) (o2:zAF eSt 1 w7 B1 9 (.slice A2 us.length c2) us)
  (o3:zAF eDq 16 w7 B1 47 (.slice A3 T.length c3) T) (hd:∀ d∈T,DsQ B1 (.slice A3 T.length c3) w7 d) :
  Rgs (((w7.setCell ⟨z,0,none⟩ a).setCell ⟨z,1,none⟩ b).setCell ⟨z,2,none⟩ c) A1 rs∧Strs (((w7.setCell ⟨z,0,none⟩ a).setCell ⟨z,1,none⟩ b).setCell ⟨z,2,none⟩ c) A2 us∧Des (((w7.setCell ⟨z,0,none⟩ a).setCell ⟨z,1,none⟩ b).setCell ⟨z,2,none⟩ c) A3 T:=by
 have g1:=zAn w7 ⟨z,0,none⟩ a;have g2:=zAn (w7.setCell ⟨z,0,none⟩ a) ⟨z,1,none⟩ b;have g3:=zAn ((w7.setCell ⟨z,0,none⟩ a).setCell ⟨z,1,none⟩ b) ⟨z,2,none⟩ c;have p1:=((o1.grown g1 (zAR o1 hz)).grown g2 (zAR o1 hz)).grown g3 (zAR o1 hz);have p2:=((o2.grown g1 (zAR o2 hz)).grown g2 (zAR o2 hz)).grown g3 (zAR o2 hz);have p3:=((o3.grown g1 (zAR o3 hz)).grown g2 (zAR o3 hz)).grown g3 (zAR o3 hz);obtain ⟨X1,d1,e1,h1⟩:=p1.rd2;obtain ⟨X2,d2,e2,h2⟩:=p2.rd1;obtain ⟨X3,d3,e3,h3⟩:=des_own p3 fun d h=>((((hd d h).grown g1 hz).grown g2 hz).grown g3 hz).ok
 have e1:A1=X1:=by injection e1
 have e2:A2=X2:=by injection e2
 have e3:A3=X3:=by injection e3
 rw [e1,e2,e3];exact ⟨h1,h2,h3⟩
def RdQ (w:World) (B0 r q:Nat) (LA:Option Addr) (c:Nat) (L:List Ln) (rs:List Rg) (v1:Value) (us:List BA) (v2:Value) (P0:Except (List Ln) (List De)) (m:Nat) (wr:World):Prop :=
 ∃ (T:List De) (v3:Value) (k:Nat) (bad:Bool),DsM w B0 r q LA c L rs v1 us v2 T v3 k bad wr∧PlX P0 L T k bad∧(bad=false→T.length≤k∧(L.drop k).length+2≤m)∧T.length≤600001∧1≤m
theorem Read_c (s:BA) (w:World) (hG:GOK w) (hs:s.size≤9223372036854775807) :
  Calls Tryz.prog 5 #[.string s] w (zAN s.data.toList w):=by
 have HX:Hid (Bx (w.alloc (.cells #[.slice none 0 0,.slice none 0 0,.slice none 0 0] 26)) w.heap.size #[.slice none 0 0,.slice none 0 0,.slice none 0 0] 26):=Bx.new _ _ _;have HB:Hid (Below w.heap.size w (w.alloc (.cells #[.slice none 0 0,.slice none 0 0,.slice none 0 0] 26))):=(bS _ _).alloc (aB _) _;obtain ⟨W,hW⟩:∃ W,W=w.alloc (.cells #[.slice none 0 0,.slice none 0 0,.slice none 0 0] 26):=⟨_,rfl⟩;rw [←hW] at HX HB;obtain ⟨t,ht⟩:∃ t,t=s.data.toList:=⟨_,rfl⟩;have htl:t.length=s.size:=by rw [ht];rfl
 have HG:=zq (hG.below HB.o)
 have HGK:Hid (gkB<w.heap.size):=by
  obtain ⟨m,hm⟩:=hG;exact World.block_lt_of_cell? w _ hm
 rw [←ht];have HT:=zq ht;clear hG ht
 go_enter Tryz.func5,Tryz.ntmps5
 go_upto_region 1 with fail
 rw [←hW];clear hW
 by_cases hl:500000<s.size
 case pos =>
  have hl1:(500000:Int)<(s.size:Int):=za;have HF:Hid (zEp t=(([],[],[]),0,2)):=by show _=_;unfold zEp;rw [aE za]
  obtain ⟨z0,z1,z2⟩:=HX.o.t;have f0:=HX.o.frozen 0;have f1:=HX.o.frozen 1;have f2:=HX.o.frozen 2;have hsz:=HX.o.lt;clear hl htl;go_wp2;refine dD (v:=.tuple #[.agg #[.slice none 0 0,.slice none 0 0,.slice none 0 0],.int .i64 0,.int .i64 2]) ?_ rfl ?_
  ·simp [results,Tryz.results5,go_sem,z0,z1,z2]
  ·exact zAN.no HF.o (zBE HB.o (aB _) _ _ _)
 have hl1:¬ (500000:Int)<(s.size:Int):=za;have HSP:=zq (split_c 10 s W za HG.o);rw [←HT.o] at HSP;obtain ⟨L,ll,hL⟩:∃ L ll,spl 10 t=L++[ll]:=⟨_,_,(List.dropLast_concat_getLast (spl_ne t)).symm⟩;rw [hL] at HSP
 have hlen:L.length≤500001:=by
  have h1:=spl_len2 10 t;rw [hL,cY] at h1;simp at h1
  omega
 have HSH:Hid (Sht L):=⟨za,fun l hl=>by
  have:=spl_mem 10 t l (by rw [hL];simp [hl])
  omega⟩
 have HRF:Hid (zEp t=match zDg (zAQ [] zCr (zAT L).2).2.length (zAQ [] zCr (zAT L).2).2 with
  | .error e=>(([],[],[]),((L.length - e.length:Nat):Int)+1,10)
  | .ok ds=>if ll≠[] then (([],[],[]),(L.length:Int)+1,10)
   else if chkT (zAT L).1 (zAQ [] zCr (zAT L).2).1 ds≠0 then (([],[],[]),0,chkT (zAT L).1 (zAQ [] zCr (zAT L).2).1 ds)
   else (((zAT L).1,(zAQ [] zCr (zAT L).2).1,ds),0,0)):=by
  show _=_
  unfold zEp;rw [aC za,hL,List.dropLast_concat];simp only [List.getLast?_concat,ne_eq,dO]
  rfl
 clear hl htl hL
 go_wp2_with fail
 with_reducible refine HSP.o.mono ?_
 rintro e w2 ⟨b,n,hn,rfl,hlo,hst,hb2⟩;rw [cY,dK] at hn;have hns:n=L.length+1:=hn;obtain ⟨b',o',hA,hc2⟩:=hst zd
 injection hA with hA
 injection hA with hA1 hA2 _
 subst hA1;subst hA2
 have c0:w2.cell? ⟨b,L.length,none⟩=some (.string (ofL ll)):=by
  have h1:=hc2 L.length zd;rw [bJ] at h1;rw [h1];simp
 have HST:Hid (Strs w2 (some ⟨b,0,none⟩) (L.map ofL)):=fun h0=>⟨b,0,rfl,fun i hi=>by
  rw [aK] at hi;rw [hc2 i zg];simp only [dV];rw [List.getElem_append_left jc]⟩
 have HB2:=zq (zAb HB.o hb2);have HX2:=zq (HX.o.below hb2);have HG2:=zq (HG.o.below hb2)
 have HLO:Hid (w.heap.size+1≤b):=by
  have h1:W.heap.size≤b:=hlo;have h2:=HX.o.lt
  show _≤_
  omega
 have HLT:Hid (b<w2.heap.size):=World.block_lt_of_cell? w2 _ c0;obtain ⟨m,hm⟩:∃ m,m=L.length:=⟨_,rfl⟩;have HM:=zq hm;rw [←hm] at c0 hns hlen;clear hst hc2 hb2 hlo hn HX HB HG HSP hm;have g1:(1:Int)≤(n:Int):=za;have g2:((n:Int) - 1)=(m:Int):=za;have g3:m<n:=za;have g4:n≤500002:=za;go_upto_region 5 with fail
 go_upto_region 6 with fail
 obtain ⟨r,hr⟩:∃ r,r=w2.heap.size:=⟨_,rfl⟩;obtain ⟨w3,hw3⟩:∃ w3,w3=w2.alloc (.cells #[.slice (some ⟨b,0,none⟩) m (m+1),.int .i64 0,.bool false] 39):=⟨_,rfl⟩;have hb3:Below w2.heap.size w2 w3:=by rw [hw3];exact (bS _ _).alloc (aB _) _
 have hs3:w3.heap.size=r+1:=by rw [hw3,hr];simp
 have HR3:Hid (RdI w3 r (some ⟨b,0,none⟩) (m+1) L 0 false):=by
  refine ⟨?_,HST.o.below hb3,fun b' o e=>?_,fun b' o e=>?_,aX _,HSH.o.1,HSH.o.2⟩
  ·rw [hw3,hr,←HM.o];exact Bx.new _ _ _
  ·have h1:=HLT.o
   have e2:b=b':=qk;omega
  ·have h1:=HLT.o
   have e2:b=b':=qk;omega
 have HB3:=zq (zAb HB2.o hb3);have HX3:=zq (HX2.o.below hb3);have HG3:=zq (HG2.o.below hb3);have hzr:w.heap.size<r:=by have:=HX2.o.lt;omega
 have HLR:Hid (b<r):=by show _<_;rw [hr];exact HLT.o
 rw [←hw3,←hr];clear hw3 hb3 HST HB2 HX2 HG2 hr;obtain ⟨w4,hw4⟩:∃ w4,w4=w3.alloc (.cells #[.slice none 0 0,.slice none 0 0,.slice none 0 0] 26):=⟨_,rfl⟩;have hb4:Below w3.heap.size w3 w4:=vd;have hs4:w4.heap.size=r+2:=by rw [hw4];simp;omega
 have HQ4:Hid (Bx w4 (r+1) (hdC (.slice none 0 0) (.slice none 0 0)) 26):=vp;have HB4:=zq (zAb HB3.o hb4);have HX4:=zq (HX3.o.below hb4);have HR4:=zq (HR3.o.below hb4);have HG4:=zq (HG3.o.below hb4)
 have HDS:Hid (HdS w4 (w.heap.size+1) r (r+1) (some ⟨b,0,none⟩)):=by
  have h1:=HLR.o;refine ⟨za,za,za,za,za,fun b' o e=>?_⟩
  have e2:b=b':=qk;exact ⟨za,za⟩
 have HHD:=zq (head_c (w.heap.size+1) r (r+1) (some ⟨b,0,none⟩) (m+1) L w4 HR4.o HQ4.o HG4.o qt HDS.o);obtain ⟨rs,hrs⟩:∃ rs,rs=(zAT L).1:=⟨_,rfl⟩;obtain ⟨us,hus⟩:∃ us,us=(zAQ [] zCr (zAT L).2).1:=⟨_,rfl⟩
 have HM0:Hid ((zAQ [] zCr (zAT L).2).2=L.drop (rs.length+us.length)):=by
  show _=_
  rw [usesX_rest,←hus,zDp,←hrs,bY]
 have HSM:Hid ((rs.length≤600000∧us.length≤600000)∧(∀ i (h:i<rs.length),(rs[i]).nm.size≤600000)∧(∀ i (h:i<us.length),(us[i]).size≤600000)):=by
  obtain ⟨a1,a2,a3⟩:=regs_small HSH.o;obtain ⟨c1,c2,_⟩:=uses_sm (first:=zCr) true [] a3
  rw [←hrs] at a1 a2;have c1':us.length≤600000:=by rw [hus];exact c1
  have c2':∀ u∈us,u.size≤600000:=by rw [hus];exact c2
  exact ⟨⟨a1,c1'⟩,fun i h=>a2 _ (aI h),fun i h=>c2' _ (aI h)⟩
 rw [←hrs,←hus,HM0.o] at HRF;rw [←hrs,←hus] at HHD;obtain ⟨k0,hk0⟩:∃ k0,k0=rs.length+us.length:=⟨_,rfl⟩;rw [←hk0] at HRF HHD;obtain ⟨P0,hP0⟩:∃ P0,P0=zDg (L.drop k0).length (L.drop k0):=⟨_,rfl⟩;rw [←hP0] at HRF;have HPL:Hid (PlX P0 L [] k0 false):=⟨(fun h=>zy),fun _=>⟨_,by rw [hP0,List.map_nil,conX_nil],aB _⟩⟩
 have HTK:Hid (∀ k,(L.drop k).length=L.length - k):=fun k=>bK
 clear hrs hus hk0 hP0 HM0 HR3 HR4 HQ4 HB3 HX3 HG3 c0;go_upto_region 7 with fail
 rw [←hw4];clear hw4 hb4
 go_wp2_with fail
 with_reducible refine HHD.o.mono ?_
 rintro e w5 ⟨rfl,v1,v2,hm5⟩;have HM5:=zq hm5.ds;have hk0:=hm5.rd.le;clear hm5 HHD
 go_wp2_with fail
 go_loopg [] (L.length+2) (RdQ w4 (w.heap.size+1) r (r+1) (some ⟨b,0,none⟩) (m+1) L rs v1 us v2 P0)
 case atStart=>exact ⟨[],_,k0,false,HM5.o,HPL.o,(fun _=>⟨aX _,by have:=HTK.o k0;omega⟩),zd,za⟩
 clear HM5 HPL hk0
 case round =>
  obtain ⟨T,v3,k,bad,hm5,hp,hlt,hTl,hgk⟩:=hrel;have HMr:=zq hm5;have HPr:=zq hp;have HLr:=zq hlt;have HZ:Hid (∀ w',Below (w.heap.size+1) w4 w'→Bx w' w.heap.size #[.slice none 0 0,.slice none 0 0,.slice none 0 0] 26∧Below w.heap.size w w'):=fun w' hb=>⟨(hb.block w.heap.size (bW _)).trans HX4.o,HB4.o.trans (hb.mono (Nat.le_succ _))⟩
  have x0:wr.cell? ⟨r,0,none⟩=some (.slice (some ⟨b,0,none⟩) L.length (m+1)):=hm5.rd.bx.c 0 rfl;have x1:wr.cell? ⟨r,1,none⟩=some (.int .i64 (k:Int)):=hm5.rd.bx.c 1 rfl;have x2:wr.cell? ⟨r,2,none⟩=some (.bool bad):=hm5.rd.bx.c 2 rfl;have xs:=hm5.rd.bx.lt;have hkL:=hm5.rd.le;have hLm:=hm5.rd.many;clear hm5 hp hlt;have hkw:IntKind.i64.wrap ((k:Int)+1)=(k:Int)+1:=IntWalk.i64_in _ za
  cases bad with
  | true =>
   have HERR:Hid (zEp t=(([],[],[]),(k:Int)+1,10)):=by
    show _=_
    rw [HRF.o,HPr.o.1 rfl];have e1:L.length - (L.drop k).length=k:=by rw [HTK.o k];omega
    simp only [e1]
   clear HRF;go_upto_region 8 with fail
   go_quiet (fail)
   have HM6:=zq (HMr.o.below (zAc (bS _ _) nq));clear x0 x1 x2 xs HMr;generalize wr.drewN nq=w6 at *;have x2:w6.cell? ⟨r,2,none⟩=some (.bool true):=HM6.o.rd.bx.c 2 rfl;have xs:=HM6.o.rd.bx.lt;go_upto_region 11 with fail
   clear x2 xs;obtain ⟨w7,hw7⟩:∃ w7,w7=w6.drew:=⟨_,rfl⟩;have HM7:Hid (DsM w4 (w.heap.size+1) r (r+1) (some ⟨b,0,none⟩) (m+1) L rs v1 us v2 T v3 k true w7):=je;have HZ7:Hid (Bx w7 w.heap.size #[.slice none 0 0,.slice none 0 0,.slice none 0 0] 26∧Below w.heap.size w w7):=HZ.o w7 HM7.o.bel;obtain ⟨z0,z1,z2⟩:=HZ7.o.1.t;have f0:=HZ7.o.1.frozen 0;have f1:=HZ7.o.1.frozen 1;have f2:=HZ7.o.1.frozen 2;have hsz:=HZ7.o.1.lt;have HS1:Hid (w7.cell? ⟨r,1,none⟩=some (.int .i64 (k:Int))):=HM7.o.rd.bx.c 1 rfl;clear HM6 HM7;refine dW (S:=(fun w'=>w'.cell? ⟨r,1,none⟩=some (.int .i64 (k:Int)))) zb ?_ (fun hHeld=>?_)
   ·first | exact HS1.o | (rw [←hw7];exact HS1.o) | exact HS8.o
   rw [←hw7];clear hw7;refine Dw.tk 0 ?_ rfl ?_ zh ?_
   rotate_left 1
   ·(intro w _;go_simp;try with_reducible rfl)
   simp only [eB,cN,Act.put,cF,dY,bV];refine Dw.tk 1 ?_ rfl ?_ zh ?_
   rotate_left 1
   ·(intro w _;go_simp;try with_reducible rfl)
   simp only [Dw.lay,Act.put];refine Dw.tk 2 ?_ rfl ?_ zh ?_
   rotate_left 1
   ·(intro w _;go_simp;try with_reducible rfl)
   simp only [Dw.lay,Act.put];refine Dw.tk 3 ?_ rfl ?_ zh ?_
   rotate_left 1
   ·(intro w _;go_simp;try with_reducible rfl)
   simp only [Dw.lay,Act.put];refine Dw.tk 4 ?_ rfl ?_ zh ?_
   rotate_left 1
   ·(intro w hSw;(try dsimp only at hSw);go_simp;try with_reducible rfl)
   simp only [Dw.lay,Act.put];refine Dw.tk 5 ?_ rfl ?_ zh ?_
   rotate_left 1
   ·(intro w _;go_simp;try with_reducible rfl)
   simp only [Dw.lay,Act.put];refine Dw.rd1 6 rfl (fun K hK=>?_)
   clear hHeld
   go_simp
   have HS8:Hid ((((w7.setCell ⟨w.heap.size,0,none⟩ (.slice none 0 0)).setCell ⟨w.heap.size,1,none⟩ (.slice none 0 0)).setCell ⟨w.heap.size,2,none⟩ (.slice none 0 0)).cell? ⟨r,1,none⟩=some (.int .i64 (k:Int))):=by
    show _=_
    unfold World.cell?;rw [cH _ _ _ _ yy,cH _ _ _ _ yy,cH _ _ _ _ yy];exact HS1.o
   refine hK.out _ _ ?_ (fun hHeld=>?_)
   ·first | exact HS1.o | (rw [←hw7];exact HS1.o) | exact HS8.o
   clear hK K
   try simp only [Dw.lay,Act.put]
   refine Dw.rd1 7 rfl (fun K hK=>?_)
   clear hHeld
   go_simp
   refine hK.out _ _ ?_ (fun hHeld=>?_)
   ·first | exact HS1.o | (rw [←hw7];exact HS1.o) | exact HS8.o
   clear hK K
   try simp only [Dw.lay,Act.put]
   refine Dw.rd1 8 rfl (fun K hK=>?_)
   clear hHeld
   go_simp
   refine hK.out _ _ ?_ (fun hHeld=>?_)
   ·first | exact HS1.o | (rw [←hw7];exact HS1.o) | exact HS8.o
   clear hK K
   try simp only [Dw.lay,Act.put]
   refine dZ zb ?_ _
   clear hHeld;have HE:Hid (zAN t w (.returned (.tuple #[.agg #[.slice none 0 0,.slice none 0 0,.slice none 0 0],.int .i64 ((k:Int)+1),.int .i64 10])) (((w7.setCell ⟨w.heap.size,0,none⟩ (.slice none 0 0)).setCell ⟨w.heap.size,1,none⟩ (.slice none 0 0)).setCell ⟨w.heap.size,2,none⟩ (.slice none 0 0))):=zAN.no HERR.o (zBE HZ7.o.2 (aB _) _ _ _);go_wp2;refine dD (v:=.tuple #[.agg #[.slice none 0 0,.slice none 0 0,.slice none 0 0],.int .i64 ((k:Int)+1),.int .i64 10]) ?_ rfl HE.o
   simp [results,Tryz.results5,go_sem,z0,z1,z2]
  | false =>
   by_cases hk:k<L.length
   case neg =>
    have q1:decide ((k:Int)<(L.length:Int))=false:=cQ za;go_upto_region 8 with fail
    go_quiet (fail)
    have HM6:=zq (HMr.o.below (zAc (bS _ _) nq));clear x0 x1 x2 xs HMr;generalize wr.drewN nq=w6 at *;have x2:w6.cell? ⟨r,2,none⟩=some (.bool false):=HM6.o.rd.bx.c 2 rfl;have xs:=HM6.o.rd.bx.lt
    have HP:Hid (P0 = .ok (T.map zBr)):=by
     obtain ⟨f,h1,h2⟩:=HPr.o.2 rfl
     show _=_
     rw [h1,dN za,deedsX_nil];simp [conX]
    by_cases hll:ll=[]
    case neg =>
     have q2:(ofL ll).toList.isEmpty=false:=zAk fun e=>hll (by rw [←zAj ll,e];rfl)
     have HERR:Hid (zEp t=(([],[],[]),(k:Int)+1,10)):=by
      show _=_
      rw [HRF.o,HP.o];simp only [aE hll];rw [show L.length=k by omega]
     clear HRF HP q1 hll;go_upto_region 11 with fail
     clear x2 xs;obtain ⟨w7,hw7⟩:∃ w7,w7=w6.drew:=⟨_,rfl⟩;have HM7:Hid (DsM w4 (w.heap.size+1) r (r+1) (some ⟨b,0,none⟩) (m+1) L rs v1 us v2 T v3 k false w7):=je;have HZ7:Hid (Bx w7 w.heap.size #[.slice none 0 0,.slice none 0 0,.slice none 0 0] 26∧Below w.heap.size w w7):=HZ.o w7 HM7.o.bel;obtain ⟨z0,z1,z2⟩:=HZ7.o.1.t;have f0:=HZ7.o.1.frozen 0;have f1:=HZ7.o.1.frozen 1;have f2:=HZ7.o.1.frozen 2;have hsz:=HZ7.o.1.lt;have HS1:Hid (w7.cell? ⟨r,1,none⟩=some (.int .i64 (k:Int))):=HM7.o.rd.bx.c 1 rfl;clear HM6 HM7;refine dW (S:=(fun w'=>w'.cell? ⟨r,1,none⟩=some (.int .i64 (k:Int)))) zb ?_ (fun hHeld=>?_)
     ·first | exact HS1.o | (rw [←hw7];exact HS1.o) | exact HS8.o
     rw [←hw7];clear hw7;refine Dw.tk 0 ?_ rfl ?_ zh ?_
     rotate_left 1
     ·(intro w _;go_simp;try with_reducible rfl)
     simp only [eB,cN,Act.put,cF,dY,bV];refine Dw.tk 1 ?_ rfl ?_ zh ?_
     rotate_left 1
     ·(intro w _;go_simp;try with_reducible rfl)
     simp only [Dw.lay,Act.put];refine Dw.tk 2 ?_ rfl ?_ zh ?_
     rotate_left 1
     ·(intro w _;go_simp;try with_reducible rfl)
     simp only [Dw.lay,Act.put];refine Dw.tk 3 ?_ rfl ?_ zh ?_
     rotate_left 1
     ·(intro w _;go_simp;try with_reducible rfl)
     simp only [Dw.lay,Act.put];refine Dw.tk 4 ?_ rfl ?_ zh ?_
     rotate_left 1
     ·(intro w hSw;(try dsimp only at hSw);go_simp;try with_reducible rfl)
     simp only [Dw.lay,Act.put];refine Dw.tk 5 ?_ rfl ?_ zh ?_
     rotate_left 1
     ·(intro w _;go_simp;try with_reducible rfl)
     simp only [Dw.lay,Act.put];refine Dw.rd1 6 rfl (fun K hK=>?_)
     clear hHeld
     go_simp
     have HS8:Hid ((((w7.setCell ⟨w.heap.size,0,none⟩ (.slice none 0 0)).setCell ⟨w.heap.size,1,none⟩ (.slice none 0 0)).setCell ⟨w.heap.size,2,none⟩ (.slice none 0 0)).cell? ⟨r,1,none⟩=some (.int .i64 (k:Int))):=by
      show _=_
      unfold World.cell?;rw [cH _ _ _ _ yy,cH _ _ _ _ yy,cH _ _ _ _ yy];exact HS1.o
     refine hK.out _ _ ?_ (fun hHeld=>?_)
     ·first | exact HS1.o | (rw [←hw7];exact HS1.o) | exact HS8.o
     clear hK K
     try simp only [Dw.lay,Act.put]
     refine Dw.rd1 7 rfl (fun K hK=>?_)
     clear hHeld
     go_simp
     refine hK.out _ _ ?_ (fun hHeld=>?_)
     ·first | exact HS1.o | (rw [←hw7];exact HS1.o) | exact HS8.o
     clear hK K
     try simp only [Dw.lay,Act.put]
     refine Dw.rd1 8 rfl (fun K hK=>?_)
     clear hHeld
     go_simp
     refine hK.out _ _ ?_ (fun hHeld=>?_)
     ·first | exact HS1.o | (rw [←hw7];exact HS1.o) | exact HS8.o
     clear hK K
     try simp only [Dw.lay,Act.put]
     refine dZ zb ?_ _
     clear hHeld;have HE:Hid (zAN t w (.returned (.tuple #[.agg #[.slice none 0 0,.slice none 0 0,.slice none 0 0],.int .i64 ((k:Int)+1),.int .i64 10])) (((w7.setCell ⟨w.heap.size,0,none⟩ (.slice none 0 0)).setCell ⟨w.heap.size,1,none⟩ (.slice none 0 0)).setCell ⟨w.heap.size,2,none⟩ (.slice none 0 0))):=zAN.no HERR.o (zBE HZ7.o.2 (aB _) _ _ _);go_wp2;refine dD (v:=.tuple #[.agg #[.slice none 0 0,.slice none 0 0,.slice none 0 0],.int .i64 ((k:Int)+1),.int .i64 10]) ?_ rfl HE.o
     simp [results,Tryz.results5,go_sem,z0,z1,z2]
    case pos =>
     have q2:(ofL ll).toList.isEmpty=true:=zAm (by rw [hll];rfl)
     obtain ⟨A1,c1,hv1,hr1⟩:=HM6.o.o1.rd2;obtain ⟨A2,c2,hv2,hr2⟩:=HM6.o.o2.rd1;obtain ⟨A3,c3,hv3,hr3⟩:=des_own HM6.o.o3 (fun d hd=>(HM6.o.ds rfl d hd).ok)
     have HR1:=zq hr1;have HO1:=zq HM6.o.o1;have HO2:=zq HM6.o.o2;have HO3:=zq HM6.o.o3;have HDD:=zq (HM6.o.ds rfl);have HR2:=zq hr2;have HR3:=zq hr3;subst hv1;subst hv2;subst hv3
     have HEND:Hid (zEp t=if chkT rs us T=0 then ((rs,us,T.map zBr),0,0) else (([],[],[]),0,chkT rs us T)):=by
      show _=_
      rw [HRF.o,HP.o];simp only [hll,chkT_plain]
      by_cases hz:chkT rs us T=0<;>simp [hz]
     clear HRF HP q1 hll hr1 hr2 hr3;have y0:w6.cell? ⟨r+1,0,none⟩=some (.slice A1 rs.length c1):=HM6.o.bx.c 0 rfl;have y1:w6.cell? ⟨r+1,1,none⟩=some (.slice A2 us.length c2):=HM6.o.bx.c 1 rfl;have y2:w6.cell? ⟨r+1,2,none⟩=some (.slice A3 T.length c3):=HM6.o.bx.c 2 rfl;have ys:=HM6.o.bx.lt;have HCK:=zq (CheckT_c A1 c1 rs A2 c2 us A3 c3 T w6 HR1.o HR2.o HR3.o (fun i h=>by have:=HSM.o.2.1 i h;omega) (fun i h=>by have:=HSM.o.2.2 i h;omega))
     go_wp2_with fail
     with_reducible refine HCK.o.mono ?_
     rintro e w7 ⟨rfl,hb7⟩;have HB7:=zq hb7;have HX7:=zq (HM6.o.bx.below hb7);have HZ6:=HZ.o w6 HM6.o.bel;have HZ7:Hid (Bx w7 w.heap.size #[.slice none 0 0,.slice none 0 0,.slice none 0 0] 26∧Below w.heap.size w w7):=⟨HZ6.1.below hb7,HZ6.2.trans (hb7.mono (by have:=HZ6.1.lt;omega))⟩
     have hlt2:=HLr.o zk;clear x2 xs y0 y1 y2 ys hb7 HCK HM6 HZ6 q2;obtain ⟨z0,z1,z2⟩:=HZ7.o.1.t;have f0:=HZ7.o.1.frozen 0;have f1:=HZ7.o.1.frozen 1;have f2:=HZ7.o.1.frozen 2;have hsz:=HZ7.o.1.lt
     by_cases hcz:chkT rs us T=0
     case neg =>
      have hcb:(chkT rs us T != 0)=true:=by simpa using hcz
      have HE:Hid (zAN t w (.returned (.tuple #[.agg #[.slice none 0 0,.slice none 0 0,.slice none 0 0],.int .i64 0,.int .i64 (chkT rs us T)])) (((w7.setCell ⟨w.heap.size,0,none⟩ (.slice none 0 0)).setCell ⟨w.heap.size,1,none⟩ (.slice none 0 0)).setCell ⟨w.heap.size,2,none⟩ (.slice none 0 0))):=zAN.no (by rw [HEND.o,aC hcz]) (zBE HZ7.o.2 (aB _) _ _ _)
      clear hcz hlt2;go_wp2;refine dD (v:=.tuple #[.agg #[.slice none 0 0,.slice none 0 0,.slice none 0 0],.int .i64 0,.int .i64 (chkT rs us T)]) ?_ rfl HE.o
      simp [results,Tryz.results5,go_sem,z0,z1,z2]
     case pos =>
      have hk2:L.length≤600000:=hLm;have hbs:=zBE HZ7.o.2 (aB _) (.slice A1 rs.length c1) (.slice A2 us.length c2) (.slice A3 T.length c3)
      have HE:Hid (zAN t w (.returned (.tuple #[.agg #[.slice A1 rs.length c1,.slice A2 us.length c2,.slice A3 T.length c3],.int .i64 0,.int .i64 0])) (((w7.setCell ⟨w.heap.size,0,none⟩ (.slice A1 rs.length c1)).setCell ⟨w.heap.size,1,none⟩ (.slice A2 us.length c2)).setCell ⟨w.heap.size,2,none⟩ (.slice A3 T.length c3))) :=
       ⟨A1,c1,rs,A2,c2,us,A3,c3,T,0,0,rfl,by rw [HEND.o,aE hcz],fin_rows za _ _ _ (HO1.o.below HB7.o) (HO2.o.below HB7.o) (HO3.o.below HB7.o) (fun d h=>(HDD.o d h).below HB7.o),⟨HSM.o.1.1,HSM.o.1.2,za⟩,HSM.o.2.1,HSM.o.2.2,hbs⟩
      rw [hcz];clear hcz hlt2 hbs;obtain ⟨g0,g1,g2⟩:=HX7.o.t;have gs:=HX7.o.lt;go_wp2;refine dD (v:=.tuple #[.agg #[.slice A1 rs.length c1,.slice A2 us.length c2,.slice A3 T.length c3],.int .i64 0,.int .i64 0]) ?_ rfl HE.o
      simp [results,Tryz.results5,go_sem,z0,z1,z2]
   case pos =>
    have q1:decide ((k:Int)<(L.length:Int))=true:=cP za;go_upto_region 8 with fail
    go_quiet (fail)
    obtain ⟨wk,hwk⟩:∃ wk,wk=(wr.drewN nq).drew:=⟨_,rfl⟩;have HMk:Hid (DsM w4 (w.heap.size+1) r (r+1) (some ⟨b,0,none⟩) (m+1) L rs v1 us v2 T v3 k false wk):=by show DsM _ _ _ _ _ _ _ _ _ _ _ _ _ _ _ _;rw [hwk];exact (HMr.o.below (zAc (bS _ _) nq)).below (zAc (bS _ _) 1)
    have HAd:Hid (wk.cell? ⟨r+1,2,none⟩=some v3):=HMk.o.bx.c 2 rfl;have HDE:=zq (rdDeed_c r (some ⟨b,0,none⟩) (m+1) L k wk HMk.o.rd (HG4.o.belB HMk.o.bel qt) qt);have hlt2:=HLr.o zk;clear x0 x1 x2 xs q1 HMr hkw;go_upto_region 9 with fail
    refine zCn (S:=SLq 7 (fun w'=>w'.cell? ⟨r+1,2,none⟩=some v3)) zb (fun _=>xh) ?_
    intro hsh _;rw [←hwk];clear hwk;refine zAx (i:=0) (v:=?_) rfl zb zb zb (fun _ _ _ h=>h) (SLq.iff zc) hsh (Or.inl ⟨zb,?_⟩) (fun _=>HAd.o) ?_
    rotate_left 1
    ·(intro w9 _;go_simp;try with_reducible rfl)
    intro hsh _;simp only [eB,cN,Act.put,cF,dY,bV] at hsh ⊢;refine zAx (i:=1) (v:=?_) rfl zb zb zb (fun _ _ _ h=>h) (SLq.iff zc) hsh (Or.inl ⟨zb,?_⟩) (fun _=>HAd.o) ?_
    rotate_left 1
    ·(intro w9 hw9;have hA:=SLq.ahead (n:=7) zb hw9;skip;go_simp;try with_reducible rfl)
    intro hsh _;simp only [Dw.lay,Act.put] at hsh ⊢;refine zAx (i:=2) (v:=?_) rfl zb zb zb (fun _ _ _ h=>h) (SLq.iff zc) hsh (Or.inl ⟨zb,?_⟩) (fun _=>HAd.o) ?_
    rotate_left 1
    ·(intro w9 _;go_simp;try with_reducible rfl)
    intro hsh _;simp only [Dw.lay,Act.put] at hsh ⊢;clear hsh;refine zAI (rs:=[3]) zb zd ?_
    refine zCX.cons rfl (fun K hK=>?_) zCX.nil
    go_simp
    go_at_call 12
    with_reducible refine HDE.o.mono ?_
    rintro e w6 ⟨d,k',bad',rfl,hd,hi,hgr,hst⟩;have hm6:=HMk.o.read hi hgr
    have HQ6:Hid (bad'=false→DsQ w4.heap.size v3 w6 d):=fun hb=>by
     have h1:=(deedX_sm (HSH.o.dropk k) (hst.2 hb).symm).1;exact dsQ_of hd (by have:=HMk.o.size;omega) ⟨h1.strs,h1.lens,h1.shz⟩ HMk.o.o3 (Nat.le_succ _)
    have HM6:=zq hm6;have HST:=zq hst;have HA6:Hid (w6.cell? ⟨r+1,2,none⟩=some v3):=hm6.bx.c 2 rfl;have hba:Below w6.heap.size w6 (w6.alloc (.cells (deC d) 47)):=(bS _ _).alloc (aB _) _;have HA7:=zq (zAh hba HA6.o);have HM7:=zq (hm6.below hba);have HQ7:Hid (bad'=false→DsQ w4.heap.size v3 (w6.alloc (.cells (deC d) 47)) d):=fun hb=>(HQ6.o hb).below hba
    clear hd hi hgr hst hm6 hba HDE;refine hK.out _ _ (fun _=>HA6.o) (fun _=>?_)
    clear hK K
    try simp only [Dw.lay,Act.put]
    refine zAI (rs:=[4]) zb zd ?_
    refine zCX.cons rfl (fun K hK=>?_) zCX.nil
    go_simp
    refine hK.out _ _ (fun _=>HA7.o) (fun _=>?_)
    clear hK K
    try simp only [Dw.lay,Act.put]
    refine zAI (rs:=[5]) zb zd ?_
    refine zCX.cons rfl (fun K hK=>?_) zCX.nil
    refine step_pushC (k:=16) (enc:=eDq) zo _ _ _ zo elDq w4.heap.size v3 T zo HM7.o.o3 w6.heap.size 1 d zo (cI w6 _) rfl rfl (oneDq _) zt za HM7.o.size ?_
    intro g9 cap9 w9 ho9 hg9 hv9;obtain ⟨z0,zs,zf,hm9⟩:=HM7.o.push HQ7.o ho9 hg9 (hv9.imp (fun e=>e.symm) fun e=>⟨_,by rw [e];rfl,aB _⟩)
    have HM9:=zq hm9;have HA9:Hid (w9.cell? ⟨r+1,2,none⟩=some v3):=z0;have zf2:=zf 2;clear hm9 zf ho9 hg9 hv9;refine hK.out _ _ (fun _=>HA9.o) (fun _=>?_)
    clear hK K
    try simp only [Dw.lay,Act.put]
    refine zAI (rs:=[6]) zb zd ?_
    refine zCX.cons rfl (fun K hK=>?_) zCX.nil
    go_simp
    refine hK.out _ _ (fun _=>HA9.o) (fun _=>?_)
    clear hK K
    try simp only [Dw.lay,Act.put]
    refine zAI (rs:=[7]) zb zd ?_
    refine zCX.cons rfl (fun K hK=>?_) zCX.nil
    go_simp
    refine hK.out _ _ (fun h=>absurd h zc) (fun _=>?_)
    clear hK K
    try simp only [Dw.lay,Act.put]
    refine anyL_done zb ?_ _
    obtain ⟨hp1,hp2⟩:=HPr.o.step hk HST.o;have HP1:=zq hp1;have HP2:=zq hp2;have HL1:=HTK.o k;have HL2:=HTK.o k';clear hp1 hp2 HST HA6 HA7 HA9 HM6 HM7 HQ6 HQ7 z0 zs zf2 HAd HMk
    go_wp2_with fail
    go_roundg (gk - 1)
    case measure=>omega
    case rel=>exact ⟨T++[d],_,k',bad',HM9.o,HP1.o,(fun hb=>by have:=HP2.o hb;rw [cY,dK];omega),vm,za⟩
structure GS (w:World) (RA:Option Addr) (rc:Nat) (rs:List Rg) (UA:Option Addr) (uc:Nat) (us:List BA) (DA:Option Addr) (dc:Nat) (ds:List De) (d:De) (W:World):Prop where
 bel:Below w.heap.size w W
 ti:Bx W w.heap.size (tiC RA rc rs UA uc us DA dc ds) 26
 de:Bx W (w.heap.size+1) (deC d) 47
section
variable {w W W':World} {RA:Option Addr} {rc:Nat} {rs:List Rg} {UA:Option Addr} {uc:Nat} {us:List BA} {DA:Option Addr} {dc:Nat} {ds:List De} {d:De}
theorem GS.below (h:GS w RA rc rs UA uc us DA dc ds d W) (hb:Below W.heap.size W W'):GS w RA rc rs UA uc us DA dc ds d W':=⟨zAb h.bel hb,h.ti.below hb,h.de.below hb⟩
theorem GS.drewN (h:GS w RA rc rs UA uc us DA dc ds d W) (n:Nat):GS w RA rc rs UA uc us DA dc ds d (W.drewN n):=h.below (zAc (bS _ _) n)
theorem GS.drew (h:GS w RA rc rs UA uc us DA dc ds d W):GS w RA rc rs UA uc us DA dc ds d W.drew:=h.drewN 1
theorem GS.alloc (h:GS w RA rc rs UA uc us DA dc ds d W) (o:Obj):GS w RA rc rs UA uc us DA dc ds d (W.alloc o):=h.below ((bS _ _).alloc (aB _) o)
end
theorem chkA_lenC {l:List Rg} {a:List Ar} (h:zDN l a=0):a.length≤100:=by
 unfold zDN at h
 split at h
 ·cases h
 ·omega
def giftU (us:List BA) (d:De):Int:=if useF us d.us≠0 then useF us d.us else if zCm d.bg=false∨zCm d.en=false then 1 else if d.en≤d.bg then 8 else 0
def giftP (rs:List Rg) (us:List BA) (d:De):Int:=if zDN rs d.ar≠0 then zDN rs d.ar else if zBG rs d.ar=[]∨d.us=[] then 9 else giftU us d
theorem giftF_eq (rs:List Rg) (us:List BA) (d:De):giftF rs us d=if zBA d.th=false∨zBA d.fr=false∨zBA d.to_=false then 5 else if d.fr=d.to_ then 12 else if parF d≠0 then parF d else giftP rs us d:=rfl
def GURel (w:World) (RA:Option Addr) (rc:Nat) (rs:List Rg) (UA:Option Addr) (uc:Nat) (us:List BA) (DA:Option Addr) (dc:Nat) (ds:List De) (d:De) (m:Nat) (i:Value) (wr:World):Prop :=
 GS w RA rc rs UA uc us DA dc ds d wr∧∃ k:Nat,k+m=d.us.length∧i = .int .i64 k∧∀ j,j<k→zBH us d.us j=none
theorem checkGiftR_c (RA:Option Addr) (rc:Nat) (rs:List Rg) (UA:Option Addr) (uc:Nat) (us:List BA) (DA:Option Addr) (dc:Nat) (ds:List De) (d:De) (w:World) (g:GoodR rs) (hr:Rgs w RA rs) (hu:Strs w UA us) (hul:us.length≤1000000) (hd:DeOk w d) :
  Calls Tryz.prog 84 #[.agg (tiC RA rc rs UA uc us DA dc ds),deV d] w (zAd (.int .i64 (giftF rs us d)) w):=by
 generalize hres:giftF rs us d=res;rw [giftF_eq] at hres;have HR:=zq hres;clear hres;have HD:=zq hd;clear hd;have HRG:=zq hr;have HU:=zq hu;clear hr hu;obtain ⟨z1,z2,z3,z4,z5,z6⟩:=HD.o.strs;have hn1:=fun W=>zBy d.th W z2
 have hn2:=fun W=>zBy d.fr W z3
 have hn3:=fun W=>zBy d.to_ W z4
 have HST0:Hid (GS w RA rc rs UA uc us DA dc ds d ((w.alloc (.cells (tiC RA rc rs UA uc us DA dc ds) 26)).alloc (.cells (deC d) 47))) :=
  ⟨((bS w.heap.size w).alloc (aB _) _).alloc zd _,(Bx.new _ _ _).alloc _,Bx.new1 _ _ _ _⟩
 obtain ⟨W,hW⟩:∃ W,W=(w.alloc (.cells (tiC RA rc rs UA uc us DA dc ds) 26)).alloc (.cells (deC d) 47):=⟨_,rfl⟩;rw [←hW] at HST0
 go_enter Tryz.func84,Tryz.ntmps84
 go_upto_region 1 with fail
 rw [←hW];clear hW;have y3:=HST0.o.de.c 3 rfl;have y4:=HST0.o.de.c 4 rfl;have y5:=HST0.o.de.c 5 rfl;have ys:=HST0.o.de.lt
 cases h1:zBA d.th with
 | false =>
  rw [h1] at hn1;have HN1:=zq hn1;have HS:Hid (res=5):=by show _=_;rw [←HR.o,aE (.inl h1)]
  clear h1 hn1 hn2 hn3
  go_wp2_with fail
  with_reducible refine (HN1.o _).mono ?_
  rintro e w1 ⟨rfl,rfl⟩;go_wp2;go_ret
  exact zAd.mk (zAC HS.o.symm) HST0.o.bel
 | true =>
 rw [h1] at hn1;have HN1:=zq hn1
 cases h2:zBA d.fr with
 | false =>
  rw [h2] at hn2;have HN2:=zq hn2;have HS:Hid (res=5):=by show _=_;rw [←HR.o,aE (.inr (.inl h2))]
  clear h1 h2 hn1 hn2 hn3
  go_wp2_with fail
  with_reducible refine (HN1.o _).mono ?_
  rintro e w1 ⟨rfl,rfl⟩
  go_wp2_with fail
  with_reducible refine (HN2.o _).mono ?_
  rintro e w2 ⟨rfl,rfl⟩;go_wp2;go_ret
  exact zAd.mk (zAC HS.o.symm) HST0.o.bel
 | true =>
 rw [h2] at hn2;have HN2:=zq hn2
 cases h3:zBA d.to_ with
 | false =>
  rw [h3] at hn3;have HN3:=zq hn3;have HS:Hid (res=5):=by show _=_;rw [←HR.o,aE (.inr (.inr h3))]
  clear h1 h2 h3 hn1 hn2 hn3
  go_wp2_with fail
  with_reducible refine (HN1.o _).mono ?_
  rintro e w1 ⟨rfl,rfl⟩
  go_wp2_with fail
  with_reducible refine (HN2.o _).mono ?_
  rintro e w2 ⟨rfl,rfl⟩
  go_wp2_with fail
  with_reducible refine (HN3.o _).mono ?_
  rintro e w3 ⟨rfl,rfl⟩;go_wp2;go_ret
  exact zAd.mk (zAC HS.o.symm) HST0.o.bel
 | true =>
 rw [h3] at hn3;have HN3:=zq hn3
 have HR1:Hid ((if d.fr=d.to_ then 12 else if parF d≠0 then parF d else giftP rs us d)=res):=by
  show _=_
  have hh:=HR.o
  rwa [aC (by rw [h1,h2,h3];simp)] at hh
 clear h1 h2 h3 hn1 hn2 hn3 HR
 go_wp2_with fail
 with_reducible refine (HN1.o _).mono ?_
 rintro e w1 ⟨rfl,rfl⟩
 go_wp2_with fail
 with_reducible refine (HN2.o _).mono ?_
 rintro e w2 ⟨rfl,rfl⟩
 go_wp2_with fail
 with_reducible refine (HN3.o _).mono ?_
 rintro e w3 ⟨rfl,rfl⟩;clear HN1 HN2 HN3
 by_cases hft:d.fr=d.to_
 ·have HS:Hid (res=12):=by show _=_;rw [←HR1.o,aE hft]
  have q1:=zAy hft;clear hft;go_wp2;go_ret
  exact zAd.mk (zAC HS.o.symm) HST0.o.bel
 have q1:=zAo hft
 have HR2:Hid ((if parF d≠0 then parF d else giftP rs us d)=res):=by
  show _=_
  have hh:=HR1.o
  rwa [aC hft] at hh
 clear hft HR1;have y2:_=some (Value.int .i64 d.kd):=HST0.o.de.c 2 rfl
 by_cases hk2:d.kd=2
 case' neg =>
  have k2:(d.kd == 2)=false:=by simpa using hk2
  have HR3:Hid (giftP rs us d=res):=by
   show _=_
   have hh:=HR2.o
   rwa [aC (fun h=>h (by unfold parF;rw [aE hk2]))] at hh
  have HSTc:=HST0;clear HST0 HR2 hk2;go_upto_region 12 with fail
 case' pos =>
  have k2:(d.kd == 2)=true:=by simpa using hk2
  have y6:=HST0.o.de.c 6 rfl;have y7:=HST0.o.de.c 7 rfl
  go_wp2_with fail
  with_reducible refine (chkRatioR_c d.nu d.de _ z5 z6).mono ?_
  rintro e w4 ⟨rfl,hb4⟩;have HST1:=zq (HST0.o.below hb4);clear y2 y3 y4 y5 y6 y7 ys hb4 HST0
  by_cases hr:ratF d.nu d.de=0
  case' neg =>
   have HS:Hid (res=ratF d.nu d.de):=by
    show _=_
    have e:parF d=ratF d.nu d.de:=by unfold parF;rw [aC (fun h=>h hk2),aE hr]
    rw [←HR2.o,e,aE hr]
   have hrb2:(ratF d.nu d.de != 0)=true:=by simpa using hr
   clear hr;go_wp2;go_ret
   exact zAd.mk (zAC HS.o.symm) HST1.o.bel
  have HP:Hid (parF d=if posB d.nu=false∨zAK d.de<zAK (zBh d.nu) then 1 else 0):=by
   show _=_
   unfold parF;rw [aC (fun h=>h hk2),aC (fun h=>h hr)]
  obtain ⟨p1,p2,p3,p4,p5⟩:=ratF_zero hr;have HLN:Hid ((zAe BT (zAK (zBh d.nu))).length≤500):=words_dec5 (zBt p1).1 p4;have HLD:Hid ((zAe BT (zAK d.de)).length≤500):=words_dec5 (zBt p2).1 p5;have HDP:Hid (0<zAK d.de):=den_pos p2 p3;have HFR:=zq (Of_cT d.nu d.de w4 (zBt p1).1 p4 (zBt p2).1 p5);have y6:=HST1.o.de.c 6 rfl;have y7:=HST1.o.de.c 7 rfl;rw [hr];clear p1 p2 p3 p4 p5 hr
  go_wp2_with fail
  with_reducible refine HFR.o.mono ?_
  rintro e w5 ⟨A5,c5,A6,c6,rfl,h5,h6,hb5⟩;have HST2:=zq (HST1.o.below hb5);clear y6 y7 hb5 HST1 HFR;obtain ⟨nv,hnv⟩:∃ nv,zAK (zBh d.nu)=nv:=⟨_,rfl⟩;obtain ⟨dv,hdv⟩:∃ dv,zAK d.de=dv:=⟨_,rfl⟩;rw [hnv,hdv] at HP;rw [hnv] at HLN;rw [hdv] at HLD HDP;rw [hnv] at h5;rw [hdv] at h6;rw [hnv,hdv];have HNV:=zq hnv;clear hnv hdv;have HXB:Hid (Bx (w5.alloc (.cells (nuC (zDo d.nu) A5 c5 nv A6 c6 dv) 163)) w5.heap.size (nuC (zDo d.nu) A5 c5 nv A6 c6 dv) 163):=Bx.new _ _ _;have HST3:=zq (HST2.o.alloc (.cells (nuC (zDo d.nu) A5 c5 nv A6 c6 dv) 163));have H5:=zq (h5.alloc (.cells (nuC (zDo d.nu) A5 c5 nv A6 c6 dv) 163));have H6:=zq (h6.alloc (.cells (nuC (zDo d.nu) A5 c5 nv A6 c6 dv) 163));clear h5 h6 HST2;go_upto_region 10 with fail
  obtain ⟨W5,hW5⟩:∃ W5,W5=w5.alloc (.cells (nuC (zDo d.nu) A5 c5 nv A6 c6 dv) 163):=⟨_,rfl⟩;rw [←hW5] at HXB HST3 H5 H6
  try rw [←hW5]
  clear hW5
  cases hng:zDo d.nu
  case' true =>
   have HS:Hid (res=1):=by
    show _=_
    have e:parF d=1:=by rw [HP.o,aE (.inl (by unfold posB;rw [hng];rfl))]
    rw [←HR2.o,e];rfl
   have n0:W5.cell? ⟨w5.heap.size,0,none⟩=some (.bool true):=by rw [←hng];exact HXB.o.c 0 rfl
   have ns:=HXB.o.lt
   try rw [hng]
   clear hng
   go_quiet (fail)
   go_wp2;go_ret
   exact zAd.mk (zAC HS.o.symm) (HST3.o.drewN _).bel
  rw [hng] at HXB;obtain ⟨n0,n1,n2⟩:=HXB.o.t;have hiz:=fun W=>isZero_c false A5 A6 c5 c6 nv dv W
  by_cases hv0:nv=0
  case' pos =>
   have HS:Hid (res=1):=by
    show _=_
    have e:parF d=1:=by rw [HP.o,aE (.inl (by unfold posB;rw [HNV.o,hv0];simp))]
    rw [←HR2.o,e];rfl
   rw [cP hv0] at hiz;have HIZ:=zq hiz;clear hiz hng hv0;have HS0:Hid (W5.cell? ⟨w5.heap.size,0,none⟩=some (.bool false)∧W5.cell? ⟨w5.heap.size,1,none⟩=some (.slice A5 (zAe BT nv).length c5)∧W5.cell? ⟨w5.heap.size,2,none⟩=some (.slice A6 (zAe BT dv).length c6)):=⟨n0,n1,n2⟩;refine dW (S:=(fun w'=>w'.cell? ⟨w5.heap.size,0,none⟩=some (.bool false)∧w'.cell? ⟨w5.heap.size,1,none⟩=some (.slice A5 (zAe BT nv).length c5)∧w'.cell? ⟨w5.heap.size,2,none⟩=some (.slice A6 (zAe BT dv).length c6))) zb ?_ (fun hHeld=>?_)
   ·exact HS0.o
   refine Dw.rd1 0 rfl (fun K hK=>?_)
   clear hHeld
   go_simp
   refine hK.out _ _ ?_ (fun hHeld=>?_)
   ·exact HS0.o
   clear hK K
   try simp only [Dw.lay,Act.put]
   refine Dw.rd1 1 rfl (fun K hK=>?_)
   clear hHeld
   go_simp
   refine hK.out _ _ ?_ (fun hHeld=>?_)
   ·exact HS0.o
   clear hK K
   try simp only [Dw.lay,Act.put]
   refine Dw.rd1 2 rfl (fun K hK=>?_)
   clear hHeld
   go_simp
   refine hK.out _ _ ?_ (fun hHeld=>?_)
   ·exact HS0.o
   clear hK K
   try simp only [Dw.lay,Act.put]
   refine Dw.rd1 3 rfl (fun K hK=>?_)
   clear hHeld
   go_simp
   refine hK.out _ _ ?_ (fun hHeld=>?_)
   ·exact HS0.o
   clear hK K
   try simp only [Dw.lay,Act.put]
   refine Dw.rd1 4 rfl (fun K hK=>?_)
   clear hHeld
   go_simp
   go_at_call 119
   with_reducible refine (HIZ.o _).mono ?_
   rintro e w8 ⟨rfl,hb8⟩;have HST8:=zq (HST3.o.drew.below hb8);have HXB8:=zq (HXB.o.drew.below hb8);obtain ⟨b0,b1,b2⟩:=HXB8.o.t;clear hb8 n0 n1 n2
   try go_wp2_with fail
   refine hK.out _ _ ?_ (fun hHeld=>?_)
   ·exact ⟨b0,b1,b2⟩
   clear hK K
   try simp only [Dw.lay,Act.put]
   refine Dw.rd1 5 rfl (fun K hK=>?_)
   clear hHeld
   go_simp
   refine hK.out _ _ ?_ (fun hHeld=>?_)
   ·exact ⟨b0,b1,b2⟩
   clear hK K
   try simp only [Dw.lay,Act.put]
   refine Dw.rd1 6 rfl (fun K hK=>?_)
   clear hHeld
   go_simp
   refine hK.out _ _ ?_ (fun hHeld=>?_)
   ·exact ⟨b0,b1,b2⟩
   clear hK K
   try simp only [Dw.lay,Act.put]
   refine wpAnyH_ready (rs:=[7,8]) zb zd ?_
   refine AllReadyH.cons rfl (fun K hK=>?_) (AllReadyH.cons rfl (fun K hK=>?_) AllReadyH.nil)
   ·clear hHeld
    go_simp
    refine hK.out _ _ ?_ (fun hHeld=>?_)
    ·exact ⟨b0,b1,b2⟩
    clear hK K
    try simp only [Dw.lay,Act.put]
    refine Dw.rd1 8 rfl (fun K hK=>?_)
    clear hHeld
    go_simp
    refine hK.out _ _ ?_ (fun hHeld=>?_)
    ·exact ⟨b0,b1,b2⟩
    clear hK K
    try simp only [Dw.lay,Act.put]
    refine Dw.rd1 9 rfl (fun K hK=>?_)
    clear hHeld
    go_simp
    refine hK.out _ _ ?_ (fun hHeld=>?_)
    ·exact ⟨b0,b1,b2⟩
    clear hK K
    try simp only [Dw.lay,Act.put]
    refine Dw.rd1 10 rfl (fun K hK=>?_)
    clear hHeld
    go_simp
    refine hK.out _ _ ?_ (fun hHeld=>?_)
    ·exact ⟨b0,b1,b2⟩
    clear hK K
    try simp only [Dw.lay,Act.put]
    refine Dw.rd1 11 rfl (fun K hK=>?_)
    clear hHeld
    go_simp
    refine hK.out _ _ ?_ (fun hHeld=>?_)
    ·exact ⟨b0,b1,b2⟩
    clear hK K
    try simp only [Dw.lay,Act.put]
    refine dZ zb ?_ _
    clear hHeld;go_wp2;go_ret
    exact zAd.mk (zAC HS.o.symm) HST8.o.bel
   ·clear hHeld
    go_simp
    refine hK.out _ _ ?_ (fun hHeld=>?_)
    ·exact ⟨b0,b1,b2⟩
    clear hK K
    try simp only [Dw.lay,Act.put]
    refine Dw.rd1 7 rfl (fun K hK=>?_)
    clear hHeld
    go_simp
    refine hK.out _ _ ?_ (fun hHeld=>?_)
    ·exact ⟨b0,b1,b2⟩
    clear hK K
    try simp only [Dw.lay,Act.put]
    refine Dw.rd1 9 rfl (fun K hK=>?_)
    clear hHeld
    go_simp
    refine hK.out _ _ ?_ (fun hHeld=>?_)
    ·exact ⟨b0,b1,b2⟩
    clear hK K
    try simp only [Dw.lay,Act.put]
    refine Dw.rd1 10 rfl (fun K hK=>?_)
    clear hHeld
    go_simp
    refine hK.out _ _ ?_ (fun hHeld=>?_)
    ·exact ⟨b0,b1,b2⟩
    clear hK K
    try simp only [Dw.lay,Act.put]
    refine Dw.rd1 11 rfl (fun K hK=>?_)
    clear hHeld
    go_simp
    refine hK.out _ _ ?_ (fun hHeld=>?_)
    ·exact ⟨b0,b1,b2⟩
    clear hK K
    try simp only [Dw.lay,Act.put]
    refine dZ zb ?_ _
    clear hHeld;go_wp2;go_ret
    exact zAd.mk (zAC HS.o.symm) HST8.o.bel
  case' neg =>
   rw [cQ hv0] at hiz;have HIZ:=zq hiz
   have HP2:Hid (parF d=if dv<nv then 1 else 0):=by
    show _=_
    rw [HP.o]
    by_cases h:dv<nv
    ·rw [aE (.inr h),aE h]
    ·rw [aC (fun hh=>hh.elim (fun q=>by unfold posB at q;rw [hng,HNV.o] at q;simp [hv0] at q) h),aC h]
   clear hiz hng hv0
   go_region_held3 (fun w'=>w'.cell? ⟨w5.heap.size,0,none⟩=some (.bool false)∧w'.cell? ⟨w5.heap.size,1,none⟩=some (.slice A5 (zAe BT nv).length c5)∧w'.cell? ⟨w5.heap.size,2,none⟩=some (.slice A6 (zAe BT dv).length c6)) ((refine ⟨?_,?_,?_⟩<;>first | with_reducible assumption | go_simp))
    (first
     | ((go_at_call 119;(with_reducible refine (HIZ.o _).mono ?_);rintro e w8 ⟨rfl,hb8⟩;have HST8:=zq (HST3.o.drew.below hb8);have HXB8:=zq (HXB.o.drew.below hb8);have H58:=zq (H5.o.drew.below hb8);have H68:=zq (H6.o.drew.below hb8);obtain ⟨b0,b1,b2⟩:=HXB8.o.t;clear hb8))
     | ((go_at_call 121;(with_reducible refine (Int_1 w8).mono ?_);rintro e w9 ⟨A7,c7,A8,c8,rfl,h7,h8,hb9⟩;have HST9:=zq (HST8.o.below hb9);have HXB9:=zq (HXB8.o.below hb9);have H59:=zq (H58.o.below hb9);have H69:=zq (H68.o.below hb9);obtain ⟨e0,e1,e2⟩:=HXB9.o.t;clear hb9))
     | ((go_at_call 120;(with_reducible refine (compare_cT A5 A6 A7 A8 c5 c6 c7 c8 _ _ 1 1 w9 H59.o H69.o h7 h8 (cV HLN.o zc) (cV HLD.o zc) zc zc HDP.o zc).mono ?_);rintro e w10 ⟨rfl,hb10⟩;have HST10:=zq (HST9.o.below hb10);have HXB10:=zq (HXB9.o.below hb10);obtain ⟨f0,f1,f2⟩:=HXB10.o.t;clear hb10)))
   clear n0 n1 n2 b0 b1 b2 e0 e1 e2 f0 f1 f2 HST3 HST8 HST9 HXB HXB8 HXB9 HXB10 H5 H6 H58 H68 H59 H69 h7 h8 HLN HLD HDP
   try simp only [bP,Nat.one_mul]
   by_cases hlt:dv<nv
   ·have HS:Hid (res=1):=by
     show _=_
     have e:parF d=1:=by rw [HP2.o,aE hlt]
     rw [←HR2.o,e];rfl
    rw [zBT hlt];clear hlt;go_wp2;go_ret
    exact zAd.mk (zAC HS.o.symm) HST10.o.bel
   have HR3:Hid (giftP rs us d=res):=by
    show _=_
    have hh:=HR2.o
    rwa [aC (fun h=>h (by rw [HP2.o,aC hlt]))] at hh
   obtain ⟨cv,hcv,hc0⟩:∃ cv,zDD nv dv=cv∧cv≤0:=by
    rcases bO nv dv with h | h
    ·exact ⟨-1,zBU h,zc⟩
    ·exact ⟨0,zDa za,zc⟩
   rw [hcv];clear hcv;have HSTc:=HST10;clear hlt;go_upto_region 12 with fail
 all_goals
  try clear y2 y3 y4 y5 ys q1 k2
  have y0:=HSTc.o.ti.c 0 rfl;have y1:=HSTc.o.ti.c 1 rfl;have y9:=HSTc.o.de.c 10 rfl;have y10:=HSTc.o.de.c 11 rfl;have yt:=HSTc.o.ti.lt;have ys:=HSTc.o.de.lt
  go_wp2_with fail
  with_reducible refine (checkAreaR_c RA d.arA rc d.arc rs d.ar _ g.len (HRG.o.below HSTc.o.bel) (HD.o.ars.below HSTc.o.bel)).mono ?_
  rintro e w20 ⟨rfl,nd,rfl⟩
  by_cases hch:zDN rs d.ar=0
  case' neg =>
   have HS:Hid (res=zDN rs d.ar):=by
    show _=_
    rw [←HR3.o];unfold giftP;rw [aE hch]
   have hrb2:(zDN rs d.ar != 0)=true:=by simpa using hch
   clear hch;go_wp2;go_ret
   exact zAd.mk (zAC HS.o.symm) (HSTc.o.drewN nd).bel
  have HAL:=zq (chkA_lenC hch)
  have HR4:Hid ((if zBG rs d.ar=[]∨d.us=[] then 9 else giftU us d)=res):=by
   show _=_
   have hh:=HR3.o;unfold giftP at hh
   rwa [aC (fun h=>h hch)] at hh
  have HSTd:=zq (HSTc.o.drewN nd);rw [hch];clear hch HR3
  go_wp2_with fail
  with_reducible refine (leaves_c RA d.arA rc d.arc rs d.ar _ g (HRG.o.below HSTd.o.bel) (HD.o.ars.below HSTd.o.bel) HAL.o).mono ?_
  rintro e w21 ⟨A9,c9,rfl,_,hb21⟩;have HSTe:=zq (HSTd.o.below hb21);clear y0 y1 y9 y10 yt ys hb21 HSTd HSTc;have y10:=HSTe.o.de.c 11 rfl;have ys:=HSTe.o.de.lt
  by_cases hl0:(zBG rs d.ar).length=0
  case' pos =>
   have HS:Hid (res=9):=by
    show _=_
    rw [←HR4.o,aE (.inl (List.length_eq_zero_iff.1 hl0))]
   go_wp2;go_ret
   exact zAd.mk (zAC HS.o.symm) HSTe.o.bel
  have hlb:(((zBG rs d.ar).length:Int) == 0)=false:=by simp;intro e;exact hl0 (by rw [e];rfl)
  by_cases hu0:d.us.length=0
  case' pos =>
   have HS:Hid (res=9):=by
    show _=_
    rw [←HR4.o,aE (.inr (List.length_eq_zero_iff.1 hu0))]
   clear hl0;go_wp2;go_ret
   exact zAd.mk (zAC HS.o.symm) HSTe.o.bel
  have hub:((d.us.length:Int) == 0)=false:=by simp;intro e;exact hu0 (by rw [e];rfl)
  have HR5:Hid (giftU us d=res):=by
   show _=_
   have hh:=HR4.o
   rwa [aC (fun h=>h.elim (fun q=>hl0 (by rw [q];rfl)) (fun q=>hu0 (by rw [q];rfl)))] at hh
  clear hl0 HR4;have hl2:=HD.o.lens.2.1;obtain ⟨b,o,hA,hb0,hc0⟩:=HD.o.uses.at_ za;have HC0:=zq hc0;clear hc0 hu0;clear y10;have y10:w21.cell? ⟨w.heap.size+1,11,none⟩=some (Value.slice (some ⟨b,o,none⟩) d.us.length d.usc):=by rw [←hA];exact HSTe.o.de.c 11 rfl
  go_wp2
  go_loopg [8] d.us.length (GURel w RA rc rs UA uc us DA dc ds d)
  case atStart=>exact ⟨HSTe.o,0,za,rfl,fun j hj=>absurd hj za⟩
  case round =>
   clear HSTe y10 ys hlb hub;obtain ⟨hst,k,hkm,rfl,hpre⟩:=hrel;have HST:=zq hst;have HKM:=zq hkm;have HP:=zq hpre;have hkl:k≤d.us.length:=za;clear hst hkm hpre;have y10:wr.cell? ⟨w.heap.size+1,11,none⟩=some (Value.slice (some ⟨b,o,none⟩) d.us.length d.usc):=by rw [←hA];exact HST.o.de.c 11 rfl
   have ys:=HST.o.de.lt
   by_cases hlt:k<d.us.length
   ·have y1:=HST.o.ti.c 1 rfl
    have yt:=HST.o.ti.lt;have c0:wr.cell? ⟨b,o+k,none⟩=some (.string d.us[k]):=(HST.o.bel.cell hb0).trans (HC0.o k hlt);have e0:usAt d.us k=d.us[k]:=zCH hlt;have HPO:=zq (fun W (x:Strs W UA us)=>positionR_c UA uc us d.us[k] W hul x)
    go_wp2_with fail
    go_region_held3 (fun w'=>w'.cell? ⟨w.heap.size,1,none⟩=some (.slice UA us.length uc)∧w'.cell? ⟨w.heap.size+1,11,none⟩=some (Value.slice (some ⟨b,o,none⟩) d.us.length d.usc)∧w'.cell? ⟨b,o+k,none⟩=some (.string d.us[k])) ((refine ⟨?_,?_,?_⟩<;>first | with_reducible assumption | go_simp))
     ((go_at_call 47;(with_reducible refine (HPO.o _ (HU.o.below (HST.o.drew).bel)).mono ?_);rintro e w30 ⟨z,rfl,hz,rfl⟩))
    have HST2:=zq HST.o.drew;clear HPO y1 yt
    cases hm:memS us d.us[k] with
    | false =>
     have HS:Hid (res=5):=by
      show _=_
      have e:useF us d.us=5:=useF_hit hlt HP.o (by unfold zBH;rw [e0,aE hm])
      rw [←HR5.o];unfold giftU;rw [e];rfl
     have hz1:z<0:=by rw [hm] at hz;simpa using hz
     clear hz hm e0;go_wp2;go_ret
     exact zAd.mk (zAC HS.o.symm) HST2.o.bel
    | true =>
     have HM:=zq hm;have hz1:0≤z:=by rw [hm] at hz;simpa using hz
     clear hz hm;have HE0:=zq e0;clear e0
     by_cases hk0:0<k
     ·have zp:wr.cell? ⟨b,o+(k - 1),none⟩=some (.string (d.us[k - 1]'(by omega))):=(HST.o.bel.cell hb0).trans (HC0.o (k - 1) za)
      have hd:decide ((0:Int)<(k:Int))=true:=zg;have hd0:decide ((0:Int)≤(k:Int) - 1)=true:=zg;have HE1:Hid (usAt d.us (k - 1)=d.us[k - 1]'(by omega)):=zCH za
      cases hle:sle d.us[k] (d.us[k - 1]'(by omega)) with
      | true =>
       have HS:Hid (res=8):=by
        show _=_
        have e:useF us d.us=8:=useF_hit hlt HP.o (by unfold zBH;rw [HE0.o,HE1.o,aC (by rw [HM.o];simp),aE ⟨hk0,hle⟩])
        rw [←HR5.o];unfold giftU;rw [e];rfl
       unfold sle at hle;go_wp2
       go_quiet (fail)
       go_wp2;go_ret
       exact zAd.mk (zAC HS.o.symm) (HST2.o.drewN _).bel
      | false =>
       have HF:Hid (zBH us d.us k=none):=by
        show _=_
        unfold zBH;rw [HE0.o,HE1.o,aC (by rw [HM.o];simp),aC (fun hh=>xc)]
       unfold sle at hle;go_wp2
       go_quiet (fail)
       go_wp2
       go_roundg (gk - 1)
       case measure=>have:=HKM.o;omega
       case rel =>
        refine ⟨HST.o.drewN _,k+1,by have:=HKM.o;omega,zn,fun j hj=>?_⟩
        rcases bO j k with h9 | h9
        ·exact HP.o j h9
        ·obtain rfl:j=k:=by omega
         exact HF.o
     ·have hd:decide ((0:Int)<(k:Int))=false:=by simp;omega
      have HF:Hid (zBH us d.us k=none):=by
       show _=_
       unfold zBH;rw [HE0.o,aC (by rw [HM.o];simp),aC (fun hh=>hk0 hh.1)]
      go_wp2
      go_quiet (fail)
      go_wp2
      go_roundg (gk - 1)
      case measure=>have:=HKM.o;omega
      case rel =>
       refine ⟨HST.o.drewN _,k+1,by have:=HKM.o;omega,zn,fun j hj=>?_⟩
       rcases bO j k with h9 | h9
       ·exact HP.o j h9
       ·obtain rfl:j=k:=by omega
        exact HF.o
   ·have y11:wr.cell? ⟨w.heap.size+1,12,none⟩=some (.int .i64 d.bg):=HST.o.de.c 12 rfl
    have y12:wr.cell? ⟨w.heap.size+1,13,none⟩=some (.int .i64 d.en):=HST.o.de.c 13 rfl
    have HR6:Hid ((if zCm d.bg=false∨zCm d.en=false then 1 else if d.en≤d.bg then 8 else 0)=res):=by
     show _=_
     have e:useF us d.us=0:=useF_none fun j hj=>HP.o j za
     rw [←HR5.o];unfold giftU;rw [aC (show ¬ (useF us d.us≠0) from fun h=>h e)]
    have hd1:=fun W=>zCS d.bg W
    have hd2:=fun W=>zCS d.en W
    clear HR5
    cases hb1:zCm d.bg with
    | false =>
     rw [hb1] at hd1;have HD1:=zq hd1;have HS:Hid (res=1):=by show _=_;rw [←HR6.o,aE (.inl hb1)]
     clear hd1 hd2 hb1
     go_wp2_with fail
     with_reducible refine (HD1.o _).mono ?_
     rintro e w40 ⟨rfl,rfl⟩;go_wp2;go_ret
     exact zAd.mk (zAC HS.o.symm) HST.o.bel
    | true =>
     rw [hb1] at hd1;have HD1:=zq hd1
     cases hb2:zCm d.en with
     | false =>
      rw [hb2] at hd2;have HD2:=zq hd2;have HS:Hid (res=1):=by show _=_;rw [←HR6.o,aE (.inr hb2)]
      clear hd1 hd2 hb1 hb2
      go_wp2_with fail
      with_reducible refine (HD1.o _).mono ?_
      rintro e w40 ⟨rfl,rfl⟩
      go_wp2_with fail
      with_reducible refine (HD2.o _).mono ?_
      rintro e w41 ⟨rfl,rfl⟩;go_wp2;go_ret
      exact zAd.mk (zAC HS.o.symm) HST.o.bel
     | true =>
      rw [hb2] at hd2;have HD2:=zq hd2
      have HR7:Hid ((if d.en≤d.bg then 8 else 0)=res):=by
       show _=_
       have hh:=HR6.o
       rwa [aC (by rw [hb1,hb2];simp)] at hh
      clear hd1 hd2 hb1 hb2 HR6
      go_wp2_with fail
      with_reducible refine (HD1.o _).mono ?_
      rintro e w40 ⟨rfl,rfl⟩
      go_wp2_with fail
      with_reducible refine (HD2.o _).mono ?_
      rintro e w41 ⟨rfl,rfl⟩
      by_cases hen:d.en≤d.bg
      ·have HS:Hid (res=8):=by show _=_;rw [←HR7.o,aE hen]
       go_wp2;go_ret
       exact zAd.mk (zAC HS.o.symm) HST.o.bel
      ·have HS:Hid (res=0):=by show _=_;rw [←HR7.o,aC hen]
       have hen2:d.bg<d.en:=za;clear hen;go_wp2;go_ret
       exact zAd.mk (zAC HS.o.symm) HST.o.bel
theorem rangeB {w:World} {b:Nat} {cs:Array Value} {T:TypeId} (h:Bx w b cs T):w.rangeAt b 0 cs.toList:=fun j v hv=>by
 rw [bJ];exact h.cell (by rw [←hv,Array.getElem?_toList])
theorem take_last {α:Type} {l:List α} {k:Nat} (h:k<l.length) (hk:0<k):(l.take k).getLast?=some (l[k - 1]'(by omega)):=by
 rw [List.getLast?_eq_getElem?,bE,bF za,List.getElem?_take_of_lt za];exact List.getElem?_eq_getElem za
theorem ordB_take {ds:List De} {k:Nat} (h:k<ds.length) (hk:0<k) (d:De):zDK (ds.take k) d=deLt (ds[k - 1]'(by omega)) d:=by
 unfold zDK;rw [take_last h hk]
theorem sle_of_sltR {a b:BA} (h:slt a b=true):sle b a=false:=by
 unfold slt at h;unfold sle;rw [zCU] at h ⊢;have h1:a.toList<b.toList:=qj;have h2:¬ b.toList<a.toList:=fun h2=>List.lt_irrefl _ (List.lt_trans h1 h2)
 have h3:b.toList≠a.toList:=fun e=>by rw [e] at h1;exact List.lt_irrefl _ h1
 simp [h2,h3]
theorem slt_sle (a b:BA):slt a b = !sle b a:=by
 cases h:sle b a with
 | false=>rw [zDQ h];rfl
 | true =>
  cases h2:slt a b with
  | false=>rfl
  | true=>rw [sle_of_sltR h2] at h;cases h
def chk4 (rs:List Rg) (us:List BA) (pre:List De) (d:De):Int:=if zAf d.kd=true then giftF rs us d else if d.kd=4 then endF pre d else divF pre d
def chk3 (rs:List Rg) (us:List BA) (pre:List De) (d:De):Int:=if d.kd<1∨5<d.kd then 4 else if zAB d=true then 3 else chk4 rs us pre d
def chk2 (rs:List Rg) (us:List BA) (pre:List De) (d:De):Int:=if (pre.any fun p=>decide (p.id=d.id))=true then 7 else chk3 rs us pre d
theorem chkD_eq (rs:List Rg) (us:List BA) (pre:List De) (d:De):chkD rs us pre d=if zBA d.id=false then 5 else if zCm d.day=false then 1 else if zDK pre d=false then 8 else chk2 rs us pre d:=rfl
def PreRel (w:World) (RA:Option Addr) (rc:Nat) (rs:List Rg) (UA:Option Addr) (uc:Nat) (us:List BA) (DA:Option Addr) (dc:Nat) (ds:List De) (d:De) (k:Nat) (f:De→Bool) (m:Nat) (i:Value) (wr:World):Prop :=
 GS w RA rc rs UA uc us DA dc ds d wr∧∃ j:Nat,j+m=k∧i = .int .i64 j∧∀ q (h:q<ds.length),q<j→f ds[q]=false
theorem zBL {ds:List De} {k j:Nat} {f:De→Bool} (hj:j<k) (hk:k<ds.length) (h:f (ds[j]'(by omega))=true):(ds.take k).any f=true:=by
 refine List.any_eq_true.2 ⟨ds[j]'(by omega),?_,h⟩
 rw [List.mem_take_iff_getElem];exact ⟨j,za,rfl⟩
theorem zBC {ds:List De} {k:Nat} {f:De→Bool} (h:∀ q (h:q<ds.length),q<k→f ds[q]=false):(ds.take k).any f=false:=by
 rw [bU];intro x hx;rw [List.mem_take_iff_getElem] at hx;obtain ⟨q,hq,rfl⟩:=hx;rw [h q za za];simp
def FndRel (w:World) (RA:Option Addr) (rc:Nat) (rs:List Rg) (UA:Option Addr) (uc:Nat) (us:List BA) (DA:Option Addr) (dc:Nat) (ds:List De) (d:De) (k:Nat) (f:De→Bool) (m:Nat) (v i:Value) (wr:World):Prop :=
 GS w RA rc rs UA uc us DA dc ds d wr∧∃ j:Nat,j+m=k∧i = .int .i64 j∧v = .bool ((ds.take j).any f)
def SheRel (w:World) (RA:Option Addr) (rc:Nat) (rs:List Rg) (UA:Option Addr) (uc:Nat) (us:List BA) (DA:Option Addr) (dc:Nat) (ds:List De) (d:De) (m:Nat) (i:Value) (wr:World):Prop :=
 GS w RA rc rs UA uc us DA dc ds d wr∧∃ j:Nat,j+m=d.sh.length∧i = .int .i64 j∧∀ q (h:q<d.sh.length),q<j→d.kd=5→decide (d.sh[q].pt=d.fr)=false
theorem any_take_succ {ds:List De} {j:Nat} (h:j<ds.length) (f:De→Bool):(ds.take (j+1)).any f=((ds.take j).any f || f ds[j]):=by
 rw [bD h,dH];simp
def div2 (pre:List De) (d:De):Int:=if d.kd=5∧(d.sh.any fun s=>decide (s.pt=d.fr))=true then 12 else if (pre.any fun p=>decide (p.kd=d.kd)&&decide (p.th=d.th)&&decide (p.fr=d.fr))=true then 7 else 0
theorem divF_eq (pre:List De) (d:De):divF pre d=if (d.kd=1∧zBA d.th=false)∨(d.kd=5∧zBA d.fr=false) then 5 else if zCm d.bg=false then 1 else if shF d.kd d.sh≠0 then shF d.kd d.sh else div2 pre d:=rfl
end Go.Proofs.YtoaelidmmcbkfaaGreatDoor
