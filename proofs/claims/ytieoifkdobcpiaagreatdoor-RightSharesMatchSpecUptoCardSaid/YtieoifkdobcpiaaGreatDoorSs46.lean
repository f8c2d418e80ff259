/- The reference's Shares. -/
import Derived.Test.YtieoifkdobcpiaaGreatDoorSs45
set_option maxRecDepth 100000
set_option maxHeartbeats 8000000
namespace Go.Proofs.YtieoifkdobcpiaaGreatDoor
open Go.RowKit Dw
def OuR (W:World) (l:List Ho) (m:Nat) (ov iv:Value) (wr:World):Prop :=
 ∃ (j:Nat) (v:Value),v=ov∧j+m=l.length∧iv = .int .i64 (j:Int)∧zAW eSr 3 wr W.heap.size 42 v (((prH l).take j).map shO)∧Below W.heap.size W wr
theorem take_ho {l:List Ho} {j:Nat} (h:j<l.length):((prH l).take (j+1)).map shO=((prH l).take j).map shO++[shO (l[j].pt,l[j].q)]:=by
 have hj:j<(prH l).length:=by rw [List.length_map];exact h
 have:(prH l)[j]=(l[j].pt,l[j].q):=by unfold prH;rw [List.getElem_map]
 rw [List.take_succ_eq_append_getElem hj,List.map_append,this];rfl
theorem SharesR_c (RA:Option Addr) (rc:Nat) (rs:List Rg) (UA:Option Addr) (uc:Nat) (us:List ByteArray) (DA:Option Addr) (dc:Nat) (ds:List De) (th pl use:ByteArray) (day:Int) (w:World)
  (hr:Rgs w RA rs) (hu:Strs w UA us) (hd:Des w DA ds) (hz:∀ i (h:i<rs.length),(rs[i]).nm.size≤9223372036854775807) (hz2:∀ i (h:i<us.length),(us[i]).size≤9223372036854775807)
  (hth:th.size≤9223372036854775807) (hP:POK w) :
  Calls Tryz.prog 22 #[.agg (tiC RA rc rs UA uc us DA dc ds),.string th,.string pl,.string use,.int .i64 day] w (zDn (zCI rs us ds th pl use day) w):=by
 generalize hres:zCI rs us ds th pl use day=res;have HR:=zq hres;clear hres;have HX:Hid (Bx (w.alloc (.cells (tiC RA rc rs UA uc us DA dc ds) 26)) w.heap.size (tiC RA rc rs UA uc us DA dc ds) 26):=Bx.new _ _ _;have HB:Hid (Below w.heap.size w (w.alloc (.cells (tiC RA rc rs UA uc us DA dc ds) 26))):=(Below.refl _ _).alloc (Nat.le_refl _) _;obtain ⟨W,hW⟩:∃ W,W=w.alloc (.cells (tiC RA rc rs UA uc us DA dc ds) 26):=⟨_,rfl⟩;rw [←hW] at HX HB;have HCK:=zq (CheckTR_c RA rc rs UA uc us DA dc ds W (hr.below HB.o) (hu.below HB.o) (hd.below HB.o) hz hz2);have HDw:=zq hd;have HUw:=zq hu;have HRw:=zq hr;have HPw:=zq hP;clear hr hu hd hP
 go_enter Tryz.func22,Tryz.ntmps22
 go_upto_region 1 with fail
 rw [←hW];clear hW
 iterate 2 go_step
 refine wp_load_mid _ _ zk w.heap.size 0 zk (tiC RA rc rs UA uc us DA dc ds).toList _ (zCq HX.o) Tryz.underlying26 rfl zc ?_
 go_wp2_with fail
 with_reducible refine HCK.o.mono ?_
 rintro e w1 ⟨rfl,hb1⟩;have HB1:=zq (zAa HB.o hb1);have HX1:=zq (HX.o.below hb1);clear hb1 HCK HX HB
 by_cases hc:zCD rs us ds=0
 case neg =>
  have hcb:(zCD rs us ds != 0)=true:=by simpa using hc
  have HS:Hid (res=([],zCD rs us ds)):=by show _=_;rw [←HR.o,srF_chk hc]
  clear hc;go_wp2;go_ret2
  rw [HS.o];exact zDn.no HB1.o
 have HC:=zq hc;rw [hc];clear hc;obtain ⟨hcr,hul,hdl⟩:=zCr HC.o;have HGR:=zq (good_of hcr);have hrl:=HGR.o.len;have HN1:=zq (fun W=>zBm th W hth)
 clear hcr
 go_wp2_with fail
 with_reducible refine (HN1.o _).mono ?_
 rintro e w2 ⟨rfl,rfl⟩
 cases hn1:zBj th with
 | false =>
  have HS:Hid (res=([],5)):=by show _=_;rw [←HR.o,srF_nm HC.o hn1]
  clear hn1;go_wp2;go_ret2
  rw [HS.o];exact zDn.no HB1.o
 | true =>
  have HNM:=zq hn1;clear hn1 HN1;go_upto_region 7 with fail
  generalize hwg:World.alloc _ (Obj.cells #[.string pl,.string use,.int .i64 day] _)=w4;have HY4:Hid (Bx w4 w1.heap.size (whrC pl use day) 117):=by show Bx _ _ _ _;rw [←hwg];exact Bx.new _ _ _
  have hb4:Below w1.heap.size w1 w4:=by rw [←hwg];exact (Below.refl _ _).alloc (Nat.le_refl _) _
  have HB4:=zq (zAa HB1.o hb4);have HX4:=zq (HX1.o.below hb4);clear hwg hb4 HX1 HB1;have HCW:=zq (checkWhere_c RA rc rs UA uc us DA dc ds pl use day w4 (HRw.o.below HB4.o) (HUw.o.below HB4.o) hrl hul)
  iterate 2 go_step
  refine wp_load_mid _ _ zk w.heap.size 0 zk (tiC RA rc rs UA uc us DA dc ds).toList _ (zCq HX4.o) Tryz.underlying26 rfl zc ?_
  have y0:=HY4.o.cell (i:=0) rfl;have y1:=HY4.o.cell (i:=1) rfl;have y2:=HY4.o.cell (i:=2) rfl;have hsy:=HY4.o.lt
  go_wp2_with fail
  with_reducible refine HCW.o.mono ?_
  rintro e w5 ⟨rfl,hb5⟩;have HB5:=zq (zAa HB4.o hb5);have HX5:=zq (HX4.o.below hb5);have HY5:=zq (HY4.o.below hb5);clear hb5 y0 y1 y2 hsy HX4 HY4 HB4 HCW
  by_cases hs:zCA rs us pl use day=0
  case neg =>
   have hcb:(zCA rs us pl use day != 0)=true:=by simpa using hs
   have HS:Hid (res=([],zCA rs us pl use day)):=by show _=_;rw [←HR.o,srF_sp HC.o HNM.o hs]
   clear hs;go_wp2;go_ret2
   rw [HS.o];exact zDn.no HB5.o
  have HS:=zq (srF_at HC.o HNM.o hs);rw [HR.o] at HS;obtain ⟨_,_,_,hil,hin⟩:=leaf_idx HGR.o (spot_leaf hs);rw [List.getD_eq_getElem?_getD,List.getElem?_eq_getElem hil,Option.getD_some] at hin;obtain ⟨i,hi⟩:∃ i,i=(idx rs pl).getD 0:=⟨_,rfl⟩;have hil2:i<rs.length:=by rw [hi];exact hil
  have hin2:(rs[i]).nm=pl:=by simp only [hi];exact hin
  rw [←hi] at HS;have HPT:=zq (partsR_c RA rc rs UA uc us DA dc ds i ds.length th pl use day w5 (HRw.o.below HB5.o) (HDw.o.below HB5.o) HC.o hil2 hin2 (Nat.le_refl _) (HPw.o.below HB5.o));have HPZ:=zq (fun p=>parts_sz HC.o i th use day ds.length (Nat.le_refl _) p)
  have HKL:=zq (keys_len HC.o i th use day ds.length (Nat.le_refl _));rw [hs];clear hs hil hin hi hil2 hin2;have x2:=HX5.o.cell (i:=2) rfl;have hsx:=HX5.o.lt;have y0:=HY5.o.cell (i:=0) rfl;have y1:=HY5.o.cell (i:=1) rfl;have y2:=HY5.o.cell (i:=2) rfl;have hsy:=HY5.o.lt;go_upto_region 10 with fail
  iterate 2 go_step
  refine wp_load_mid _ _ zk w.heap.size 0 zk (tiC RA rc rs UA uc us DA dc ds).toList _ (zCq HX5.o) Tryz.underlying26 rfl zc ?_
  go_wp2_with fail
  with_reducible refine HPT.o.mono ?_
  rintro e w6 ⟨A,c,nn,rfl,hho,hb6⟩;have HB6:=zq (zAa HB5.o hb6);have HHO:=zq hho;clear hb6 hho x2 hsx y0 y1 y2 hsy HX5 HY5 HB5 HPT
  cases hlo:zCh rs ds i th use day ds.length with
  | true =>
   have HS2:Hid (res=([],2)):=by show _=_;rw [HS.o,if_pos hlo]
   clear hlo;go_wp2;go_ret2
   rw [HS2.o];exact zDn.no HB6.o
  | false =>
   have HS2:Hid (res=(zCg (holL (zBz rs ds i th use day ds.length) (zAD rs ds i th use day ds.length)) (zAD rs ds i th use day ds.length),0)):=by show _=_;rw [HS.o,if_neg (by rw [hlo];simp)]
   clear hlo HS;obtain ⟨A1,c1,l,he,hrd,hok,hpr⟩:=HHO.o
   injection he with he1 he2 he3
   subst he1 he2 he3
   have hll:l.length≤1000000:=by
    rw [pairs_len hpr];exact Nat.le_trans (List.length_filter_le _ _) HKL.o
   have HRD:=zq hrd;have HOK:=zq hok;have HPR:=zq hpr;have HQS:Hid (∀ x∈l,SzQ 10000000 x.q):=fun x hx=>by rw [hos_q hpr x hx];exact HPZ.o _
   have HPO:=zq (HPw.o.below HB6.o);clear hrd hok hpr HHO HPZ HKL;go_wp2
   go_loopg [17,18] l.length (OuR w6 l)
   case atStart=>exact ⟨0,_,rfl,za,rfl,zAW.nil _ _ _ _ _,Below.refl _ _⟩
   case round =>
    obtain ⟨j,v,rfl,hjm,rfl,how,hb⟩:=hrel;have HJ:=zq hjm;have HOW:=zq how;have HBW:=zq hb;clear hjm how hb
    by_cases hjl:j<l.length
    ·obtain ⟨b2,o2,hA,hc2⟩:=HRD.o za
     subst hA;have hrg:=ho_at hc2 hjl;have hkx:=HOK.o _ (List.getElem_mem hjl);have HTS:=zq (take_ho hjl);have hqx:=HQS.o _ (List.getElem_mem hjl);generalize l[j]=x at *;obtain ⟨pt,t,b,q⟩:=x;obtain ⟨A3,c3,A4,c4,e3,e4,h3,h4⟩:=hkx;simp only at e3 e4 hqx;subst e3;subst e4;have X0:Hid (w6.cell? ⟨b2,o2+j*4,none⟩=some (.string pt)):=hrg 0 _ rfl;have X1:Hid (w6.cell? ⟨b2,o2+j*4+1,none⟩=some (.bool false)):=hrg 1 _ rfl;have X2:Hid (w6.cell? ⟨b2,o2+j*4+1+1,none⟩=some (.slice A3 (zAc BT q.num.natAbs).length c3)):=hrg 2 _ rfl;have X3:Hid (w6.cell? ⟨b2,o2+j*4+1+2,none⟩=some (.slice A4 (zAc BT q.den).length c4)):=hrg 3 _ rfl;have HO:Hid (∀ u,Below w6.heap.size w6 u→Calls Tryz.prog 56 #[nuV false A3 c3 q.num.natAbs A4 c4 q.den] u (zAe (.agg #[.string (zCm q.num.natAbs),.string (zCm q.den)]) u)):=fun u hu=>OutT_c A3 A4 c3 c4 q.num.natAbs q.den u (h3.below hu) (h4.below hu) (Nat.le_trans hqx.1.2 za) (Nat.le_trans hqx.2.2 za) (HPO.o.below hu)
     have HSH:Hid (shO (pt,q)=⟨pt,zCm q.num.natAbs,zCm q.den⟩):=rfl;rw [HSH.o] at HTS;generalize zCm q.num.natAbs=sn at *;generalize zCm q.den=sd at *;have hol:(((prH l).take j).map shO).length≤1000000:=by rw [List.length_map,List.length_take,List.length_map];omega
     obtain ⟨lo,hlo⟩:∃ lo,lo=((prH l).take j).map shO:=⟨_,rfl⟩;rw [←hlo] at HOW HTS hol;have x0:=zAf HBW.o X0.out;have x1:=zAf HBW.o X1.out;have x2:=zAf HBW.o X2.out;have x3:=zAf HBW.o X3.out;have hsz:w6.heap.size≤wr.heap.size:=HBW.o.size;clear hrg hqx hc2 h3 h4 hlo;go_upto_region 17 with fail
     go_region_held3 (fun w'=>w'.cell? ⟨b2,o2+j*4,none⟩=some (.string pt)∧w'.cell? ⟨b2,o2+j*4+1,none⟩=some (.bool false)∧w'.cell? ⟨b2,o2+j*4+1+1,none⟩=some (.slice A3 (zAc BT q.num.natAbs).length c3)∧w'.cell? ⟨b2,o2+j*4+1+2,none⟩=some (.slice A4 (zAc BT q.den).length c4))
      ((refine ⟨?_,?_,?_,?_⟩<;>first | with_reducible assumption | (refine zAf (ba _ _) ?_;with_reducible assumption) | go_simp))
      (first
       | ((go_at_call 56;(with_reducible refine (HO.o wr.drew (zAa HBW.o (zAd (Below.refl _ _) 1))).mono ?_);rintro e w7 ⟨rfl,hb7⟩;have HB7:Hid (Below wr.heap.size wr w7):=zAa (zAd (Below.refl _ _) 1) hb7;have HO7:=zq (HOW.o.below HB7.o);have HB8:=zq (zAa HBW.o HB7.o);have hs7:w6.heap.size≤w7.heap.size:=HB8.o.size;clear hb7 x0 x1 x2 x3;have x0:=zAf HB8.o X0.out;have x1:=zAf HB8.o X1.out;have x2:=zAf HB8.o X2.out;have x3:=zAf HB8.o X3.out))
       | ((have t1:zAW eSr 3 (w7.alloc (Obj.cells #[Value.string pt,Value.string sn,Value.string sd] 42)) w6.heap.size 42 v lo:=HO7.o.alloc _);(have t2:=heap_alloc_new w7 (Obj.cells #[Value.string pt,Value.string sn,Value.string sd] 42));(have t3:(lo.length+1)*48≤140737488355328:=za);(have t4:w6.heap.size≤(w7.alloc (Obj.cells #[Value.string pt,Value.string sn,Value.string sd] 42)).heap.size:=zg);(have t5:lo.length+1≤maxLen:=zm);(refine zCU (k:=3) (enc:=eSr) rfl (.tmp 54) (.tmp 67) 33 rfl elSr w6.heap.size v lo rfl t1 w7.heap.size 1 (⟨pt,sn,sd⟩:Sh) rfl t2 rfl rfl (oneSr _) t5 t3 t4 ?_);intro g9 cap9 w9 ho9 hg9;(have hbt:Below w6.heap.size (w7.alloc (Obj.cells #[Value.string pt,Value.string sn,Value.string sd] 42)) w9:=(Below.refl _ _).grown hg9 t4 (fun j hj=>(World.ownsRow.lt t1 j hj).1));have HB9:=zq ((HB8.o.alloc hs7 _).trans hbt);have HO9:=zq ho9;clear hbt ho9 hg9 t1 t2 t3 t4 t5 x0 x1 x2 x3;have x0:=zAf HB9.o X0.out;have x1:=zAf HB9.o X1.out;have x2:=zAf HB9.o X2.out;have x3:=zAf HB9.o X3.out))
     have HE:Hid (zAW eSr 3 w9 w6.heap.size 42 (.slice (some ⟨g9,0,none⟩) (lo.length+1) cap9) (((prH l).take (j+1)).map shO)):=by show zAW _ _ _ _ _ _ _;rw [HTS.o];exact HO9.o
     clear x0 x1 x2 x3;go_wp2
     go_roundg (gk - 1)
     case measure=>have:=HJ.o;omega
     case rel=>exact ⟨j+1,_,rfl,qe,zi,HE.o,HB9.o⟩
    ·obtain rfl:j=l.length:=by have:=HJ.o;omega
     have HO:Hid (zAW eSr 3 wr w6.heap.size 42 v (res.1.map shO)):=by
      have:=HOW.o;rw [List.take_of_length_le (by rw [List.length_map];exact Nat.le_refl _),HPR.o] at this
      show zAW _ _ _ _ _ _ _
      rw [HS2.o];exact this
     obtain ⟨A5,c5,rfl,hs5⟩:=own_shs HO.o;have HS5:=zq hs5;have HBF:=zq (zAa HB6.o HBW.o);have HS3:Hid (res.2=0):=by show _=_;rw [HS2.o]
     clear hs5 HO HOW;go_wp2;go_ret2
     exact ⟨A5,c5,by first | (rw [HS3.o];rfl) | rw [HS3.o],HS5.o,HBF.o⟩
end Go.Proofs.YtieoifkdobcpiaaGreatDoor
