/- Parts of the proof, joined: Digits of a number four by four: no program in sight. DERIVED: THE SHE. -/
import Derived.Shelf.Strings.Repeat
import Derived.Test.YtbbchlpccgkikaaGreatDoorSb25
import Derived.Outline
set_option maxRecDepth 100000
set_option maxHeartbeats 8000000
namespace Go.Proofs.YtbbchlpccgkikaaGreatDoor
open Dw
def zer(k:Nat):List UInt8:=List.replicate k 48
theorem zer_dg(k:Nat):(zer k).all dgB=true:=by
 unfold zer;rw[List.all_eq_true];intro x hx;rw[(List.mem_replicate.1 hx).2]
 decide
theorem zer_val:∀k,zBL (zer k)=0
 |0=>rfl
 |k+1=>by
  have e:zer (k+1)=[48]++zer k:=rfl;rw[e,zCr,zer_val k];show(10*0+(48-48))*_+0=0
  simp
def pad4(l:Nat):List UInt8:=zer (4-(Lib.decDigits l).length)++Lib.decDigits l
theorem dig4{l:Nat}(h:l<10000):(Lib.decDigits l).length<=4:=dec_size l 4 za za
theorem pad4_len{l:Nat}(h:l<10000):(pad4 l).length=4:=by
 have:=dig4 h;unfold pad4 zer;rw[eA,List.length_replicate];omega
theorem dig_snoc4{v l:Nat}(hv:v≠0)(hl:l<10000):Lib.decDigits (v*10000+l)=Lib.decDigits v++pad4 l:=by
 have hp:=dig_pos v
 have e:zBL (Lib.decDigits v++pad4 l)=v*10000+l:=by
  rw[zCr,pad4_len hl,dig_val];unfold pad4;rw[zCr,zer_val,dig_val];omega
 rw[<-e];refine(dig_uniq _ (Lib.decDigits v++pad4 l) rfl ?_ ?_ (.inr ?_)).symm
 ·rw[eD,dig_all]
  unfold pad4;rw[eD,zer_dg,dig_all]
  rfl
 ·intro h
  rw[(List.append_eq_nil_iff.1 h).1]at hp;simp at hp
 ·have h9:=dig_head v hv
  cases hc:Lib.decDigits v with
  |nil=>rw[hc]at hp;simp at hp
  |cons a t=>rw[hc]at h9;simpa using h9
theorem last_wordsT{n:Nat}:zAc BT n=[]\/BT^((zAc BT n).length-1)<=n:=by
 rcases bI (zAc BT n).length with h0|h0
 ·exact .inl (eB h0)
 ·have:=wval_ge (B:=BT) h0 (zCw zAR h0)
  rw[zAm zAR]at this;exact .inr this
theorem drop_pos{n i:Nat}(hi:i<(zAc BT n).length):K BT ((zAc BT n).drop i)≠0:=by
 intro h0;have h1:=zCg BT i (zAc BT n) za;rw[h0,dG,dT,zAm zAR]at h1;have h2:=zDd (WLt.take (zAJ zAR n) i)
 have h3:(zAc BT n).length<=i:=by
  rcases last_wordsT (n:=n)with e|e
  ·rw[e];simp
  ·rw[bF,bH za,<-h1]at h2
   refine Nat.le_of_not_lt fun hk=>?_
   have h4:BT^i<=BT^((zAc BT n).length-1):=dI BT_pos za;omega
 omega
end Go.Proofs.YtbbchlpccgkikaaGreatDoor
namespace Go.Proofs
open Go.Shelf
def Tryz.lays105_ren:Go.Shelf.Ren:=⟨fun|105=>285|212=>308|99=>309|165=>310|166=>311|170=>312|169=>313|263=>331|264=>224|206=>299|240=>332|241=>333|276=>340|277=>341|n=>n,fun|9=>9|3=>3|4=>4|20=>20|0=>0|46=>248|109=>361|5=>5|72=>365|76=>315|51=>254|146=>387|53=>253|148=>302|70=>363|37=>217|75=>314|127=>389|164=>396|80=>236|n=>n,fun|n=>n⟩
theorem Tryz.lays105:Go.Proofs.Lays.n105 Tryz.prog Tryz.lays105_ren:={
 mixed:=zc
 f99:=Tryz.func309.trans (bE some zc)
 f105:=Tryz.func285.trans (bE some zc)
 f165:=Tryz.func310.trans (bE some zc)
 f166:=Tryz.func311.trans (bE some zc)
 f169:=Tryz.func313.trans (bE some zc)
 f170:=Tryz.func312.trans (bE some zc)
 f206:=Tryz.func299.trans (bE some zc)
 f212:=Tryz.func308.trans (bE some zc)
 f240:=Tryz.func332.trans (bE some zc)
 f241:=Tryz.func333.trans (bE some zc)
 f263:=Tryz.func331.trans (bE some zc)
 f264:=Tryz.func224.trans (bE some zc)
 f276:=Tryz.func340.trans (bE some zc)
 f277:=Tryz.func341.trans (bE some zc)
 t0:=Tryz.underlying0
 a0:=Tryz.isAgg0
 z0:=Tryz.sizeOf0
 v0:=Tryz.zeroValue0
 t3:=Tryz.underlying3
 a3:=Tryz.isAgg3
 z3:=Tryz.sizeOf3
 v3:=Tryz.zeroValue3
 t4:=Tryz.underlying4
 a4:=Tryz.isAgg4
 z4:=Tryz.sizeOf4
 v4:=Tryz.zeroValue4
 t5:=Tryz.underlying5
 a5:=Tryz.isAgg5
 z5:=Tryz.sizeOf5
 v5:=Tryz.zeroValue5
 t9:=Tryz.underlying9
 a9:=Tryz.isAgg9
 z9:=Tryz.sizeOf9
 v9:=Tryz.zeroValue9
 t20:=Tryz.underlying20
 a20:=Tryz.isAgg20
 z20:=Tryz.sizeOf20
 v20:=Tryz.zeroValue20
 t37:=Tryz.underlying217
 a37:=Tryz.isAgg217
 z37:=Tryz.sizeOf217
 v37:=Tryz.zeroValue217
 t46:=Tryz.underlying248
 a46:=Tryz.isAgg248
 z46:=Tryz.sizeOf248
 v46:=Tryz.zeroValue248
 t51:=Tryz.underlying254
 a51:=Tryz.isAgg254
 z51:=Tryz.sizeOf254
 v51:=Tryz.zeroValue254
 t53:=Tryz.underlying253
 a53:=Tryz.isAgg253
 z53:=Tryz.sizeOf253
 v53:=Tryz.zeroValue253
 t70:=Tryz.underlying363
 a70:=Tryz.isAgg363
 z70:=Tryz.sizeOf363
 v70:=Tryz.zeroValue363
 t72:=Tryz.underlying365
 a72:=Tryz.isAgg365
 z72:=Tryz.sizeOf365
 v72:=Tryz.zeroValue365
 t75:=Tryz.underlying314
 a75:=Tryz.isAgg314
 z75:=Tryz.sizeOf314
 v75:=Tryz.zeroValue314
 t76:=Tryz.underlying315
 a76:=Tryz.isAgg315
 z76:=Tryz.sizeOf315
 v76:=Tryz.zeroValue315
 t109:=Tryz.underlying361
 a109:=Tryz.isAgg361
 z109:=Tryz.sizeOf361
 v109:=Tryz.zeroValue361
 t127:=Tryz.underlying389
 a127:=Tryz.isAgg389
 z127:=Tryz.sizeOf389
 v127:=Tryz.zeroValue389
 t146:=Tryz.underlying387
 a146:=Tryz.isAgg387
 z146:=Tryz.sizeOf387
 v146:=Tryz.zeroValue387
 t148:=Tryz.underlying302
 a148:=Tryz.isAgg302
 z148:=Tryz.sizeOf302
 v148:=Tryz.zeroValue302
 t164:=Tryz.underlying396
 a164:=Tryz.isAgg396
 z164:=Tryz.sizeOf396
 v164:=Tryz.zeroValue396 }
theorem Tryz.Builder_Extra_105:Builder.Extra Tryz.prog Tryz.lays105_ren:={
 sizeBuilder:=zc
 liesBuilder:=zc
 t5:=Tryz.underlying5
 a5:=Tryz.isAgg5
 z5:=Tryz.sizeOf5
 v5:=Tryz.zeroValue5
 infoByte:=zc
 cellsByte:=zc
 sizeByte:=zc
 neB5:=by decide }
end Go.Proofs
namespace Go.Proofs.YtbbchlpccgkikaaGreatDoor
open Go.RowKit Dw
theorem itoaB_nat(l:Nat):itoaB (l:Int)=digB l:=by
 unfold itoaB Lib.itoa digB;rw[aO za]
 rfl
theorem digB_app{v l:Nat}(hv:v≠0)(hl:l<10000):digB (v*10000+l)=digB v++(⟨(zer (4-(digB l).size)).toArray⟩++digB l):=by
 apply ba_ext
 rw[data_app,data_app,digB_list,digB_list,digB_list,dig_snoc4 hv hl,digB_size];simp[pad4]
theorem digB_lenT{n k:Nat}(h:(zAc BT n).length<=k):(digB n).size<=4*k+1:=by
 rw[digB_size];have h1:=zBu zAR n
 have h3:BT^(zAc BT n).length<=10^(4*k):=by
  rw[Nat.pow_mul];exact dX (Nat.pow_le_pow_left (show BT<=10^4 by decide) _) (dI zd h)
 exact(dig_len n (4*k+1) za).2 (aB h1 (dX h3 (dI zd za)))
theorem repeat_c(k:Nat)(w:World)(hk:k<=4):Calls Tryz.prog 285 #[.string ⟨#[48]⟩,.int .i64 (k:Int)] w (zAf (.string ⟨(zer k).toArray⟩) w):=by
 have h:=Any.strings_Repeat Tryz.lays105 Tryz.Builder_Extra_105 ⟨#[48]⟩ k w za (by show 1*k<=_;omega);change Calls Tryz.prog 285 _ _ _ at h
 have e:Lib.repeatL (⟨#[48]⟩:BA).data.toList k=zer k:=by
  have:=Lib.repeatL_replicate 48 1 k;rw[dK]at this;exact this
 rw[e]at h;exact h.mono fun _ _ ⟨he,hw⟩=>⟨he,hw⟩
def DgR(w:World)(L:List Nat)(m:Nat)(sv iv:Value)(wr:World):Prop:=
 ∃z:Int,z=(m:Int)-1/\m<L.length/\iv=.int .i64 z/\sv=.string (digB (K BT (L.drop m)))/\Below w.heap.size w wr
theorem digitsL_zero(A:OA)(c:Nat)(w:World):Calls Tryz.prog 238 #[lmV A c 0] w (zAf (.string (digB 0)) w):=by
 rw[digB_zero]
 go_enter Tryz.func238,Tryz.ntmps238;go_wp2;go_ret
 exact zAf.mk rfl (aR _ _)
theorem drop_last{L:List Nat}{k:Nat}(h:k<L.length)(hk:k+1=L.length):K BT (L.drop k)=L[k]:=by
 rw[zCD h,List.drop_eq_nil_of_le za];show L[k]+BT*0=_
 rw[dG,dT]
theorem digitsL_c(A:OA)(c n:Nat)(w:World)(h:Lt w A c n)(J:(zAc BT n).length<=100000000)(hP:POK w):Calls Tryz.prog 238 #[lmV A c n] w (zAf (.string (digB n)) w):=by
 by_cases h0:n=0
 ·subst h0
  exact digitsL_zero A c w
 have hl:=pos_lenT (n:=n) za;obtain⟨b,o,rfl,hb0,hc⟩:=h.rd.at_ hl;have HRD:=zq h.rd;have HWL:=zq (zAJ zAR n);have HDP:Hid (∀i,i<(zAc BT n).length->K BT ((zAc BT n).drop i)≠0):=fun i hi=>drop_pos hi
 have HV:Hid (K BT (zAc BT n)=n):=zAm zAR n
 have HSZ:Hid (∀i,(digB (K BT ((zAc BT n).drop i))).size<=400000001):=fun i=>by
  refine digB_lenT (k:=100000000) ?_;refine dX (zAw zAR ?_) J
  rcases aI i (zAc BT n).length with hi|hi
  ·have h1:=zCg BT i (zAc BT n) za
   rw[zAm zAR]at h1;have h2:1*K BT ((zAc BT n).drop i)<=BT^i*K BT ((zAc BT n).drop i):=cC _ (Nat.pow_pos BT_pos);omega
  ·rw[List.drop_eq_nil_of_le hi];exact cZ _
 unfold lmV;generalize zAc BT n=L at *;obtain⟨k,hk⟩:∃k,k+1=L.length:=⟨L.length-1,za⟩;have hkl:k<L.length:=za;have hc1:=hc k hkl;have hlk:L[k]<10000:=HWL.o _ (aH hkl);have hle:(L.length:Int)-1=(k:Int):=za;have hlb:((L.length:Int) == 0)=false:=by simp;intro e;rw[e]at hl;simp at hl
 have HI1:=zq (itoa_c (L[k]:Int) w za za hP);have HDL:=zq (drop_last hkl hk);have HP:=zq hP;have HK:=zq hk;clear h hc hk hP h0 hlk
 go_enter Tryz.func238,Tryz.ntmps238;(go_wp2_with fail);(with_reducible refine HI1.o.mono ?_);rintro e w1⟨rfl,hb1⟩;have HB1:=zq hb1;clear hb1 HI1 hc1;go_wp2
 go_loopg[3,4] k (DgR w L)
 case atStart=>exact⟨(k:Int)-1,rfl,hkl,by rw[show(L.length:Int)-2=(k:Int)-1 by have:=HK.o;omega],by rw[HDL.o,itoaB_nat],HB1.o⟩
 case round =>
  obtain⟨z,hz,hm,rfl,rfl,I⟩:=hrel;have HB:=zq I;clear I
  rcases bI gk with hg|hg
  ·subst hg
   obtain rfl:z=-1:=za;clear hz;go_wp2;go_ret
   exact zAf.mk (by rw[aX,HV.o];rfl) HB.o
  ·obtain⟨j,rfl⟩:∃j,gk=j+1:=⟨gk-1,za⟩
   obtain rfl:z=(j:Int):=za;have hjl:j<L.length:=za;obtain⟨b',o',e1,D,hc2⟩:=(HRD.o.below HB.o).at_ za
   injection e1 with e1
   injection e1 with e1 e2 _
   subst e1;subst e2;have hc3:=hc2 j hjl;have hlj:L[j]<10000:=HWL.o _ (aH hjl);have HI2:=zq (itoa_c (L[j]:Int) wr za za (HP.o.below HB.o));have hs1:(digB L[j]).size<=4:=by rw[digB_size];exact dig4 hlj
   have HDS:Hid (digB (K BT (L.drop j))=digB (K BT (L.drop (j+1)))++(⟨(zer (4-(digB L[j]).size)).toArray⟩++digB L[j])):=by
    show _=_
    rw[zCD hjl,<-digB_app (HDP.o _ hm) hlj,BT_eq]
    congr 1
    omega
   rw[itoaB_nat]at HI2;have hs3:=HSZ.o (j+1);generalize digB (K BT (L.drop (j+1)))=s1 at *;generalize digB L[j]=s2 at *;have hzl:(⟨(zer (4-s2.size)).toArray⟩:BA).size=4-s2.size:=by show(zer (4-s2.size)).toArray.size=_;simp[zer]
   have HRP:=zq (fun W=>repeat_c (4-s2.size) W za);have hcs:((4-s2.size:Nat):Int)=4-(s2.size:Int):=za;rw[hcs]at HRP;have ca1:=cat_big ⟨(zer (4-s2.size)).toArray⟩ s2 (by rw[hzl];omega);have ca2:=cat_big s1 (⟨(zer (4-s2.size)).toArray⟩++s2) (by rw[ByteArray.size_append,hzl];omega);clear hc2 hlj hz;generalize (⟨(zer (4-s2.size)).toArray⟩:BA)=sz at *;(go_wp2_with fail);(with_reducible refine HI2.o.mono ?_);rintro e w2⟨rfl,hb3⟩;have HB3:=zq (zAa HB.o hb3);clear hb3 HI2 hc3;(go_wp2_with fail);(with_reducible refine(HRP.o _).mono ?_);rintro e w3⟨rfl,hb4⟩;have HB4:=zq (zAa HB3.o hb4);clear hb4;go_wp2
   go_roundg j
   case measure=>omega
   case rel=>exact⟨(j:Int)-1,rfl,za,zi,by rw[HDS.o],HB4.o⟩
theorem times_c(A Z A3 A4:OA)(c c2 c3 c4 n d m e:Nat)(w:World)(h:Lt w A c n)(h2:Lt w Z c2 d)(h3:Lt w A3 c3 m)(h4:Lt w A4 c4 e)(J:(zAc BT n).length<=50000000)(hd:(zAc BT d).length<=50000000)(hm:(zAc BT m).length<=50000000)(he:(zAc BT e).length<=50000000)(hd0:0<d)(he0:0<e): Calls Tryz.prog 177 #[nuV false A c n Z c2 d,nuV false A3 c3 m A4 c4 e] w (zCo false (mulP (n,d) (m,e)).1 (mulP (n,d) (m,e)).2 w):=by
 have hl1:(zAc BT (n*m)).length<=100000000:=dX (zDD n m) za;have hl3:(zAc BT (d*e)).length<=100000000:=dX (zDD d e) za;have hr0:0<d*e:=dZ hd0 he0;have HM1:=zq (fun W (x:Lt W A c n) (y:Lt W A3 c3 m)=>timesL_c A A3 c c3 n m W x.rd y.rd za za);have HM3:=zq (fun W (x:Lt W Z c2 d) (y:Lt W A4 c4 e)=>timesL_c Z A4 c2 c4 d e W x.rd y.rd za za);have HW:=zq (fun A5 c5 A6 c6 W (x:Lt W A5 c5 (n*m)) (y:Lt W A6 c6 (d*e))=>lowest_c false A5 A6 c5 c6 (n*m) (d*e) W x y hr0 za za);simp only[eK]at HW;have hap:mulP (n,d) (m,e)=zBX (n*m) (d*e):=rfl;rw[hap];clear hap hl1 hl3 hr0;generalize (zBX (n*m) (d*e)).1=pp at *;generalize (zBX (n*m) (d*e)).2=pq at *;generalize n*m=p1 at *;generalize d*e=p3 at *;have G:Hid (Bx (((w.alloc (.cells (nuC false A c n Z c2 d) 202)).alloc (.cells (nuC false A3 c3 m A4 c4 e) 202)).alloc (.cells zBB 202)) w.heap.size (nuC false A c n Z c2 d) 202):=((Bx.new _ _ _).alloc _).alloc _;have Q:Hid (Bx (((w.alloc (.cells (nuC false A c n Z c2 d) 202)).alloc (.cells (nuC false A3 c3 m A4 c4 e) 202)).alloc (.cells zBB 202)) (w.heap.size+1) (nuC false A3 c3 m A4 c4 e) 202):=(Bx.new1 _ _ _ _).alloc _;have HZ0:Hid (Bx (((w.alloc (.cells (nuC false A c n Z c2 d) 202)).alloc (.cells (nuC false A3 c3 m A4 c4 e) 202)).alloc (.cells zBB 202)) (w.heap.size+1+1) zBB 202):=Bx.new2 _ _ _ _ _;have HB0:Hid (Below w.heap.size w (((w.alloc (.cells (nuC false A c n Z c2 d) 202)).alloc (.cells (nuC false A3 c3 m A4 c4 e) 202)).alloc (.cells zBB 202))):=(((aR w.heap.size w).alloc (aK _) _).alloc ze _).alloc zg _;obtain⟨W,hW⟩:∃W,W=(((w.alloc (.cells (nuC false A c n Z c2 d) 202)).alloc (.cells (nuC false A3 c3 m A4 c4 e) 202)).alloc (.cells zBB 202)):=⟨_,rfl⟩;rw[<-hW]at G Q HZ0 HB0;have g1:=zq (h.below HB0.o);have g2:=zq (h2.below HB0.o);have g3:=zq (h3.below HB0.o);have g4:=zq (h4.below HB0.o);clear h h2 h3 h4 J hd hm he hd0 he0
 go_enter Tryz.func177,Tryz.ntmps177;(go_upto_region 1 with fail);rw[<-hW];clear hW;obtain⟨a0,a1,a2⟩:=G.o.t;obtain⟨b0,b1,b2⟩:=Q.o.t
 go_region_held3 (fun w'=>(w'.cell? ⟨w.heap.size,0,none⟩=some (.bool false)/\w'.cell? ⟨w.heap.size,1,none⟩=some (.slice A (zAc BT n).length c)/\w'.cell? ⟨w.heap.size,2,none⟩=some (.slice Z (zAc BT d).length c2))/\(w'.cell? ⟨w.heap.size+1,0,none⟩=some (.bool false)/\w'.cell? ⟨w.heap.size+1,1,none⟩=some (.slice A3 (zAc BT m).length c3)/\w'.cell? ⟨w.heap.size+1,2,none⟩=some (.slice A4 (zAc BT e).length c4)))
  ((refine⟨⟨?_,?_,?_⟩,?_,?_,?_⟩<;>first|with_reducible assumption|go_simp))
  (first
   |((go_at_call 181;(with_reducible refine(HM1.o W.drew (g1.out.drew) (g3.out.drew)).mono ?_);rintro x w1⟨A5,c5,rfl,h5,I⟩;have HB1:=zq ((zAb HB0.o 1).trans (I.mono HB0.o.size));have X:=zq ((G.o.drew).below I);have HY1:=zq ((Q.o.drew).below I);have HZ1:=zq ((HZ0.o.drew).below I);have g21:=zq ((g2.out.drew).below I);have g41:=zq ((g4.out.drew).below I);have H5:=zq h5;clear h5 I;clear a0 a1 a2 b0 b1 b2;obtain⟨a0,a1,a2⟩:=X.o.t;obtain⟨b0,b1,b2⟩:=HY1.o.t))
   |((go_at_call 181;(with_reducible refine(HM3.o w1 g21.out g41.out).mono ?_);rintro x w2⟨A6,c6,rfl,h6,I⟩;have HB2:=zq (zAa HB1.o I);have HX2:=zq (X.o.below I);have HY2:=zq (HY1.o.below I);have HZ2:=zq (HZ1.o.below I);have H52:=zq (H5.o.below I);have H6:=zq h6;clear h6 I;clear a0 a1 a2 b0 b1 b2;obtain⟨a0,a1,a2⟩:=HX2.o.t;obtain⟨b0,b1,b2⟩:=HY2.o.t))
   |((go_at_call 182;(with_reducible refine(HW.o _ _ _ _ w2 H52.o H6.o).mono ?_);rintro x w6⟨A9,c9,A10,c10,rfl,h9,h10,I⟩;have HB6:=zq (zAa HB2.o I);have HX6:=zq (HX2.o.below I);have HY6:=zq (HY2.o.below I);have HZ6:=zq (HZ2.o.below I);have H9:=zq h9;have H10:=zq h10;clear h9 h10 I;clear a0 a1 a2 b0 b1 b2;obtain⟨a0,a1,a2⟩:=HX6.o.t;obtain⟨b0,b1,b2⟩:=HY6.o.t;obtain⟨r0,r1,r2⟩:=HZ6.o.t;have rf:=HZ6.o.frozen;have V:=HZ6.o.lt;have rn:¬(w.heap.size=w.heap.size+1+1):=za;have rm:¬(w.heap.size+1=w.heap.size+1+1):=za)))
 go_wp2;refine aC (v:=nuV false A9 c9 pp A10 c10 pq) (by simp[results,Tryz.results177,go_sem,r0,r1,r2]) rfl ⟨A9,c9,A10,c10,rfl,H9.o.setR HZ6.o _ _ _ _ _,H10.o.setR HZ6.o _ _ _ _ _,zBA HB6.o za _ _ _⟩
theorem Long_c(A Z:OA)(c c2 n d most:Nat)(w:World)(h:Lt w A c n)(h2:Lt w Z c2 d)(J:(zAc BT n).length<=100000000)(hd:(zAc BT d).length<=100000000)(hP:POK w): Calls Tryz.prog 178 #[nuV false A c n Z c2 d,.int .i64 (most:Int)] w (zAf (.bool (decide (most<(digB n).size) || decide (most<(digB d).size))) w):=by
 have HX:Hid (Bx (w.alloc (.cells (nuC false A c n Z c2 d) 202)) w.heap.size (nuC false A c n Z c2 d) 202):=Bx.new _ _ _;have HB:Hid (Below w.heap.size w (w.alloc (.cells (nuC false A c n Z c2 d) 202))):=(aR _ _).alloc (aK _) _;obtain⟨W,hW⟩:∃W,W=w.alloc (.cells (nuC false A c n Z c2 d) 202):=⟨_,rfl⟩;rw[<-hW]at HX HB;have HT1:=zq (digitsL_c A c n W (h.below HB.o) J (hP.below HB.o));have HT2:Hid (∀u,Below W.heap.size W u->Calls Tryz.prog 238 #[lmV Z c2 d] u (zAf (.string (digB d)) u)):=fun u hu=>digitsL_c Z c2 d u (h2.below (zAa HB.o hu)) hd (hP.below (zAa HB.o hu))
 generalize digB n=sn at *;generalize digB d=sd at *;clear h h2 J hd hP
 go_enter Tryz.func178,Tryz.ntmps178;(go_upto_region 1 with fail);rw[<-hW];clear hW;have x1:=HX.o.c 1 rfl;have x2:=HX.o.c 2 rfl;have hsx:=HX.o.lt;(go_wp2_with fail);(with_reducible refine HT1.o.mono ?_);rintro x w1⟨rfl,hb1⟩;have HB1:=zq (zAa HB.o hb1);have X:=zq (HX.o.below hb1);have HT3:=zq (HT2.o w1 hb1);clear x1 x2 hsx HX HB HT1 hb1 HT2;have x2:=X.o.c 2 rfl;have hsx:=X.o.lt
 by_cases hl:most<sn.size
 ·have e1:decide (most<sn.size)=true:=aD hl
  go_wp2;go_ret
  exact zAf.mk (by rw[aD hl];rfl) HB1.o
 ·have e1:decide (most<sn.size)=false:=aE hl
  (go_wp2_with fail);(with_reducible refine HT3.o.mono ?_);rintro x w2⟨rfl,D⟩;have HB2:=zq (zAa HB1.o D);clear D x2 hsx;go_wp2;go_ret
  exact zAf.mk (by rw[aE hl,Bool.false_or];rfl) HB2.o
structure Ho where
 pt:BA
 t:Value
 b:Value
 q:Rat
def NumT(w:World)(t b:Value)(q:Rat):Prop:=∃A c Z c2,t=lmV A c q.num.natAbs/\b=lmV Z c2 q.den/\Lt w A c q.num.natAbs/\Lt w Z c2 q.den
theorem NumT.below{w w':World}{t b:Value}{q:Rat}(h:NumT w t b q)(I:Below w.heap.size w w'):NumT w' t b q:=by
 obtain⟨A,c,Z,c2,e1,e2,h1,h2⟩:=h;exact⟨A,c,Z,c2,e1,e2,h1.below I,h2.below I⟩
abbrev eHo:Ho->List Value:=fun x=>[.string x.pt,.bool false,x.t,x.b]
def HoOk(w:World)(l:List Ho):Prop:=∀x∈l,NumT w x.t x.b x.q
theorem HoOk.below{w w':World}{l:List Ho}(h:HoOk w l)(I:Below w.heap.size w w'):HoOk w' l:=fun x hx=>(h x hx).below I
abbrev prH(l:List Ho):List (BA×Rat):=l.map fun x=>(x.pt,x.q)
theorem elHo:ElemT Tryz.prog 197 206 (.agg #[.string emp,.bool false,.slice none 0 0,.slice none 0 0]) 4 72:=⟨Tryz.underlying197,zc,rfl,zd⟩
theorem oneHo{w:World}{x:Ho}(h:NumT w x.t x.b x.q):∀u∈eHo x,u.oneCell'=true:=by
 obtain⟨A,c,Z,c2,e1,e2,_⟩:=h;intro u hu;simp only[eHo,fD,List.not_mem_nil,or_false]at hu
 rcases hu with rfl|rfl|rfl|rfl
 ·rfl
 ·rfl
 ·rw[e1];rfl
 ·rw[e2];rfl
abbrev OwnH(w:World)(base:Nat)(v:Value)(l:List Ho):Prop:=zAv eHo 4 w base 206 v l
def GivesHo(PL:List (BA×Rat))(w:World)(e:Ending)(w':World):Prop:=∃v l,e=.returned v/\OwnH w' w.heap.size v l/\HoOk w' l/\prH l=PL/\Below w.heap.size w w'
theorem ho_at{w:World}{b o:Nat}{l:List Ho}(hc:∀(j:Nat)(v:Value),(l.flatMap eHo)[j]?=some v->w.cell? ⟨b,o+j,none⟩=some v){j:Nat}(hj:j<l.length):w.rangeAt b (o+j*4) (eHo l[j]):=fun q v hv=>by
 have hq:q<4:=by
  rcases aI q 4 with h|h
  ·exact h
  ·rw[List.getElem?_eq_none zu]at hv;cases hv
 have:=hc (j*4+q) v (by rw[flat_at (k:=4) (fun _=>rfl) l j hj q hq];exact hv)
 rwa [<-Nat.add_assoc]at this
theorem ge_sle{p a:BA}(h:sle p a=true):Op.bytesLess a.toList p.toList=false:=by
 cases I:Op.bytesLess a.toList p.toList with
 |false=>rfl
 |true =>
  have:=sle_false (a:=p) (b:=a) I;rw[h]at this
  cases this
theorem nge_sle{p a:BA}(h:sle p a=false):Op.bytesLess a.toList p.toList=true:=zBD h
def WiR(W:World)(l:List Ho)(p:BA)(q:Rat)(m:Nat)(ov dv iv:Value)(wr:World):Prop:=
 ∃(j:Nat)(lo:List Ho)(done:Bool)(v:Value),v=ov/\j+m=l.length/\iv=.int .i64 (j:Int)/\dv=.bool done/\OwnH wr W.heap.size v lo/\HoOk W lo/\lo.length<=2*j /\
  prH lo++withR p q done (prH (l.drop j))=withR p q false (prH l)/\Below W.heap.size W wr
theorem withR_cons(p:BA)(x:Rat)(done:Bool)(a:BA×Rat)(l:List (BA×Rat)):withR p x done (a::l)=((if (!done&&sle p a.1)=true then [(p,x)] else [])++(if a.1=p then [] else [a]))++withR p x (done || sle p a.1) l:=rfl
theorem prH_app(a b:List Ho):prH (a++b)=prH a++prH b:=aA
theorem drop_prH{l:List Ho}{j:Nat}(h:j<l.length):prH (l.drop j)=(l[j].pt,l[j].q)::prH (l.drop (j+1)):=by
 rw[bO h];rfl
theorem findQ_cons(a:BA×Rat)(l:List (BA×Rat))(p:BA):findQ (a::l) p=if a.1=p then a.2 else findQ l p:=by
 unfold findQ
 by_cases h:a.1=p
 ·rw[List.find?_cons_of_pos zu,aF h]
 ·rw[List.find?_cons_of_neg zu,aO h]
def PoR(W:World)(l:List Ho)(p:BA)(m:Nat)(iv:Value)(wr:World):Prop:=
 ∃j:Nat,j+m=l.length/\iv=.int .i64 (j:Int)/\findQ (prH (l.drop j)) p=findQ (prH l) p/\wr=W
theorem partOf_c(A:OA)(c:Nat)(l:List Ho)(p:BA)(w:World)(hr:RdK eHo w A l)(hk:HoOk w l)(hl:l.length<=1000000): Calls Tryz.prog 116 #[.slice A l.length c,.string p] w (zCo false (findQ (prH l) p).num.natAbs (findQ (prH l) p).den w):=by
 have hbw:Below w.heap.size w (w.alloc (.cells zBB 202)):=(aR _ _).alloc (aK _) _;have HX:Hid (Bx (w.alloc (.cells zBB 202)) w.heap.size zBB 202):=Bx.new _ _ _;obtain⟨W,hW⟩:∃W,W=w.alloc (.cells zBB 202):=⟨_,rfl⟩;rw[<-hW]at hbw HX;have HB:=zq hbw
 have HR:Hid (RdK eHo W A l):=fun hl0=>by
  exact tek
 have HK:=zq (hk.below hbw);have HI:=zq (Int_0 W);clear hr hk hbw;obtain⟨F,hF⟩:∃F,findQ (prH l) p=F:=⟨_,rfl⟩;rw[hF];have HF:=zq hF;clear hF
 go_enter Tryz.func116,Tryz.ntmps116;(go_upto_region 1 with fail);rw[<-hW];clear hW;go_wp2
 go_loopg[5] l.length (PoR W l p)
 case atStart=>exact⟨0,za,rfl,rfl,rfl⟩
 case round =>
  obtain⟨j,hjm,rfl,hfq,hw⟩:=hrel;subst hw;have HJ:=zq hjm;have HFQ:=zq hfq;clear hjm hfq
  by_cases Y:j<l.length
  ·obtain⟨b,o,hA,hc⟩:=HR.o za
   subst hA;have N:=ho_at hc Y;have hkx:=HK.o _ (aH Y);have HFQ2:=HFQ.o;rw[drop_prH Y,findQ_cons]at HFQ2;have HFQ2:=zq HFQ2;generalize l[j]=x at *;obtain⟨pt,t,b2,q2⟩:=x;obtain⟨A3,c3,A4,c4,e3,e4,h3,h4⟩:=hkx;simp only at e3 e4;subst e3;subst e4;have x0:wr.cell? ⟨b,o+j*4,none⟩=some (.string pt):=N 0 _ rfl;have x1:wr.cell? ⟨b,o+j*4+1,none⟩=some (.bool false):=N 1 _ rfl;have x2:wr.cell? ⟨b,o+j*4+1+1,none⟩=some (.slice A3 (zAc BT q2.num.natAbs).length c3):=N 2 _ rfl;have x3:wr.cell? ⟨b,o+j*4+1+2,none⟩=some (.slice A4 (zAc BT q2.den).length c4):=N 3 _ rfl;have H3:=zq h3;have H4:=zq h4;clear N hc h3 h4
   by_cases hp:pt=p
   ·have q1:=zAn hp
    have HE:Hid (q2=F):=by
     show _=_
     have:=HFQ2.o;rw[aF hp,HF.o]at this;exact this
    have hE:=HE.o;subst hE;clear hp HE;obtain⟨z0,z1,z2⟩:=HX.o.t;have zf:=HX.o.frozen;have zl:=HX.o.lt;go_wp2;refine aC (v:=nuV false A3 c3 q2.num.natAbs A4 c4 q2.den) (by simp[results,Tryz.results116,go_sem,z0,z1,z2]) rfl ⟨A3,c3,A4,c4,rfl,H3.o.setR HX.o _ _ _ _ _,H4.o.setR HX.o _ _ _ _ _,zBA HB.o za _ _ _⟩
   ·have q1:=zAp hp
    have HE:Hid (findQ (prH (l.drop (j+1))) p=findQ (prH l) p):=by
     show _=_
     have:=HFQ2.o;rw[aO hp]at this;exact this
    clear hp;go_wp2
    go_roundg (gk-1)
    case measure=>have:=HJ.o;omega
    case rel=>exact⟨j+1,ya,zi,HE.o,rfl⟩
  ·have hje:j=l.length:=by have:=HJ.o;omega
   subst hje
   have HE:Hid (F=0):=by
    show _=_
    have:=HFQ.o;rw[List.drop_length]at this;rw[<-HF.o,<-this]
    rfl
   have hE:=HE.o;subst hE;(go_wp2_with fail);(with_reducible refine HI.o.mono ?_);rintro e w2⟨A3,c3,A4,c4,rfl,h3,h4,D⟩;have HX2:=zq (HX.o.below D);have HB2:=zq (zAa HB.o D);have H3:=zq h3;have H4:=zq h4;clear D h3 h4;have zf:=HX2.o.frozen;have zl:=HX2.o.lt;obtain⟨z0,z1,z2⟩:=HX2.o.t;go_wp2;refine aC (v:=nuV false A3 c3 0 A4 c4 1) (by simp[results,Tryz.results116,go_sem,z0,z1,z2]) rfl ⟨A3,c3,A4,c4,rfl,H3.o.setR HX2.o _ _ _ _ _,H4.o.setR HX2.o _ _ _ _ _,zBA HB2.o za _ _ _⟩
theorem with_c(A A1 Z:OA)(c c1 c2:Nat)(l:List Ho)(p:BA)(q:Rat)(w:World)(hr:RdK eHo w A l)(hk:HoOk w l)(hl:l.length<=1000000)(h1:Lt w A1 c1 q.num.natAbs)(h2:Lt w Z c2 q.den): Calls Tryz.prog 175 #[.slice A l.length c,.string p,nuV false A1 c1 q.num.natAbs Z c2 q.den] w (GivesHo (withR p q false (prH l)) w):=by
 have hbw:Below w.heap.size w (w.alloc (.cells (nuC false A1 c1 q.num.natAbs Z c2 q.den) 202)):=(aR _ _).alloc (aK _) _;have HX:Hid (Bx (w.alloc (.cells (nuC false A1 c1 q.num.natAbs Z c2 q.den) 202)) w.heap.size (nuC false A1 c1 q.num.natAbs Z c2 q.den) 202):=Bx.new _ _ _;obtain⟨W,hW⟩:∃W,W=w.alloc (.cells (nuC false A1 c1 q.num.natAbs Z c2 q.den) 202):=⟨_,rfl⟩;rw[<-hW]at hbw HX;have HB:=zq hbw
 have HR:Hid (RdK eHo W A l):=fun hl0=>by
  exact tek
 have HK:=zq (hk.below hbw);have HNT:Hid (NumT W (lmV A1 c1 q.num.natAbs) (lmV Z c2 q.den) q):=⟨A1,c1,Z,c2,rfl,rfl,h1.below hbw,h2.below hbw⟩;clear hr hk h1 h2 hbw
 go_enter Tryz.func175,Tryz.ntmps175;(go_upto_region 1 with fail);rw[<-hW];clear hW;go_wp2
 go_loopg[7,8,9] l.length (WiR W l p q)
 case atStart=>exact⟨0,[],false,_,rfl,za,rfl,rfl,zAv.nil _ _ _ _ _,fun x hx=>(by cases hx),ze,rfl,aR _ _⟩
 case round =>
  obtain⟨j,lo,done,v,rfl,hjm,rfl,rfl,hown,hok,hlo,hpr,I⟩:=hrel;have HJ:=zq hjm;have HOW:=zq hown;have HOK:=zq hok;have HPR:=zq hpr;have HBW:=zq I;have X:=zq (HX.o.below I);have Q:=zq (HNT.o.below I);clear hjm hown hok hpr I
  by_cases Y:j<l.length
  ·obtain⟨b,o,hA,hc⟩:=HR.o za
   subst hA;have hrg0:=ho_at hc Y;have N:wr.rangeAt b (o+j*4) (eHo l[j]):=fun i v hv=>zAe HBW.o (hrg0 i v hv)
   have hkx:=HK.o _ (aH Y);have HDP:=zq (drop_prH Y);have HKX:=zq hkx;generalize l[j]=x at *;obtain⟨pt,t,b2,q2⟩:=x;obtain⟨A3,c3,A4,c4,e3,e4,h3,h4⟩:=HKX.o;simp only at e3 e4;subst e3;subst e4;have x0:wr.cell? ⟨b,o+j*4,none⟩=some (.string pt):=N 0 _ rfl;have HRW:Hid (W.rangeAt b (o+j*4) (eHo ⟨pt,lmV A3 c3 q2.num.natAbs,lmV A4 c4 q2.den,q2⟩)):=hrg0;have HN3:Hid (NumT W (lmV A3 c3 q2.num.natAbs) (lmV A4 c4 q2.den) q2):=⟨A3,c3,A4,c4,rfl,rfl,h3,h4⟩;have hlo2:(lo.length+2)*72<=140737488355328:=ya;have hlo3:lo.length<=2*j:=hlo;clear hrg0 N hkx h3 h4 hc;go_upto_region 6 with fail
   go_cut[26] from 16 to 27 (fun v wx=>v=.bool (!done&&sle p pt)/\wx=wr)
   case first =>
    cases done with
    |true =>
     go_wp2;go_meet;exact⟨rfl,rfl⟩
    |false =>
     cases hsl:sle p pt with
     |true =>
      have g1:=ge_sle hsl;have HSL:=zq hsl;clear hsl;go_wp2;go_meet;exact⟨by rw[HSL.o];rfl,rfl⟩
     |false =>
      have g1:=nge_sle hsl;have HSL:=zq hsl;clear hsl;go_wp2;go_meet;exact⟨by rw[HSL.o];rfl,rfl⟩
   case rest =>
   obtain⟨rfl,hwx⟩:=hcut;subst hwx;obtain⟨wr,hwr⟩:∃wr,wr=wc:=⟨_,rfl⟩;subst hwr;go_upto_if 26 with fail
   go_cut[7,8] from 26 to 33 (fun ov dv wx=>∃(lo2:List Ho)(v2:Value),v2=ov/\dv=.bool (done || sle p pt)/\OwnH wx W.heap.size v2 lo2/\HoOk W lo2/\lo2.length<=2*j+1/\prH lo2=prH lo++(if (!done&&sle p pt)=true then [(p,q)] else [])/\Below W.heap.size W wx)
   case first =>
    cases I : !done&&sle p pt with
    |true =>
     have HD:Hid ((done || sle p pt)=true):=by
      show _=_
      rw[eE]at I;rw[I.2,Bool.or_true]
     have HBT:=zq I;obtain⟨y0,y1,y2⟩:=X.o.t;have hsy:=X.o.lt;have hWr:W.heap.size<=wr.heap.size:=HBW.o.size;clear I
     go_wp2_with (at_builtin;refine zAT _ _ _ elHo rfl rfl W.heap.size v lo rfl (HOW.o.alloc _) wr.heap.size 1 (⟨p,lmV A1 c1 q.num.natAbs,lmV Z c2 q.den,q⟩:Ho) rfl (aJ _ _) rfl (oneHo HNT.o) zn za zg ?_;intro v1 w4 E hg4 hb4)
     have HO4:=zq E;have HB4:=zq ((HBW.o.alloc hWr _).trans hb4);clear E hg4 hb4;go_wp2;go_meet;refine⟨lo++[⟨p,lmV A1 c1 q.num.natAbs,lmV Z c2 q.den,q⟩],v1,rfl,(by rw[HD.o]),HO4.o,fun y hy=>?_,by rw[eA];simp;omega,by rw[prH_app,aF HBT.o];rfl,HB4.o⟩
     rcases List.mem_append.1 hy with h|h
     ·exact HOK.o y h
     ·rw[List.mem_singleton.1 h];exact HNT.o
    |false =>
     have HD:Hid ((done || sle p pt)=done):=by
      show _=_
      cases done with
      |true=>rfl
      |false=>simpa using I
     have HBF:=zq I;clear I;go_wp2;go_meet;exact⟨lo,v,rfl,(by rw[HD.o]),HOW.o,HOK.o,za,by simp[HBF.o],HBW.o⟩
   case rest =>
   obtain⟨lo2,v2,rfl,rfl,hown2,hok2,hlen2,hpr2,D⟩:=hcut;have HO2:=zq hown2;have HK2:=zq hok2;have HP2:=zq hpr2;have HB2:=zq D;have hrg2:wc.rangeAt b (o+j*4) (eHo ⟨pt,lmV A3 c3 q2.num.natAbs,lmV A4 c4 q2.den,q2⟩):=fun i v hv=>zAe D (HRW.o i v hv)
   have x0:wc.cell? ⟨b,o+j*4,none⟩=some (.string pt):=hrg2 0 _ rfl;have hWc:W.heap.size<=wc.heap.size:=D.size;clear hown2 hok2 hpr2 D hlo;go_upto_region 9 with fail
   by_cases hp:pt=p
   ·have q1:=zAn hp
    have HE:Hid (prH lo2++withR p q (done || sle p pt) (prH (l.drop (j+1)))=withR p q false (prH l)):=by
     show _=_
     rw[<-HPR.o,HDP.o,withR_cons,aF hp,HP2.o,bV,dN]
    clear hp;go_wp2
    go_roundg (gk-1)
    case measure=>have:=HJ.o;omega
    case rel=>exact⟨j+1,lo2,_,_,rfl,ya,zi,rfl,HO2.o,HK2.o,za,HE.o,HB2.o⟩
   ·have q1:=zAp hp
    have HE:Hid (prH (lo2++[⟨pt,lmV A3 c3 q2.num.natAbs,lmV A4 c4 q2.den,q2⟩])++withR p q (done || sle p pt) (prH (l.drop (j+1)))=withR p q false (prH l)):=by
     show _=_
     rw[<-HPR.o,HDP.o,withR_cons,aO hp,prH_app,HP2.o];simp
    clear hp;(go_upto_region 10 with fail);(iterate 14 go_step);refine fG _ _ zk b (o+j*4) zk (eHo ⟨pt,lmV A3 c3 q2.num.natAbs,lmV A4 c4 q2.den,q2⟩) _ hrg2 Tryz.underlying206 rfl zc ?_
    go_wp2_with (at_builtin;refine zAT _ _ _ elHo rfl rfl W.heap.size v2 lo2 rfl (HO2.o.alloc _) wc.heap.size 1 (⟨pt,lmV A3 c3 q2.num.natAbs,lmV A4 c4 q2.den,q2⟩:Ho) rfl (aJ _ _) rfl (oneHo HN3.o) zn za zg ?_;intro v3 w5 hown5 hg5 hb5)
    have HO5:=zq hown5;have HB5:=zq ((HB2.o.alloc hWc _).trans hb5);clear hown5 hg5 hb5;go_wp2
    go_roundg (gk-1)
    case measure=>have:=HJ.o;omega
    case rel =>
     refine⟨j+1,lo2++[⟨pt,lmV A3 c3 q2.num.natAbs,lmV A4 c4 q2.den,q2⟩],_,_,rfl,ya,zi,rfl,HO5.o,fun y hy=>?_,by rw[eA];simp;omega,HE.o,HB5.o⟩
     rcases List.mem_append.1 hy with h|h
     ·exact HK2.o y h
     ·rw[List.mem_singleton.1 h];exact HN3.o
  ·have hje:j=l.length:=by have:=HJ.o;omega
   have HPE:=HPR.o;rw[hje,List.drop_length]at HPE;have hlo2:(lo.length+2)*72<=140737488355328:=za;have hWr:W.heap.size<=wr.heap.size:=HBW.o.size
   cases done with
   |true =>
    have HE:Hid (prH lo=withR p q false (prH l)):=by
     show _=_
     rw[<-HPE];show _=prH lo++[]
     rw[bV]
    clear HPE;go_wp2;go_ret
    exact⟨v,lo,rfl,zAv.base HOW.o HB.o.size,HOK.o.below HBW.o,HE.o,zAa HB.o HBW.o⟩
   |false =>
    have HE:Hid (prH (lo++[⟨p,lmV A1 c1 q.num.natAbs,lmV Z c2 q.den,q⟩])=withR p q false (prH l)):=by
     show _=_
     rw[<-HPE,prH_app]
     rfl
    obtain⟨y0,y1,y2⟩:=X.o.t;have hsy:=X.o.lt;clear HPE
    go_wp2_with (at_builtin;refine zAT _ _ _ elHo rfl rfl W.heap.size v lo rfl (HOW.o.alloc _) wr.heap.size 1 (⟨p,lmV A1 c1 q.num.natAbs,lmV Z c2 q.den,q⟩:Ho) rfl (aJ _ _) rfl (oneHo HNT.o) zn za zg ?_;intro v1 w4 E hg4 hb4)
    have HO4:=zq E;have HB4:=zq ((HBW.o.alloc hWr _).trans hb4);clear E hg4 hb4;go_wp2;go_ret
    refine⟨v1,_,rfl,zAv.base HO4.o HB.o.size,fun y hy=>?_,HE.o,zAa HB.o HB4.o⟩
    rcases List.mem_append.1 hy with h|h
    ·exact(HOK.o y h).below HB4.o
    ·rw[List.mem_singleton.1 h];exact HNT.o.below HB4.o
def zDH(q:Rat)(w:World)(e:Ending)(w':World):Prop:=zCo false q.num.natAbs q.den w e w'
theorem OfT_c(nu de:BA)(w:World)(h:zDg nu de=0)(hp:posB nu=true):Calls Tryz.prog 176 #[.agg #[.string nu,.string de]] w (zDH (zDk nu de) w):=by
 obtain⟨h1,h2,h3,h4,h5⟩:=zCn h;have:=Of_cT nu de w (zAQ h1).1 h4 (zAQ h2).1 h5;rw[posB_neg hp]at this;exact tcc
section
variable (A Z A3 A4:OA) (c c2 c3 c4:Nat) (a b:Rat) (w:World)
theorem TimesQ_c(h:Lt w A c a.num.natAbs)(h2:Lt w Z c2 a.den)(h3:Lt w A3 c3 b.num.natAbs)(h4:Lt w A4 c4 b.den)(ha:0<=a)(I:0<=b)(sa:SzQ 50000000 a)(sb:SzQ 50000000 b): Calls Tryz.prog 177 #[nuV false A c a.num.natAbs Z c2 a.den,nuV false A3 c3 b.num.natAbs A4 c4 b.den] w (zDH (a*b) w):=by
 have:=times_c A Z A3 A4 c c2 c3 c4 a.num.natAbs a.den b.num.natAbs b.den w h h2 h3 h4 sa.1.2 sa.2.2 sb.1.2 sb.2.2 (den_q a) (den_q b);rw[show(a.num.natAbs,a.den)=prQ a from rfl,show(b.num.natAbs,b.den)=prQ b from rfl,mulP_q ha I]at this;exact this
theorem PlusQ_c(h:Lt w A c a.num.natAbs)(h2:Lt w Z c2 a.den)(h3:Lt w A3 c3 b.num.natAbs)(h4:Lt w A4 c4 b.den)(ha:0<=a)(I:0<=b)(sa:SzQ 50000000 a)(sb:SzQ 50000000 b): Calls Tryz.prog 120 #[nuV false A c a.num.natAbs Z c2 a.den,nuV false A3 c3 b.num.natAbs A4 c4 b.den] w (zDH (a+b) w):=by
 have:=plus_c false false A Z A3 A4 c c2 c3 c4 a.num.natAbs a.den b.num.natAbs b.den w h h2 h3 h4 sa.1.2 sa.2.2 sb.1.2 sb.2.2 (den_q a) (den_q b)
 have e:zDY false a.num.natAbs a.den false b.num.natAbs b.den=(false,prQ (a+b)):=by
  rw[<-addP_q ha I];unfold zDY;rw[aF rfl]
  rfl
 rw[e]at this;exact this
theorem LessQ_c(h:Lt w A c a.num.natAbs)(h2:Lt w Z c2 a.den)(h3:Lt w A3 c3 b.num.natAbs)(h4:Lt w A4 c4 b.den)(I:0<=b)(hle:b<=a)(sa:SzQ 50000000 a)(sb:SzQ 50000000 b): Calls Tryz.prog 120 #[nuV false A c a.num.natAbs Z c2 a.den,nuV (!false&&decide (b.num.natAbs≠0)) A3 c3 b.num.natAbs A4 c4 b.den] w (zDH (a-b) w):=by
 have:=plus_c false (!false&&decide (b.num.natAbs≠0)) A Z A3 A4 c c2 c3 c4 a.num.natAbs a.den b.num.natAbs b.den w h h2 h3 h4 sa.1.2 sa.2.2 sb.1.2 sb.2.2 (den_q a) (den_q b)
 have e:zDY false a.num.natAbs a.den (!false&&decide (b.num.natAbs≠0)) b.num.natAbs b.den=(false,prQ (a-b)):=by
  rw[<-subP_q I hle];unfold zDY
  by_cases h0:b.num.natAbs=0
  ·rw[aF (by simp[h0])]
   unfold subP;show(false&&_,zBX (a.num.natAbs*b.den+b.num.natAbs*a.den) (a.den*b.den))=(false,zBX (a.num.natAbs*b.den-b.num.natAbs*a.den) (a.den*b.den))
   rw[h0,Nat.zero_mul,dT,Nat.sub_zero,eK]
  ·rw[aO (by simp[h0]),aF (le_q I hle)]
   rfl
 rw[e]at this;exact this
theorem LongQ_c(h:Lt w A c a.num.natAbs)(h2:Lt w Z c2 a.den)(sa:SzQ 50000000 a)(hP:POK w):Calls Tryz.prog 178 #[nuV false A c a.num.natAbs Z c2 a.den,.int .i64 2000] w (zAf (.bool (longQ a)) w):=by
 have:Calls Tryz.prog 178 #[nuV false A c a.num.natAbs Z c2 a.den,.int .i64 2000] w (zAf (.bool (tooB a.num.natAbs a.den 2000)) w):=Long_c A Z c c2 a.num.natAbs a.den 2000 w h h2 (dX sa.1.2 za) (dX sa.2.2 za) hP;rw[tooB_long]at this;exact this
end
def HoS(w:World)(v:Value)(K:List BA)(f:zBq):Prop:=∃A c l,v=.slice A l.length c/\RdK eHo w A l/\HoOk w l/\prH l=zCN K f
theorem rdk_below{α:Type}{enc:α->List Value}{w w':World}{A:OA}{l:List α}(h:RdK enc w A l)(I:Below w.heap.size w w'):RdK enc w' A l:=fun hl=>by
 obtain⟨b,o,e,hc⟩:=h hl;exact⟨b,o,e,fun j v hv=>zAe I (hc j v hv)⟩
theorem HoS.below{w w':World}{v:Value}{K:List BA}{f:zBq}(h:HoS w v K f)(I:Below w.heap.size w w'):HoS w' v K f:=by
 obtain⟨A,c,l,e,h1,h2,h3⟩:=h;exact⟨A,c,l,e,rdk_below h1 I,h2.below I,h3⟩
theorem HoS.nil(w:World)(f:zBq):HoS w (.slice none 0 0) [] f:=⟨none,0,[],rfl,(fun h=>absurd h ze),(fun _ h=>jn),rfl⟩
theorem zDW{l:List Ho}{K:List BA}{f:zBq}(h:prH l=zCN K f):l.length=K.length:=by
 have:=bE List.length h;unfold zCN at this
 simpa using this
def GivesHs(K:List BA)(f:zBq)(w:World)(e:Ending)(w':World):Prop:=∃A c n,e=.returned (.slice A n c)/\HoS w' (.slice A n c) K f/\Below w.heap.size w w'
theorem withS_c(v:Value)(K:List BA)(f:zBq)(p:BA)(q:Rat)(A1 Z:OA)(c1 c2:Nat)(w:World)(h:HoS w v K f)(hk:IncN K)(hl:K.length<=1000000)(h1:Lt w A1 c1 q.num.natAbs)(h2:Lt w Z c2 q.den): Calls Tryz.prog 175 #[v,.string p,nuV false A1 c1 q.num.natAbs Z c2 q.den] w (GivesHs (zDT p K) (upH f p q) w):=by
 obtain⟨A,c,l,rfl,hr,ho,hp⟩:=h;refine(with_c A A1 Z c c1 c2 l p q w hr ho (by rw[zDW hp];exact hl) h1 h2).mono ?_;rintro _ _⟨v,l',rfl,hown,hok,hpr,I⟩;obtain⟨A',c',rfl,hrd⟩:=hown.rdk;exact⟨A',c',_,rfl,⟨A',c',l',rfl,hrd,hok,by rw[hpr,hp,withR_eq p q f hk]⟩,I⟩
theorem partS_c(v:Value)(K:List BA)(f:zBq)(p:BA)(w:World)(h:HoS w v K f)(hh:HoldOk K f)(hl:K.length<=1000000): Calls Tryz.prog 116 #[v,.string p] w (zDH (f p) w):=by
 obtain⟨A,c,l,rfl,hr,ho,hp⟩:=h;have:=partOf_c A c l p w hr ho (by rw[zDW hp];exact hl);rw[hp,findQ_pairs hh]at this;exact this
def edM(mo:List Int)(th:BA)(U:List De)(k:Nat):List Int:=[0,200001]++mo++(U.take k).flatMap fun d=>if zCx th d=true then edgeL U d else []
theorem edM_succ{mo:List Int}{th:BA}{U:List De}{k:Nat}(h:k<U.length):edM mo th U (k+1)=edM mo th U k++(if zCx th U[k]=true then edgeL U U[k] else []):=by
 unfold edM;exact te8
theorem edM_zero{mo:List Int}{th:BA}{U:List De}:edM mo th U 0=[0,200001]++mo:=by
 unfold edM;simp
theorem mem_edM{mo:List Int}{th:BA}{U:List De}{k:Nat}{x:Int}:x∈edM mo th U k↔x∈edL th U k\/x∈mo:=by
 unfold edM edL;simp only[eY,fD,List.not_mem_nil,or_false]
 constructor
 ·rintro(((h|h)|h)|h)
  ·exact .inl (.inl h)
  ·exact .inl (.inr (.inl h))
  ·exact .inr h
  ·exact .inl (.inr (.inr h))
 ·rintro((h|h|h)|h)
  ·exact .inl (.inl (.inl h))
  ·exact .inl (.inl (.inr h))
  ·exact .inr h
  ·exact .inl (.inr h)
theorem edM_len{mo:List Int}{th:BA}{U:List De}(k:Nat):(edM mo th U k).length<=2+2*k+mo.length:=by
 have h:=edL_len (th:=th) (U:=U) k
 have e:(edM mo th U k).length=(edL th U k).length+mo.length:=by
  unfold edM edL;simp only[eA,bM,aY];omega
 omega
def EdRM(mo:List Int)(W:World)(th:BA)(U:List De)(m:Nat)(ov iv:Value)(wr:World):Prop:=
 ∃(k:Nat)(v:Value),v=ov/\k+m=U.length/\iv=.int .i64 (k:Nat)/\zAv zEh 1 wr W.heap.size 3 v (edM mo th U k)/\Below W.heap.size W wr
def GivesEdM(mo:List Int)(th:BA)(U:List De)(w:World)(e:Ending)(w':World):Prop:=∃(E:List Int)(g cap:Nat),e=.returned (.slice (some ⟨g,0,none⟩) E.length cap)/\E.length<=402+mo.length/\E.Pairwise (· < ·)/\(∀x,x∈E↔x∈edL th U U.length\/x∈mo)/\(∀j (h:j<E.length),w'.cell? ⟨g,j,none⟩=some (.int .i64 E[j]))/\Below w.heap.size w w'
theorem edgesM_c(MA:OA)(mc:Nat)(mo:List Int)(RA:OA)(rc:Nat)(V:List Rg)(UA:OA)(O:Nat)(us:List BA)(DA:OA)(dc:Nat)(U:List De)(L:Nat)(th:BA)(w:World)(hl:LgIs RA rc V UA O us DA dc U w L)(hd:Des w DA U)(hdl:U.length<=200)(hkd:∀d∈U,1<=d.kd/\d.kd<=5)(hmo:RdK zEh w MA mo)(hma:MA≠none\/mo=[])(hml:mo.length<=1000): Calls Tryz.prog 67 #[.pointer (some ⟨L,0,none⟩),.string th,.slice MA mo.length mc] w (GivesEdM mo th U w):=by
 have HLG:=zq hl;have HD:=zq hd;clear hl hd;obtain⟨r1,r2,g1,g2,AL,cL,vr,vi,ins,base,hlx,_,hrn,_⟩:=HLG.o;have HRN:=zq hrn;have HLX:=zq hlx;have l2:=(hlx.below (w':=w.alloc (.cells #[.int .i64 0,.int .i64 200001] 3)) ((aR _ _).alloc (aK _) _)).c 2 rfl;have hsl:L<w.heap.size:=hlx.lt;clear hlx hrn
 go_enter Tryz.func67,Tryz.ntmps67;have HMO:Hid (RdK zEh (w.alloc (.cells #[.int .i64 0,.int .i64 200001] 3)) MA mo):=rdk_below hmo ((aR _ _).alloc (aK _) _);have hba:Below w.heap.size w (w.alloc (.cells #[.int .i64 0,.int .i64 200001] 3)):=(aR _ _).alloc (aK _) _;go_upto_region 2 with (at_builtin;refine zDG (k:=1) (enc:=zEh) (fun _=>rfl) zr _ _ _ elInt rfl rfl w.heap.size _ [0,200001] rfl (own_two w 0 200001) MA _ mc mo rfl rfl HMO.o hma jl zg ze ?_;intro v0 W hown0 hg0 hb0 hor0)
 have HO0:Hid (zAv zEh 1 W w.heap.size 3 v0 (edM mo th U 0)):=by
  show zAv _ _ _ _ _ _ _
  rw[edM_zero];exact hown0
 have HBW0:=zq (hba.trans hb0);have hslW:L<W.heap.size:=aB hsl HBW0.o.size;have l2:=(hb0.cell (p:=⟨L,2,none⟩) hsl).trans l2;clear hown0 hg0 hb0 hor0 hba HMO;go_wp2
 go_loopg[7,19] U.length (EdRM mo w th U)
 case atStart=>exact⟨0,_,rfl,za,rfl,HO0.o,HBW0.o⟩
 clear l2 hsl hslW HO0 HBW0
 case round =>
  obtain⟨k,v,rfl,hkm,rfl,how,I⟩:=hrel;have HK:=zq hkm;have HO:=zq how;have HBW:=zq I;have hel:=edM_len (mo:=mo) (th:=th) (U:=U) k;clear hkm how I
  by_cases Y:k<U.length
  ·obtain⟨b,o,hA,hb0,hc0⟩:=HD.o za
   subst hA;obtain⟨d,T⟩:∃d,U[k]=d:=⟨_,rfl⟩;have hp:=(hc0 k Y).1;rw[T]at hp;have N:wr.rangeAt b (o+k*16) (deC d).toList:=fun q v hv=>zAe HBW.o (hp q v hv)
   have HES:=zq (edM_succ (mo:=mo) (th:=th) Y);have HKD:=zq (hkd _ (aH Y));have HCN:=zq (fun(u:World)(hu:Below w.heap.size w u)=>concerns_c RA rc V UA O us (some ⟨b,o,none⟩) dc U L k th u (HLG.o.below hu) (HD.o.below hu) Y);rw[T]at HES HKD HCN;have HDD:=zq T;clear hp hc0 T;(go_upto_region 4 with fail);(iterate 8 go_step);refine fG _ _ zk b (o+k*16) zk (deC d).toList _ N Tryz.underlying126 rfl zc ?_;clear N;(go_upto_region 5 with fail);obtain⟨wd,hwd⟩:∃wd,wd=wr.alloc (.cells (deC d) 126):=⟨_,rfl⟩;rw[<-hwd];have hbd:Below wr.heap.size wr wd:=zm;have m:Hid (Bx wd wr.heap.size (deC d) 126):=zo;have HBD:=zq (zAa HBW.o hbd);have HOD:=zq (HO.o.below hbd);clear hwd hbd HO HBW;(go_wp2_with fail);(with_reducible refine(HCN.o _ HBD.o).mono ?_);rintro e w2⟨rfl,D⟩;have HB2:=zq (zAa HBD.o D);have HO2:=zq (HOD.o.below D);have HD2:=zq (m.o.below D);clear D HBD HOD m HCN
   cases hcb:zCx th d with
   |false =>
    have HN:Hid (zAv zEh 1 w2 w.heap.size 3 v (edM mo th U (k+1))):=by
     show zAv _ _ _ _ _ _ _
     rw[HES.o,hcb,aO ze,bV];exact HO2.o
    clear hcb;go_wp2
    go_roundg (gk-1)
    case measure=>have:=HK.o;omega
    case rel=>exact⟨k+1,v,rfl,zh,zi,HN.o,HB2.o⟩
   |true =>
    have d2:=HD2.o.c 2 rfl;have hsd:=HD2.o.lt;have HFO:=zq (fun W=>zCd d.kd W HKD.o);have hfp:=fldC_place d.kd HKD.o;(go_wp2_with fail);(with_reducible refine(HFO.o _).mono ?_);rintro e w3⟨rfl,hb3⟩;have HB3:=zq (zAa HB2.o hb3);have HO3:=zq (HO2.o.below hb3);have HD3:=zq (HD2.o.below hb3);clear hb3 d2 hsd HFO HB2 HO2 HD2
    cases hg:zAg d.kd with
    |true =>
     rw[hg]at hfp
     have HS2:Hid (edM mo th U (k+1)=edM mo th U k++[(zBj U d).1,(zBj U d).2]):=by
      show _=_
      rw[HES.o,hcb,aF rfl];unfold edgeL;rw[aF hg]
     obtain⟨rb,ro,rcap,hvr,c0,c1⟩:=run_at HRN.o Y;rw[HDD.o]at c0 c1;subst hvr;generalize (zBj U d).1=p1 at *;generalize (zBj U d).2=p2 at *;have l9:=HLX.o.c 9 rfl;have KP:Hid (∀w',Below w.heap.size w w'->w'.cell? ⟨L,9,none⟩=some (.slice (some ⟨rb,ro,none⟩) U.length rcap)/\w'.cell? ⟨rb,ro+k*2,none⟩=some (.int .i64 p1)/\w'.cell? ⟨rb,ro+k*2+1,none⟩=some (.int .i64 p2)):=fun w' I=>⟨zAe I l9,zAe I c0,zAe I c1⟩
     obtain⟨l9,c0,c1⟩:=KP.out w3 HB3.o;have hsl:L<w3.heap.size:=aB HLX.o.lt HB3.o.size;have hw3:w.heap.size<=w3.heap.size:=HB3.o.size;have HBD:Hid (Below w.heap.size w (w3.alloc (Obj.cells #[Value.int .i64 p1,Value.int .i64 p2] 3)).drew):=zAa (HB3.o.alloc hw3 _) (zAb (aR _ _) 1);clear hcb hg;go_upto_region 7 with fail
     go_region_held3 (fun w'=>w'.cell? ⟨L,9,none⟩=some (.slice (some ⟨rb,ro,none⟩) U.length rcap)/\w'.cell? ⟨rb,ro+k*2,none⟩=some (.int .i64 p1)/\w'.cell? ⟨rb,ro+k*2+1,none⟩=some (.int .i64 p2))
      (first|exact KP.out _ (zAa HB3.o (zAb (aR _ _) 1))|exact KP.out _ (HB3.o.alloc hw3 _)|exact KP.out _ HBD.o|exact KP.out _ HB9.o|fail)
      (first
       |((have t1:zAv zEh 1 (w3.alloc (Obj.cells #[Value.int .i64 p1,Value.int .i64 p2] 3)).drew w.heap.size 3 v (edM mo th U k):=(HO3.o.alloc _).below (zAb (aR _ _) 1));(have t2:(w3.alloc (Obj.cells #[Value.int .i64 p1,Value.int .i64 p2] 3)).drew.heap[w3.heap.size]?=some (.cells #[Value.int .i64 p1,Value.int .i64 p2] 3 (0,0)):=aJ w3 (Obj.cells #[Value.int .i64 p1,Value.int .i64 p2] 3));(have t3:((edM mo th U k).length+2)*8<=140737488355328:=za);(have t4:w.heap.size<=(w3.alloc (Obj.cells #[Value.int .i64 p1,Value.int .i64 p2] 3)).drew.heap.size:=HBD.o.size);(have t5:(edM mo th U k).length+2<=maxLen:=zn);(refine step_pushI rfl (.tmp 33) (.tmp 50) 68 rfl elInt w.heap.size v (edM mo th U k) rfl t1 w3.heap.size 2 2 [p1,p2] rfl t2 rfl rfl zd t5 t3 t4 ?_);intro g9 cap9 w9 ho9 hg9;(have hbt:Below w.heap.size (w3.alloc (Obj.cells #[Value.int .i64 p1,Value.int .i64 p2] 3)).drew w9:=(aR _ _).grown hg9 t4 (fun j hj=>(cQ t1 j hj).1));have HB9:Hid (Below w.heap.size w w9):=HBD.o.trans hbt;have HO9:=zq ho9;clear hbt ho9 hg9 t1 t2 t3 t4 t5 l9 c0 c1 hsl;obtain⟨l9,c0,c1⟩:=KP.out w9 HB9.o;have hsl:L<w9.heap.size:=aB HLX.o.lt HB9.o.size))
     have HE:Hid (zAv zEh 1 w9 w.heap.size 3 (.slice (some ⟨g9,0,none⟩) ((edM mo th U k).length+2) cap9) (edM mo th U (k+1))):=by show zAv _ _ _ _ _ _ _;rw[HS2.o];exact HO9.o
     clear l9 c0 c1 hsl hfp;go_wp2
     go_roundg (gk-1)
     case measure=>have:=HK.o;omega
     case rel=>exact⟨k+1,_,rfl,zh,zi,HE.o,HB9.o⟩
    |false =>
     rw[hg]at hfp
     have HS2:Hid (edM mo th U (k+1)=edM mo th U k++[d.bg]):=by
      show _=_
      rw[HES.o,hcb,aF rfl];unfold edgeL;rw[aO (by rw[hg];simp)]
     have d12:=HD3.o.c 12 rfl;have hsd:=HD3.o.lt;have hw3:w.heap.size<=w3.heap.size:=HB3.o.size;clear hcb hg
     go_wp2_with (at_builtin;refine zAT _ _ _ elInt rfl rfl w.heap.size v (edM mo th U k) rfl (HO3.o.alloc _) w3.heap.size 1 d.bg rfl (aJ _ _) rfl zr zn za zg ?_;intro v1 w4 E hg4 hb4)
     have HO4:Hid (zAv zEh 1 w4 w.heap.size 3 v1 (edM mo th U (k+1))):=yr;have HB4:=zq ((HB3.o.alloc hw3 _).trans hb4);clear E hg4 hb4 d12 hsd;go_wp2
     go_roundg (gk-1)
     case measure=>have:=HK.o;omega
     case rel=>exact⟨k+1,_,rfl,zh,zi,HO4.o,HB4.o⟩
  ·obtain rfl:k=U.length:=by have:=HK.o;omega
   have h2:2<=(edM mo th U U.length).length:=by unfold edM;simp
   obtain⟨E0,hE0⟩:∃E0,E0=edM mo th U U.length:=⟨_,rfl⟩;have HE0:=zq hE0;rw[<-hE0]at HO hel h2;clear hE0;obtain⟨g,cap,hv⟩:=own_some HO.o za;subst hv;obtain⟨q1,q2,q3,q4⟩:=own_holds HO.o za;have HQ:=zq q3;have HSO:=zq (sortI_c g cap E0 w.heap.size wr q1 q2 q3 za);clear q3;(go_wp2_with fail);(with_reducible refine HSO.o.mono ?_);rintro e w5⟨rfl,E1,hl1,ho1,hm1,hh1,hg1,hb1⟩;have HM1:=zq hm1;have HO1:=zq ho1;have HB5:=zq (HBW.o.trans hb1);rw[<-hl1];have HCO:=zq (compI_c g cap E1 w.heap.size w5 q1 hg1 hh1 za za);have HL1:=zq hl1;clear hm1 hh1 hb1 HSO hl1 ho1;(go_wp2_with fail);(with_reducible refine HCO.o.mono ?_);rintro e w6⟨E2,rfl,hl2,ho2,hm2,hc2,hb6⟩;have HO2:=zq (ho2 HO1.o);have HL2:=zq hl2;have HM2:=zq hm2;have HC2:=zq hc2;have HB6:=zq (HB5.o.trans hb6);clear hl2 hm2 hc2 hb6 HCO ho2;go_wp2;go_ret
   refine⟨E2,g,cap,rfl,?_,HO2.o,fun x=>?_,HC2.o,HB6.o⟩
   ·have:=HL1.o;have:=HL2.o;omega
   ·rw[<-mem_edM,<-HE0.o,HM2.o,HM1.o]
def sgL(V:List Rg)(th:BA)(i:Nat)(U:List De):List UInt8:=U.flatMap fun d=>if zAg d.kd=true/\zCx th d=true then [if zCE V d.ar i=true then 49 else 48] else []
section
variable {V:List Rg} {th:BA} {i j:Nat} {U:List De}
theorem sgL_succ{k:Nat}(h:k<U.length):sgL V th i (U.take (k+1))=sgL V th i (U.take k)++(if zAg U[k].kd=true/\zCx th U[k]=true then [if zCE V U[k].ar i=true then 49 else 48] else []):=by
 unfold sgL;exact te8
theorem sgL_len:(U:List De)->(sgL V th i U).length<=U.length
 |[]=>aK _
 |d::U=>by
  have ih:=sgL_len U;unfold sgL at ih ⊢;rw[cP,eA,bM]
  split<;>simp only[bM,aY]<;>omega
theorem sgL_same:(U:List De)->sgL V th i U=sgL V th j U->∀d∈U,zAg d.kd=true->zCx th d=true->zCE V d.ar i=zCE V d.ar j
 |[],_,d,hd,_,_=>by cases hd
 |a::U,h,d,hd,hg,hc=>by
  unfold sgL at h;rw[cP,cP]at h;have h2:=List.append_inj h (by split<;>rfl)
  rcases List.mem_cons.1 hd with rfl|hd
  ·have h1:=h2.1
   simp only[hg,hc,and_self,if_true,eN,and_true]at h1
   cases h3:zCE V d.ar i<;>cases h4:zCE V d.ar j<;>rw[h3,h4]at h1<;>first|rfl|(exact absurd h1 zd)
  ·exact sgL_same U h2.2 d hd hg hc
end
def clsF(sg:Nat->BA)(H:List Nat)(s:BA):Option Value:=(H.findIdx? fun h=>decide (sg h=s)).map fun j:Nat=>Value.int .i64 (j:Int)
theorem clsF_new{sg:Nat->BA}{H:List Nat}{k:Nat}(h:clsF sg H (sg k)=none):(fun s=>if s=sg k then some (Value.int .i64 (H.length:Int)) else clsF sg H s)=clsF sg (H++[k]):=by
 funext s
 unfold clsF at h ⊢;rw[List.findIdx?_append]
 by_cases hs:s=sg k
 ·subst hs
  rw[aF rfl,Option.map_eq_none_iff.1 h];simp
 ·rw[aO hs]
  have:[k].findIdx? (fun h=>decide (sg h=s))=none:=by simp;exact fun e=>hs e.symm
  rw[this];simp
theorem clsF_some{sg:Nat->BA}{H:List Nat}{s:BA}{v:Value}(h:clsF sg H s=some v):∃j,∃hj:j<H.length,v=.int .i64 (j:Int)/\sg H[j]=s:=by
 unfold clsF at h;obtain⟨j,hj,rfl⟩:=Option.map_eq_some_iff.1 h;obtain⟨h1,h2,_⟩:=List.findIdx?_eq_some_iff_getElem.1 hj;exact⟨j,h1,rfl,fE h2⟩
abbrev eV:Value->List Value:=fun x=>[x]
theorem flatV(l:List Value):l.flatMap eV=l:=by
 induction l with
 |nil=>rfl
 |cons a t ih=>rw[cP,ih];rfl
structure ClsS (W:World) (L r:Nat) (F:BA->Option Value) (v:Value) (vs:List Value) (R:Nat->List Int) (w:World):Prop where
 own:zAv eV 1 w W.heap.size 68 v vs
 rows:RowsI w W.heap.size L vs.length vs.toArray R
 map:zAt Value.string w r F
 rlo:W.heap.size<=r
 llo:L<W.heap.size
 bel:Below W.heap.size W w
section
variable {W w w':World} {L r:Nat} {F:BA→Option Value} {v v':Value} {vs:List Value} {R:Nat→List Int}
theorem ClsS.below(h:ClsS W L r F v vs R w)(I:Below w.heap.size w w'):ClsS W L r F v vs R w':=
 ⟨h.own.below I,h.rows.keepT fun g _ hg=>I.block g (zAj hg),h.map.below I,h.rlo,h.llo,zAa h.bel I⟩
theorem ClsS.upd(h:ClsS W L r F v vs R w){F':BA->Option Value}(hm:zAt Value.string w' r F')(hg:w.grownBy w' (some r)):ClsS W L r F' v vs R w':=
 ⟨h.own.grown hg (own_ne_mapJ h.own h.map),h.rows.keepT fun g cs hc=>hg.block g (zAj hc) fun e=>zAk h.map hc (fH e),hm,h.rlo,h.llo,h.bel.grown hg h.bel.size fun k hk=>by
  injection hk with hk;rw[<-hk];exact h.rlo⟩
theorem rowsI_snoc{B g1:Nat}(h:RowsI w B g1 vs.length vs.toArray R):RowsI w B g1 (vs++[zAo]).length (vs++[zAo]).toArray (fun x=>if x=vs.length then [] else R x):=by
 have C:∀(x:Nat)(u:Value),(vs++[zAo]).toArray[x]?=some u->(x=vs.length/\u=zAo)\/(x≠vs.length/\vs.toArray[x]?=some u):=fun x u hu=>by
  rw[List.getElem?_toArray]at hu
  by_cases e:x<vs.length
  ·rw[List.getElem?_append_left e]at hu
   exact .inr ⟨za,by rw[List.getElem?_toArray];exact hu⟩
  ·rw[List.getElem?_append_right za]at hu
   obtain⟨h1,h2⟩:=List.getElem?_eq_some_iff.1 hu;have:x=vs.length:=by simp at h1;omega
   subst this;exact .inl ⟨rfl,jm⟩
 refine⟨ze,fun x u hu=>?_,fun x u hu=>?_,fun x y u t hxy hu ht=>?_⟩
 ·rcases C x u hu with ⟨rfl,rfl⟩|⟨hne,hu⟩
  ·rw[aF rfl];exact zAv.nil _ _ _ _ _
  ·rw[aO hne];exact h.own x u hu
 ·rcases C x u hu with ⟨rfl,rfl⟩|⟨hne,hu⟩
  ·simp[Value.ownBlock]
  ·exact h.ne1 x u hu
 ·rcases C x u hu with ⟨rfl,rfl⟩|⟨hne,hu⟩
  ·exact .inl rfl
  ·rcases C y t ht with ⟨rfl,rfl⟩|⟨hne2,ht⟩
   ·cases I:u.ownBlock with
    |none=>exact .inl rfl
    |some q=>exact .inr (by simp[Value.ownBlock])
   ·exact h.sep x y u t hxy hu ht
theorem ClsS.snoc(h:ClsS W L r F v vs R w)(ho:zAv eV 1 w' W.heap.size 68 v' (vs++[zAo]))(hg:w.grownBy w' v.ownBlock):ClsS W L r F v' (vs++[zAo]) (fun x=>if x=vs.length then [] else R x) w':=
 ⟨ho,rowsI_snoc (h.rows.keepT fun g cs hc=>hg.block g (zAj hc) fun e=>by
   obtain⟨_,cs2,hc2⟩:=zBc h.own e.symm;exact zAF hc hc2 zd rfl),
  h.map.keep (hg.block r h.map.lt fun e=>by
   obtain⟨_,cs2,hc2⟩:=zBc h.own e.symm;exact zAk h.map hc2 rfl),h.rlo,h.llo,h.bel.grown hg h.bel.size (own_base h.own)⟩
theorem ClsS.put{g c j:Nat}{u u':Value}{m:Int}(h:ClsS W L r F (.slice (some ⟨g,0,none⟩) vs.length c) vs R w)(hj:vs[j]?=some u)(hg:w.grownBy w' u.ownBlock)(ho:zAv zEh 1 w' W.heap.size 3 u' (R j++[m]))(hat:u'.ownBlock=u.ownBlock\/u'.ownBlock=some w.heap.size):ClsS W L r F (.slice (some ⟨g,0,none⟩) vs.length c) (vs.set j u') (fun x=>if x=j then R j++[m] else R x) (w'.setCell ⟨g,j,none⟩ u'):=by
 have hjA:vs.toArray[j]?=some u:=by rw[List.getElem?_toArray];exact hj
 have hu:=h.rows.own j u hjA;have hrow:=h.rows.push hjA (aB h.llo h.bel.size) hg ho hat;have hown:zAv eV 1 w' W.heap.size 68 (.slice (some ⟨g,0,none⟩) vs.length c) vs:=h.own.grown hg (zEi h.own hu zd);have hb':Below W.heap.size W w':=h.bel.grown hg h.bel.size (own_base hu)
 have hm':zAt Value.string w' r F:=h.map.keep (hg.block r h.map.lt fun e=>by
  obtain⟨_,cs2,hc2⟩:=zBc hu e.symm;exact zAk h.map hc2 rfl)
 obtain⟨hlo,cs,hcs⟩:=zBc hown (g:=g) rfl;have hst:=(World.ownsRow.stored (xs:=vs.flatMap eV) hown j u').1;have hfl:=flatV;rw[hfl]at hst;refine⟨?_,?_,hm'.keep (dQ _ _ _ _ (fun e=>zAk hm' hcs e.symm)),h.rlo,h.llo,hb'.setCell hlo _⟩
 ·unfold zAv
  rw[hfl,aM];exact hst
 ·have:=hrow.keepT (w':=w'.setCell ⟨g,j,none⟩ u') fun q cs2 hc=>dQ _ _ _ _ (zAF hc hcs zd)
  rw[aM,<-dP];exact this
end
structure FactsC (sg:Nat->BA) (nl k:Nat) (H:List Nat) (vs:List Value) (R:Nat->List Int):Prop where
 len:vs.length=H.length
 hk:H.length<=k
 lt:∀h∈H,h<nl
 rl:∀q,q<H.length->(R q).length<=k
 hd:∀q (h:q<H.length),(R q).head?=some (H[q]:Int)
 cov:∀n,n<k->∃h∈H,sg h=sg n
structure FactsK (sg:Nat->BA) (nl k j:Nat) (H:List Nat) (vs:List Value) (R:Nat->List Int):Prop where
 len:vs.length=H.length
 hj:j<H.length
 hk:H.length<=k+1
 lt:∀h∈H,h<nl
 rl:∀q,q<H.length->(R q).length<=k
 hd:∀q (h:q<H.length),(if q=j then R j++[(k:Int)] else R q).head?=some (H[q]:Int)
 cov:∀n,n<k+1->∃h∈H,sg h=sg n
section
variable {sg:Nat→BA} {nl k j:Nat} {H:List Nat} {vs:List Value} {R:Nat→List Int}
theorem FactsC.zero:FactsC sg nl 0 [] [] R:=⟨rfl,aK _,fun _ h=>(List.not_mem_nil h).elim,fun _ h=>absurd h (Nat.not_lt_zero _),fun _ h=>absurd h (Nat.not_lt_zero _),fun _ h=>absurd h (Nat.not_lt_zero _)⟩
theorem FactsC.old(h:FactsC sg nl k H vs R)(hj:j<H.length)(hs:sg H[j]=sg k):FactsK sg nl k j H vs R:=
 ⟨h.len,hj,Nat.le_succ_of_le h.hk,h.lt,h.rl,fun q hq=>by
  by_cases e:q=j
  ·subst e
   rw[aF rfl,List.head?_append,h.hd q hq];rfl
  ·rw[aO e];exact h.hd q hq,fun n J=>by
  rcases aI n k with h1|h1
  ·exact h.cov n h1
  ·obtain rfl:n=k:=by omega
   exact⟨_,aH hj,hs⟩⟩
theorem FactsC.new(h:FactsC sg nl k H vs R)(hk:k<nl)(hl:vs.length=H.length):FactsK sg nl k H.length (H++[k]) (vs++[zAo]) (fun x=>if x=vs.length then [] else R x):=
 ⟨by simp[h.len],ze,by have:=h.hk;simp;omega,fun x hx=>by
  rcases List.mem_append.1 hx with hx|hx
  ·exact h.lt x hx
  ·rw[List.mem_singleton.1 hx];exact hk,fun q hq=>by
  by_cases e:q=vs.length
  ·rw[aF e];simp
  ·rw[aO e];exact h.rl q (by simp at hq;omega),fun q hq=>by
  by_cases e:q=H.length
  ·subst e
   rw[aF rfl,aF hl.symm];simp
  ·have hq2:q<H.length:=by simp at hq;omega
   rw[aO e,aO za,h.hd q hq2,List.getElem_append_left hq2],fun n J=>by
  rcases aI n k with h1|h1
  ·obtain⟨x,hx,e⟩:=h.cov n h1
   exact⟨x,List.mem_append_left _ hx,e⟩
  ·obtain rfl:n=k:=by omega
   exact⟨n,ze,rfl⟩⟩
theorem FactsK.done(h:FactsK sg nl k j H vs R)(u:Value):FactsC sg nl (k+1) H (vs.set j u) (fun x=>if x=j then R j++[(k:Int)] else R x):=
 ⟨by rw[aM];exact h.len,h.hk,h.lt,fun q hq=>by
  by_cases e:q=j
  ·rw[aF e,eA,List.length_singleton];have:=h.rl j h.hj;omega
  ·rw[aO e];have:=h.rl q hq;omega,h.hd,h.cov⟩
end
def ClsIs(w:World)(v:Value)(H:List Nat):Prop:=∃A c,v=.slice A H.length c/\(0<H.length->∃g,A=some ⟨g,0,none⟩/\∀j (h:j<H.length),∃gj nj cj,w.cell? ⟨g,j,none⟩=some (.slice (some ⟨gj,0,none⟩) nj cj)/\0<nj/\w.cell? ⟨gj,0,none⟩=some (.int .i64 (H[j]:Int)))
theorem ClsS.is{W w:World}{L r:Nat}{F:BA->Option Value}{v:Value}{vs:List Value}{R:Nat->List Int}{sg:Nat->BA}{nl k:Nat}{H:List Nat}(h:ClsS W L r F v vs R w)(hf:FactsC sg nl k H vs R):ClsIs w v H:=by
 obtain⟨A,c,rfl,hr⟩:=h.own.rdk;refine⟨A,c,by rw[hf.len],fun h0=>?_⟩;obtain⟨g,cap,hv⟩:=own_some h.own (by rw[hf.len];exact h0)
 injection hv with hv _ _
 subst hv;refine⟨g,rfl,fun j hj=>?_⟩;have hjv:j<vs.length:=by rw[hf.len];exact hj
 have hown:=h.rows.own j vs[j] (by rw[List.getElem?_toArray];exact List.getElem?_eq_getElem hjv);have hhd:=hf.hd j hj
 have h0:0<(R j).length:=by
  cases hR:R j with
  |nil=>rw[hR]at hhd;cases hhd
  |cons _ _=>simp
 obtain⟨gj,cj,hvj⟩:=own_some hown h0;refine⟨gj,(R j).length,cj,?_,h0,?_⟩
 ·rw[eC (xs:=vs.flatMap eV) h.own j za,flatV,List.getElem?_eq_getElem hjv,hvj]
 ·rw[hvj]at hown
  rw[eC (xs:=(R j).flatMap zEh) hown 0 za,flat1 (f:=fun z:Int=>Value.int .i64 z),List.getElem?_map,<-List.head?_eq_getElem?,hhd]
  rfl
section
variable {V:List Rg} {us:List BA} {U:List De} {th party pl S:BA} {day:Int}
end
end Go.Proofs.YtbbchlpccgkikaaGreatDoor
namespace Go.Proofs.YtbbchlpccgkikaaGreatDoor
open Dw
def lfI(V:List Rg)(n:Nat):Nat:=(zAh V).getD n 0
section
variable {V:List Rg} {us:List BA} {U:List De} {i j k:Nat} {th S pl party:BA} {day:Int} {d:De}
theorem vB_lies(h:zCE V d.ar i=zCE V d.ar j):vB V U i S day d=vB V U j S day d:=by unfold vB;rw[h]
theorem conc_th(h1:d.th=th)(h2:d.kd≠4):zCx th d=true:=by unfold zCx;rw[aD h1,aE h2];simp
theorem edL_mem{x:Int}:x∈edL th U U.length↔x=0\/x=200001\/zDo th U x=true:=by
 unfold edL zDo;rw[aN,fD,fD,List.mem_flatMap,eS];refine or_congr Iff.rfl (or_congr Iff.rfl ⟨?_,?_⟩)
 ·rintro⟨d,hd,hx⟩
  cases hc:zCx th d with
  |false=>rw[hc]at hx;simp at hx
  |true =>
   rw[hc,aF rfl]at hx;exact⟨d,hd,by rw[hc,eL,eS];exact⟨x,hx,aD rfl⟩⟩
 ·rintro⟨d,hd,h⟩
  rw[eE,eS]at h;obtain⟨hc,n,J,e⟩:=h;have e:=fE e;subst e;exact⟨d,hd,by rw[aF hc];exact J⟩
end
theorem zDn{V:List Rg}{us:List BA}{U:List De}(h:zBY V us U=0)(k:Nat):zBY V us (U.take k)=0:=by
 unfold zBY at h ⊢
 by_cases a1:zDM V≠0
 ·rw[aF a1]at h;exact absurd h a1
 rw[aO a1]at h ⊢
 by_cases a2:us=[]
 ·rw[aF a2]at h;cases h
 rw[aO a2]at h ⊢
 by_cases a3:20<us.length
 ·rw[aF a3]at h;cases h
 rw[aO a3]at h ⊢
 cases hm:(List.range us.length).findSome? (zBg us)with
 |some f=>rw[hm]at h;exact h
 |none =>
  rw[hm]at h;simp only at h ⊢
  by_cases a4:200<U.length
  ·rw[aF a4]at h;cases h
  rw[aO a4]at h;rw[aO yc]
  cases hd:(List.range U.length).findSome? (zBZ V us U)with
  |some f =>
   rw[hd]at h;obtain⟨j,_,hj⟩:=List.exists_of_findSome?_eq_some hd;unfold zBZ at hj
   split at hj
   ·next hne=>injection hj with hj;exact absurd (hj.trans h) hne
   ·cases hj
  |none =>
   rw[List.findSome?_eq_none_iff]at hd
   have:(List.range (U.take k).length).findSome? (zBZ V us (U.take k))=none:=by
    rw[List.findSome?_eq_none_iff];intro j hj;have hj2:=List.mem_range.1 hj;rw[bF]at hj2;have hh:=hd j (List.mem_range.2 za);unfold zBZ at hh ⊢;rw[List.take_take,bH za,List.getD_eq_getElem?_getD,List.getElem?_take_of_lt za,<-List.getD_eq_getElem?_getD];exact hh
   rw[this]
def LieS(V:List Rg)(U:List De)(th:BA)(i j:Nat):Prop:=∀d∈U,zAg d.kd=true->zCx th d=true->zCE V d.ar i=zCE V d.ar j
section
variable {V:List Rg} {us:List BA} {U:List De} {i j k:Nat} {th S:BA} {day:Int} {d:De}
theorem LieS.take(h:LieS V U th i j)(k:Nat):LieS V (U.take k) th i j:=fun d hd=>h d (dJ hd)
theorem LieS.parts(h:LieS V U th i j)(n:Nat):zAs V U i th S day n=zAs V U j th S day n:=by
 refine parts_congr (fun _ _=>rfl) (fun d hd=>?_) n;unfold zCZ
 by_cases h1:d.kd=2
 ·rw[aF h1,aF h1]
  exact tc9
 ·rw[aO h1,aO h1]
theorem LieS.lic(h:LieS V U th i j)(hd:d∈U)(p:BA)(x:Bool):zBN V U i S day th p x d=zBN V U j S day th p x d:=by
 unfold zBN
 by_cases h1:d.kd=3
 ·exact tc9
 ·rw[aE h1];rfl
theorem LieS.may(h:LieS V U th i j)(party ho:BA):mayF V U i S day th party ho=mayF V U j S day th party ho:=may_congr (fun _ hd p x=>h.lic hd p x) party ho
def brB(V:List Rg)(U:List De)(i:Nat)(S:BA)(day:Int)(k:Nat)(d:De):Bool:=
 vB V U i S day d&&(if d.kd=2 then decide (zAs V U i d.th S day k d.fr=0) else
  decide (zAs V (U.take k) i d.th S day k d.fr=0)&&(holL (zBk V (U.take k) i d.th S day k) (zAs V (U.take k) i d.th S day k)).all fun h=>!mayF V (U.take k) i S day d.th d.fr h)
theorem brB_sg(hc:zBY V us U=0)(hd:d∈U)(hg:zAg d.kd=true)(h:LieS V U d.th i j):brB V U i S day k d=brB V U j S day k d:=by
 have hcc:zCx d.th d=true:=conc_th rfl fun e=>by rw[e]at hg;cases hg
 have h2:=h.take k;have hp:=h2.parts (S:=S) (day:=day) k;obtain⟨a1,a2,_⟩:=zCa (zDn hc k) i d.th S day k;obtain⟨b1,b2,_⟩:=zCa (zDn hc k) j d.th S day k
 have hh:holL (zBk V (U.take k) i d.th S day k) (zAs V (U.take k) i d.th S day k)=holL (zBk V (U.take k) j d.th S day k) (zAs V (U.take k) j d.th S day k):=by
  rw[hp]at a2 ⊢;exact holL_uniq a1 b1 a2 b2
 have hm:(fun x=>!mayF V (U.take k) i S day d.th d.fr x)=fun x=>!mayF V (U.take k) j S day d.th d.fr x:=by funext x;rw[h2.may]
 unfold brB;rw[vB_lies (h d hd hg hcc),h.parts,hh,hm,hp]
theorem brB_step(hc:zBY V us U=0)(hd:d∈U)(hg:zAg d.kd=true)(he:zDo d.th U day=false)(he2:zDo d.th (U.take k) day=false):brB V U i S (day-1) k d=brB V U i S day k d:=by
 have hcc:zCx d.th d=true:=conc_th rfl fun e=>by rw[e]at hg;cases hg
 have hv:vB V U i S (day-1) d=vB V U i S day d:=vB_day hg (edgeB_no he hd hcc);have h1:zAs V U i d.th S (day-1) k=zAs V U i d.th S day k:=parts_congr (fun _ hd=>orgB_day hd he) (fun _ hd=>movB_day hd he) k;have hp:zAs V (U.take k) i d.th S (day-1) k=zAs V (U.take k) i d.th S day k:=parts_congr (fun _ hd=>orgB_day hd he2) (fun _ hd=>movB_day hd he2) k;obtain⟨a1,a2,_⟩:=zCa (zDn hc k) i d.th S (day-1) k;obtain⟨b1,b2,_⟩:=zCa (zDn hc k) i d.th S day k
 have hh:holL (zBk V (U.take k) i d.th S (day-1) k) (zAs V (U.take k) i d.th S (day-1) k)=holL (zBk V (U.take k) i d.th S day k) (zAs V (U.take k) i d.th S day k):=by
  rw[hp]at a2 ⊢;exact holL_uniq a1 b1 a2 b2
 have hm:(fun x=>!mayF V (U.take k) i S (day-1) d.th d.fr x)=fun x=>!mayF V (U.take k) i S day d.th d.fr x:=by
  funext x
  rw[may_congr (fun _ hd p x=>licB_day hd he2)]
 unfold brB;rw[hv,h1,hh,hm,hp]
theorem brB_last(hc:zBY V us U=0)(hd:d∈U)(hg:zAg d.kd=true){E:Int->Prop}(h0:E 0)(hE:∀x,zDo d.th U x=true\/zDo d.th (U.take k) x=true->E x):∀n:Nat,∃e,E e/\brB V U i S e k d=brB V U i S (n:Int) k d
 |0=>⟨0,h0,rfl⟩
 |n+1=>by
  obtain⟨e,h1,h2⟩:=brB_last hc hd hg h0 hE n
  by_cases hx:E ((n+1:Nat):Int)
  ·exact⟨_,hx,rfl⟩
  ·refine⟨e,h1,h2.trans ?_⟩
   have e1:zDo d.th U ((n+1:Nat):Int)=false:=by
    cases hq:zDo d.th U ((n+1:Nat):Int)with
    |false=>rfl
    |true=>exact absurd (hE _ (.inl hq)) hx
   have e2:zDo d.th (U.take k) ((n+1:Nat):Int)=false:=by
    cases hq:zDo d.th (U.take k) ((n+1:Nat):Int)with
    |false=>rfl
    |true=>exact absurd (hE _ (.inr hq)) hx
   have:=brB_step (i:=i) (S:=S) hc hd hg e1 e2;rw[<-this]
   congr 1
   omega
def dayR(U:List De)(x:Int):Prop:=x=0\/(0<x/\x<200001/\∃d∈U,x=d.bg\/x=d.en)
theorem endAt_bg{l:List De}{id:BA}{t:Int}(h:zDR l id=some t):∃e∈l,t=e.bg:=by
 unfold zDR at h;obtain⟨e,he,rfl⟩:=Option.map_eq_some_iff.1 h;exact⟨e,List.mem_reverse.1 (List.mem_of_find?_eq_some he),rfl⟩
theorem toP_of(hd:d∈U):∃e∈U,toP U d=e.bg\/toP U d=e.en:=by
 unfold toP
 cases h:zDR U d.id with
 |none=>exact⟨d,hd,.inr rfl⟩
 |some t =>
  obtain⟨e,he,ht⟩:=endAt_bg h;show ∃e∈U,min d.en t=e.bg\/min d.en t=e.en
  rcases Int.le_total d.en t with h1|h1
  ·exact⟨d,hd,.inr (Int.min_eq_left h1)⟩
  ·exact⟨e,he,.inl (by rw[Int.min_eq_right h1,ht])⟩
theorem edge_of{x:Int}(h:zDo th U x=true):x=0\/∃e∈U,x=e.bg\/x=e.en:=by
 unfold zDo at h;rw[eS]at h;obtain⟨d,hd,h⟩:=h;rw[eE,eS]at h;obtain⟨_,n,J,e⟩:=h;have e:=fE e;subst e;unfold edgeL at J
 split at J
 ·next hg =>
  unfold zBj at J;rw[aF hg]at J;unfold cutR at J
  split at J
  ·left;simpa using J
  ·rcases List.mem_cons.1 J with e|J
   ·exact .inr ⟨d,hd,.inl e⟩
   ·rw[List.mem_singleton.1 J]
    exact .inr (toP_of hd)
 ·exact .inr ⟨d,hd,.inl (List.mem_singleton.1 J)⟩
theorem toP_le:toP U d<=d.en:=by
 unfold toP
 split
 ·exact Int.min_le_left _ _
 ·exact Int.le_refl _
theorem vB_range(h:vB V U i S day d=true)(I:0<=d.bg):0<=day/\day<d.en/\zCE V d.ar i=true/\S∈d.us:=by
 unfold vB at h;simp only[eE,bX]at h;obtain⟨⟨h1,h2⟩,h3,h4⟩:=h;have ht:=@toP_le U d;unfold zBj at h1 h2
 by_cases hg:zAg d.kd=true
 ·rw[aF hg]at h1 h2
  unfold cutR at h1 h2
  by_cases hc:toP U d<=d.bg
  ·rw[aF hc]at h1 h2
   simp only at h1 h2;omega
  ·rw[aO hc]at h1 h2
   simp only at h1 h2;exact⟨za,za,h3,zBe.1 h4⟩
 ·rw[aO hg]at h1 h2
  simp only at h1 h2;omega
theorem brB_v{x:Int}(h:brB V U i S x k d=true):vB V U i S x d=true:=by
 unfold brB at h;rw[eE]at h;exact h.1
theorem br_iff(hc:zBY V us U=0)(hd:d∈U)(hg:zAg d.kd=true)(I:0<=d.bg)(hen:d.en<=200000)(hu:∀u∈d.us,u∈us){H:List Nat}(hH:∀h∈H,h<(zAh V).length)(hcov:∀n,n<(zAh V).length->∃h∈H,sgL V d.th (lfI V h) U=sgL V d.th (lfI V n) U){E:List Int}(hE:∀x,x∈E↔x=0\/x=200001\/zDo d.th U x=true\/zDo d.th (U.take k) x=true): (∃h∈H,∃u∈d.us,∃x∈E,brB V U (lfI V h) u x k d=true)↔∃x,dayR U x/\∃n,n<(zAh V).length/\∃u∈us,brB V U (lfI V n) u x k d=true:=by
 constructor
 ·rintro⟨h,hh,u,hu2,x,hx,hbr⟩
  obtain⟨r1,r2,_,_⟩:=vB_range (brB_v hbr) I;refine⟨x,?_,h,hH h hh,u,hu u hu2,hbr⟩
  rcases(hE x).1 hx with h1|h1|h1|h1
  ·exact .inl h1
  ·omega
  ·rcases edge_of h1 with h2|⟨e,he,h2⟩
   ·exact .inl h2
   ·by_cases h0:x=0
    ·exact .inl h0
    ·exact .inr ⟨za,za,e,he,h2⟩
  ·rcases edge_of h1 with h2|⟨e,he,h2⟩
   ·exact .inl h2
   ·by_cases h0:x=0
    ·exact .inl h0
    ·exact .inr ⟨za,za,e,dJ he,h2⟩
 ·rintro⟨x,hx,n,J,u,hu2,hbr⟩
  obtain⟨r1,r2,_,r4⟩:=vB_range (brB_v hbr) I;obtain⟨h,hh,hs⟩:=hcov n J;have hl:LieS V U d.th (lfI V h) (lfI V n):=fun d' hd' hg' hc'=>sgL_same U hs d' hd' hg' hc'
  obtain⟨e,he,heq⟩:=brB_last (i:=lfI V h) (S:=u) (k:=k) hc hd hg (E:=fun x=>x∈E) ((hE 0).2 (.inl rfl)) (fun y hy=>(hE y).2 (.inr (.inr hy))) x.toNat;refine⟨h,hh,u,r4,e,he,?_⟩
  rw[heq,Int.toNat_of_nonneg r1,brB_sg hc hd hg hl];exact hbr
def bothB(V:List Rg)(U:List De)(a b:De):Prop:=∃x,dayR U x/\∃n,n<(zAh V).length/\∃u,vB V U (lfI V n) u x a=true/\vB V U (lfI V n) u x b=true
theorem run_bg(hg:zAg d.kd=true)(h:(zBj U d).1<(zBj U d).2):(zBj U d).1=d.bg:=by
 unfold zBj at h ⊢;rw[aF hg]at h ⊢;unfold cutR at h ⊢
 by_cases hc:toP U d<=d.bg
 ·rw[aF hc]at h;simp at h
 ·rw[aO hc]
theorem run_en(hg:zAg d.kd=true)(h:(zBj U d).1<(zBj U d).2):(zBj U d).2<=d.en:=by
 have ht:=@toP_le U d;unfold zBj at h ⊢;rw[aF hg]at h ⊢;unfold cutR at h ⊢
 by_cases hc:toP U d<=d.bg
 ·rw[aF hc]at h;simp at h
 ·rw[aO hc];exact ht
theorem both_iff{a b:De}(ha:a∈U)(I:b∈U)(hga:zAg a.kd=true)(hgb:zAg b.kd=true)(ha0:0<=a.bg)(hb0:0<=b.bg)(hae:a.en<=200000)(hbe:b.en<=200000): bothB V U a b↔max (zBj U a).1 (zBj U b).1<min (zBj U a).2 (zBj U b).2/\(∃n,n<(zAh V).length/\zCE V a.ar (lfI V n)=true/\zCE V b.ar (lfI V n)=true)/\∃u,u∈a.us/\u∈b.us:=by
 constructor
 ·rintro⟨x,_,n,J,u,h1,h2⟩
  unfold vB at h1 h2;simp only[eE,bX]at h1 h2;obtain⟨⟨a1,a2⟩,a3,a4⟩:=h1;obtain⟨⟨b1,b2⟩,b3,b4⟩:=h2;exact⟨za,⟨n,J,a3,b3⟩,u,zBe.1 a4,zBe.1 b4⟩
 ·rintro⟨h1,⟨n,J,h2,h3⟩,u,h4,h5⟩
  have ra:(zBj U a).1<(zBj U a).2:=za;have rb:(zBj U b).1<(zBj U b).2:=za;have ea:=run_bg hga ra;have eb:=run_bg hgb rb;have la:=run_en hga ra;have lb:=run_en hgb rb;refine⟨max (zBj U a).1 (zBj U b).1,?_,n,J,u,?_,?_⟩
  ·by_cases h0:max (zBj U a).1 (zBj U b).1=0
   ·exact .inl h0
   ·refine .inr ⟨za,za,?_⟩
    rcases Int.le_total (zBj U a).1 (zBj U b).1 with h|h
    ·exact⟨b,I,.inl (by rw[Int.max_eq_right h,eb])⟩
    ·exact⟨a,ha,.inl (by rw[Int.max_eq_left h,ea])⟩
  ·unfold vB
   simp only[eE,bX];exact⟨⟨za,za⟩,h2,zBe.2 h4⟩
  ·unfold vB
   simp only[eE,bX];exact⟨⟨za,za⟩,h3,zBe.2 h5⟩
end
theorem chkD_gift{V:List Rg}{us:List BA}{pre:List De}{d:De}(h:zEe V us pre d=0)(hg:zAg d.kd=true):0<=d.bg/\d.bg<d.en/\d.en<=200000/\∀u∈d.us,u∈us:=by
 unfold zEe at h
 split at h
 ·cases h
 split at h
 ·cases h
 split at h
 ·cases h
 split at h
 ·cases h
 split at h
 ·cases h
 split at h
 ·cases h
 unfold giftF at h
 split at h
 ·cases h
 split at h
 ·cases h
 split at h
 ·next h1=>exact absurd h h1
 split at h
 ·next h1=>exact absurd h h1
 split at h
 ·cases h
 split at h
 ·next h1=>exact absurd h h1
 next hu =>
 split at h
 ·cases h
 next hd =>
 split at h
 ·cases h
 next he =>
 have hd1:zCm d.bg=true:=by
  cases hq:zCm d.bg with
  |true=>rfl
  |false=>exact absurd (.inl hq) hd
 have hd2:zCm d.en=true:=by
  cases hq:zCm d.en with
  |true=>rfl
  |false=>exact absurd (.inr hq) hd
 unfold zCm at hd1 hd2;simp only[eE,bX]at hd1 hd2;refine⟨hd1.1,za,hd2.2,fun u hm=>?_⟩;have hu:useF us d.us=0:=bY hu;obtain⟨j,hj,rfl⟩:=bD hm;unfold useF at hu
 have key:zAX us d.us j≠none->False:=fun hne=>by
  cases hf:(List.range d.us.length).findSome? (zAX us d.us)with
  |some f =>
   rw[hf]at hu;obtain⟨q,_,hq⟩:=List.exists_of_findSome?_eq_some hf;unfold zAX at hq;simp only at hu
   split at hq
   ·injection hq with hq;omega
   split at hq
   ·injection hq with hq;omega
   ·cases hq
  |none =>
   rw[List.findSome?_eq_none_iff]at hf;exact hne (hf j (List.mem_range.2 hj))
 cases hq:zCU us (d.us[j])with
 |true=>exact zBe.1 hq
 |false =>
  refine(key fun J=>?_).elim;unfold zAX at J;have e:usAt d.us j=d.us[j]:=by unfold usAt;rw[List.getD_eq_getElem?_getD,List.getElem?_eq_getElem hj];rfl
  rw[e,aF hq]at J
  cases J
theorem title_gift{V:List Rg}{us:List BA}{U:List De}(h:zBY V us U=0):∀d∈U,zAg d.kd=true->0<=d.bg/\d.bg<d.en/\d.en<=200000/\∀u∈d.us,u∈us:=fun d hd hg=>by
 obtain⟨k,hk,rfl⟩:=bD hd;exact chkD_gift ((zAP h).2 k hk) hg
def dayL(U:List De):List Int:=0::(U.flatMap fun d=>[d.bg,d.en]).filter fun x=>decide (0<x)&&decide (x<200001)
theorem mem_dayL{U:List De}{x:Int}:x∈dayL U↔dayR U x:=by
 unfold dayL dayR;rw[fD,List.mem_filter,List.mem_flatMap];simp only[eE,bX,fD,List.not_mem_nil,or_false]
 constructor
 ·rintro(h|⟨⟨d,hd,h⟩,h1,h2⟩)
  ·exact .inl h
  ·exact .inr ⟨h1,h2,d,hd,h⟩
 ·rintro(h|⟨h1,h2,d,hd,h⟩)
  ·exact .inl h
  ·exact .inr ⟨⟨d,hd,h⟩,h1,h2⟩
def brkB(V:List Rg)(us:List BA)(U:List De)(k:Nat)(d:De):Bool:=(dayL U).any fun x=>(List.range (zAh V).length).any fun n=>us.any fun u=>brB V U (lfI V n) u x k d
theorem brkB_iff{V:List Rg}{us:List BA}{U:List De}{k:Nat}{d:De}:brkB V us U k d=true↔∃x,dayR U x/\∃n,n<(zAh V).length/\∃u∈us,brB V U (lfI V n) u x k d=true:=by
 unfold brkB;simp only[eS,List.mem_range,mem_dayL]
def brL(V:List Rg)(us:List BA)(U:List De)(k:Nat):List BA:=((List.range k).filter fun j=>zAg (U.getD j default).kd&&brkB V us U j (U.getD j default)).map fun j=>(U.getD j default).id
theorem brL_succ{V:List Rg}{us:List BA}{U:List De}{k:Nat}(h:k<U.length):brL V us U (k+1)=brL V us U k++(if (zAg U[k].kd&&brkB V us U k U[k])=true then [U[k].id] else []):=by
 have e:U.getD k default=U[k]:=by rw[List.getD_eq_getElem?_getD,List.getElem?_eq_getElem h];rfl
 unfold brL;rw[eF,eG,aA,List.filter_cons,List.filter_nil,e]
 congr 1
 split
 ·rw[List.map_singleton,e]
 ·rfl
theorem brL_len{V:List Rg}{us:List BA}{U:List De}{k:Nat}:(brL V us U k).length<=k:=by
 unfold brL;rw[bZ];exact dX (eH _ _) ze
def zDK(V:List Rg)(U:List De)(a b:De):Bool:=
 decide (max (zBj U a).1 (zBj U b).1<min (zBj U a).2 (zBj U b).2)&&(((List.range (zAh V).length).any fun n=>zCE V a.ar (lfI V n)&&zCE V b.ar (lfI V n))&&a.us.any fun u=>zCU b.us u)
theorem meetB_iff{V:List Rg}{U:List De}{a b:De}:zDK V U a b=true↔max (zBj U a).1 (zBj U b).1<min (zBj U a).2 (zBj U b).2/\(∃n,n<(zAh V).length/\zCE V a.ar (lfI V n)=true/\zCE V b.ar (lfI V n)=true)/\∃u,u∈a.us/\u∈b.us:=by
 unfold zDK;simp only[eE,bX,eS,List.mem_range,zBe]
def sameB(a b:De):Bool:=decide (a.kd=3)&&(decide (b.kd=3)&&(decide (a.th=b.th)&&(decide (a.fr=b.fr)&&(a.ex || b.ex))))
def confB(V:List Rg)(U:List De)(i j:Nat):Bool:=decide (i<j)&&(sameB (U.getD i default) (U.getD j default)&&zDK V U (U.getD i default) (U.getD j default))
def conR(V:List Rg)(U:List De)(i k:Nat):List (BA×BA):=((List.range k).filter (confB V U i)).map fun j=>((U.getD i default).id,(U.getD j default).id)
def conL(V:List Rg)(U:List De)(i:Nat):List (BA×BA):=(List.range i).flatMap fun j=>conR V U j U.length
section
variable {V:List Rg} {us:List BA} {U:List De} {i k:Nat}
theorem conR_zero:conR V U i 0=[]:=rfl
theorem conR_succ:conR V U i (k+1)=conR V U i k++(if confB V U i k=true then [((U.getD i default).id,(U.getD k default).id)] else []):=by
 unfold conR;rw[eF,eG,aA,List.filter_cons,List.filter_nil]
 congr 1
 split<;>rfl
theorem conR_up:∀{k:Nat},k<=i+1->conR V U i k=[]
 |0,_=>rfl
 |k+1,h=>by
  have e:confB V U i k=false:=by unfold confB;rw[aE za];rfl
  rw[conR_succ,conR_up za,e];rfl
theorem conL_succ:conL V U (i+1)=conL V U i++conR V U i U.length:=by
 unfold conL;rw[eF,List.flatMap_append];simp
theorem conR_len:(conR V U i k).length<=k:=by
 unfold conR;rw[bZ];exact dX (eH _ _) ze
theorem conL_len:∀i,(conL V U i).length<=i*U.length
 |0=>by simp[conL]
 |i+1=>by
  have h1:=conL_len i;have h2:=@conR_len V U i U.length;rw[conL_succ,eA,Nat.succ_mul];omega
theorem getD_at(h:k<U.length):U.getD k default=U[k]:=by rw[List.getD_eq_getElem?_getD,List.getElem?_eq_getElem h];rfl
theorem meet_iff(hc:zBY V us U=0){a b:De}(ha:a∈U)(I:b∈U)(hga:zAg a.kd=true)(hgb:zAg b.kd=true): (∃x,dayR U x/\∃n,n<(zAh V).length/\∃u∈us,vB V U (lfI V n) u x a=true/\vB V U (lfI V n) u x b=true)↔zDK V U a b=true:=by
 obtain⟨a1,_,a3,a4⟩:=title_gift hc a ha hga;obtain⟨b1,_,b3,_⟩:=title_gift hc b I hgb;rw[meetB_iff,<-both_iff ha I hga hgb a1 b1 a3 b3];unfold bothB
 constructor
 ·rintro⟨x,hx,n,J,u,_,h⟩
  exact⟨x,hx,n,J,u,h⟩
 ·rintro⟨x,hx,n,J,u,h⟩
  exact⟨x,hx,n,J,u,a4 u (vB_range h.1 a1).2.2.2,h⟩
end
open Go.RowKit Dw
def PtR3(W:World)(g:Nat)(V:List Rg)(U:List De)(i:Nat)(th S:BA)(day:Int)(u:Nat)(m:Nat)(iv:Value)(wr:World):Prop:=
 ∃k:Nat,k+m=u/\iv=.int .i64 (k:Int)/\zAI wr g (zAs V U i th S day k)/\Below W.heap.size W wr
theorem parts0_c(RA:OA)(rc:Nat)(V:List Rg)(UA:OA)(O:Nat)(us:List BA)(DA:OA)(dc:Nat)(U:List De)(L n i u:Nat)(S:BA)(day:Int)(th:BA)(w:World)(hl:LgIs RA rc V UA O us DA dc U w L)(hd:Des w DA U)(hc:zBY V us U=0)(J:(zAh V)[n]?=some i)(hu:u<=U.length)(hdc:U.length<=dc)(hul:∀d∈U,d.us.length<=1000000): Calls Tryz.prog 36 #[.pointer (some ⟨L,0,none⟩),.string th,.agg (zDN n S day),.int .i64 (u:Int),.bool false] w (GivesPt false (zAs V U i th S day u) w):=by
 have hbw:Below w.heap.size w (w.alloc (.cells (zDN n S day) 90)):=(aR _ _).alloc (aK _) _;have G:Hid (Bx (w.alloc (.cells (zDN n S day) 90)) w.heap.size (zDN n S day) 90):=Bx.new _ _ _;obtain⟨W0,hW0⟩:∃W,W=w.alloc (.cells (zDN n S day) 90):=⟨_,rfl⟩;rw[<-hW0]at G hbw;have HB0:=zq hbw;have hb1:Below W0.heap.size W0 (W0.alloc (.map #[] 0)):=(aR _ _).alloc (aK _) _;have HPN:Hid (zAI (W0.alloc (.map #[] 0)) W0.heap.size (fun _=>0)):=zAI.new W0;have HX:=zq (G.o.below hb1);have HLW:=zq ((hl.below hbw).below hb1);have HDW:=zq ((hd.below hbw).below hb1);have HLW0:=zq (hl.below hbw);have HDW0:=zq (hd.below hbw);have HC:=zq hc;have HUL:=zq hul;have HNN:=zq J;have hdl:=(zBd hc).2.2;clear hl hd hc J hul hbw;obtain⟨r1,r2,g1,g2,AL,cL,vr,vi,ins,base,hlx,_⟩:=HLW.o;have HLX:=zq hlx;obtain⟨W,hW⟩:∃W,W=W0.alloc (.map #[] 0):=⟨_,rfl⟩;rw[<-hW]at hb1 HPN HX HLW HDW HLX hlx;have HB1:=zq hb1;clear hb1
 go_enter Tryz.func36,Tryz.ntmps36;(go_upto_region 1 with fail);rw[<-hW0];clear hW0;have hmm:=@run_makeMap Tryz.prog;(go_upto_region 2 with fail);clear hmm;rw[<-hW];clear hW;have l2:=HLX.o.c 2 rfl;have hsl:=HLX.o.lt;clear hlx;go_wp2
 go_loopg[26] U.length (PtR W0 W0.heap.size th day U)
 case atStart=>exact⟨0,za,rfl,HPN.o,HB1.o⟩
 clear l2 hsl HPN
 case round =>
  obtain⟨k,hkm,rfl,hpm,I⟩:=hrel;have HK:=zq hkm;have HPM:=zq hpm;have HB:=zq I;clear hkm hpm I
  by_cases Y:k<U.length
  ·obtain⟨b,o,hA,hb0,hc0⟩:=HDW0.o za
   subst hA;have hpar:=zBQ HC.o _ (aH Y);have HFS:=zq (fold_succ th day (fun _=>0) Y);have N:wr.rangeAt b (o+k*16) (deC U[k]).toList:=fun q v hv=>zAe HB.o ((hc0 k Y).1 q v hv)
   have HSH:=zq ((hc0 k Y).2.shs.below HB.o);have hshl:=(hc0 k Y).2.lens.2.2;generalize U[k]=d at *;have HPA:=zq hpar;clear hc0 hpar;(go_upto_region 4 with fail);(iterate 5 go_step);refine fG _ _ zk b (o+k*16) zk (deC d).toList _ N Tryz.underlying126 rfl zc ?_;clear N;(go_upto_region 5 with fail);obtain⟨wd,hwd⟩:∃wd,wd=wr.alloc (.cells (deC d) 126):=⟨_,rfl⟩;rw[<-hwd];have hbd:Below wr.heap.size wr wd:=zm;have m:Hid (Bx wd wr.heap.size (deC d) 126):=zo;have HBD:=zq (zAa HB.o hbd);have HPM1:=zq (HPM.o.below hbd);have HSH1:=zq (HSH.o.below hbd);have HXD:=zq (G.o.below HBD.o);clear hwd hbd HPM HSH HB;have d2:=m.o.c 2 rfl;have d3:=m.o.c 3 rfl;have d12:=m.o.c 12 rfl;have hsd:=m.o.lt;have x2:=HXD.o.c 2 rfl;have hsx:=HXD.o.lt;generalize (U.take k).foldl (orgF th day) (fun _=>0)=F at *
   have HNO:orgB th day d=false->Hid (zAI wd W0.heap.size ((U.take (k+1)).foldl (orgF th day) (fun _=>0))):=fun h=>by
    show zAI _ _ _
    rw[HFS.o];unfold orgF;rw[aO (by rw[h];simp)];exact HPM1.o
   by_cases hq:d.kd=1
   case neg =>
    have e1:(d.kd == 1)=false:=qd;have HN:=HNO (by unfold orgB;rw[aE hq];rfl);clear hq HNO;exact tc5
   have e1:(d.kd == 1)=true:=qd
   by_cases ht:d.th=th
   case neg =>
    have q1:=zAp ht;have HN:=HNO (by unfold orgB;rw[aE ht];simp);clear hq ht HNO;exact tc5
   have q1:=zAn ht
   by_cases hy:d.bg<=day
   case neg =>
    have q2:decide (d.bg<=day)=false:=aE hy;have HN:=HNO (by unfold orgB;rw[aE hy];simp);clear hq ht hy HNO;exact tc5
   have q2:decide (d.bg<=day)=true:=aD hy
   have HOT:Hid (orgF th day F d=zAl d.sh F):=by
    show _=_
    unfold orgF;rw[aF (zDt.2 ⟨hq,ht,hy⟩)]
   have HSO:=zq (HPA.o.org hq).1;have d14:=m.o.c 14 rfl;clear hq ht hy HNO;go_wp2;clear d2 d3 d12 d14 hsd x2 hsx
   go_loopg[49] d.sh.length (PtR1 wd W0.heap.size F d.sh)
   case atStart=>exact⟨0,za,rfl,HPM1.o,World.grownBy.refl _ _⟩
   case round =>
    obtain⟨j,hjm,rfl,hpm,hg⟩:=hrel;have HJ:=zq hjm;have HPJ:=zq hpm;have HG:=zq hg;clear hjm hpm hg
    by_cases hjl:j<d.sh.length
    ·obtain⟨b2,o2,hA,hc⟩:=(HSH1.o.parts HPM1.o HG.o) za
     have c0:=(hc j hjl).1;have c1:=(hc j hjl).2.1;have c2':=(hc j hjl).2.2;have HMEM:=zq (aH hjl);have HPS:=zq (putAll_succ F hjl);generalize d.sh[j]=s at *;have HFQ:Hid (∀u,Calls Tryz.prog 80 #[.agg #[.string s.nu,.string s.de]] u (zEc (shQ s) u)):=fun u=>FromQ_c s.nu s.de u (HSO.o.rat s HMEM.o) (HSO.o.pos s HMEM.o)
     have HA:=zq hA;have hba:=ba wr (.cells (shCl s) 38);have HZ:Hid (Bx (wr.alloc (.cells (shCl s) 38)) wr.heap.size (shCl s) 38):=Bx.new _ _ _;have HBA:=zq hba;rw[hA];clear hc hA hba;(go_upto_region 9 with fail);clear c0 c1 c2';obtain⟨fj,hfj⟩:∃fj,fj=zAl (d.sh.take j) F:=⟨_,rfl⟩;rw[<-hfj]at HPJ HPS;have HFJ:=zq hfj;clear hfj;obtain⟨w4,hw4⟩:∃w4,w4=wr.alloc (.cells (shCl s) 38):=⟨_,rfl⟩;rw[<-hw4]at HZ HBA ⊢;clear hw4;have HPM4:=zq (HPJ.o.below HBA.o);obtain⟨a0,a1,a2⟩:=HZ.o.t
     go_region_held3 (fun w'=>w'.cell? ⟨wr.heap.size,0,none⟩=some (.string s.pt)/\w'.cell? ⟨wr.heap.size,1,none⟩=some (.string s.nu)/\w'.cell? ⟨wr.heap.size,2,none⟩=some (.string s.de))
      ((refine⟨?_,?_,?_⟩<;>first|with_reducible assumption|go_simp))
      (first
       |((go_at_call 80;(with_reducible refine(HFQ.o w4.drew).mono ?_);rintro e2 w6⟨A7,c7,A8,c8,rfl,h7,h8,hb6⟩;have HB6:Hid (Below w4.heap.size w4 w6):=zAa (zAb (aR _ _) 1) hb6;have HZ6:=zq (HZ.o.below HB6.o);have HPM6:=zq (HPM4.o.below HB6.o);have H7:=zq h7;have H8:=zq h8;clear h7 h8 hb6 a0 a1 a2;obtain⟨a0,a1,a2⟩:=HZ6.o.t))
       |((go_at_call 79;(with_reducible refine(put_c W0.heap.size fj s.pt A7 A8 c7 c8 (shQ s) w6 HPM6.o H7.o H8.o).mono ?_);rintro e5 w9⟨rfl,hp9,hg9⟩;have HZ9:=zq (HZ6.o.parts HPM6.o hg9);have HPM9:=zq hp9;have HG9:=zq hg9;clear hp9 hg9 a0 a1 a2;obtain⟨a0,a1,a2⟩:=HZ9.o.t)))
     have HE:Hid (zAI w9 W0.heap.size (zAl (d.sh.take (j+1)) F)):=by show zAI _ _ _;rw[HPS.o];exact HPM9.o
     have HGE:Hid (wd.grownBy w9 (some W0.heap.size)):=(HG.o.trans (zAV (zAa HBA.o HB6.o) _)).trans HG9.o;clear a0 a1 a2;exact tcs
    ·have hje:j=d.sh.length:=by have:=HJ.o;omega
     have HE:Hid (zAI wr W0.heap.size ((U.take (k+1)).foldl (orgF th day) (fun _=>0))):=by
      have:=HPJ.o;rw[hje,aN,<-HOT.o]at this;show zAI _ _ _
      rw[HFS.o];exact this
     have HBE:=zq (zCK HBD.o HBD.o.size HG.o (aK _));clear HPJ;go_wp2
     go_roundg (U.length-(k+1))
     case measure=>have:=HK.o;omega
     case rel=>exact⟨k+1,zh,zi,HE.o,HBE.o⟩
  ·obtain rfl:k=U.length:=by have:=HK.o;omega
   have HPM0:Hid (zAI wr W0.heap.size (zAs V U i th S day 0)):=by
    have:=HPM.o;rw[aN]at this;exact this
   have l2:wr.cell? ⟨L,2,none⟩=some (.slice DA U.length dc):=zAe HB.o ((by
    obtain⟨_,_,_,_,_,_,_,_,_,_,hx,_⟩:=HLW0.o;exact hx.c 2 rfl))
   have hsl:L<wr.heap.size:=aB (by obtain⟨_,_,_,_,_,_,_,_,_,_,hx,_⟩:=HLW0.o;exact hx.lt) HB.o.size;have ui:(0:Int)<=(u:Int)/\(u:Int)<=(dc:Int):=za;clear HPM HK;have HB2:=zq HB.o;go_wp2
   go_loopg[70] u (PtR3 W0 W0.heap.size V U i th S day u)
   case atStart=>exact⟨0,za,rfl,HPM0.o,HB2.o⟩
   clear l2 hsl ui HPM0 HB2 HB
   case round =>
    obtain⟨k,hkm,rfl,hpm,I⟩:=hrel;have HK:=zq hkm;have HPM:=zq hpm;have HB:=zq I;clear hkm hpm I
    by_cases Y:k<u
    ·have hkd:k<U.length:=by omega
     obtain⟨b,o,hA,hb0,hc0⟩:=HDW0.o za;subst hA;have N:wr.rangeAt b (o+k*16) (deC U[k]).toList:=fun q v hv=>zAe HB.o ((hc0 k hkd).1 q v hv)
     have HSH:=zq ((hc0 k hkd).2.shs.below HB.o);have HMV:=zq (fun(v:World)(hv:Below W0.heap.size W0 v)=>moves_c RA rc V UA O us (some ⟨b,o,none⟩) dc U L k n i S day th v (HLW0.o.below hv) (HDW0.o.below hv) hkd HNN.o (HUL.o _ (aH hkd)))
     have HSK:Hid (zCZ V U i th S day U[k]=false->zAs V U i th S day (k+1)=zAs V U i th S day k):=fun hm=>by
      rw[(zEj V i th S day hkd).1];unfold zDz;rw[aO (by rw[hm];simp)]
     have HTK:Hid (zCZ V U i th S day U[k]=true->zAs V U i th S day (k+1)=zCO U[k] (zAs V U i th S day k)):=fun hm=>(keysF_take hkd hm).1
     have HTA:Hid (zCZ V U i th S day U[k]=true->∃M,HoldB (zAz U[k] (zBk V U i th S day k)) M (zAs V U i th S day k)/\SzN 90000000 (M*growD U[k])/\U[k].sh.length<=20):=fun hm=>take_ask HC.o hkd hm
     have HPA:=zq (zBQ HC.o _ (aH hkd));generalize U[k]=d at *;clear hc0;(go_upto_region 14 with fail);(iterate 8 go_step);refine fG _ _ zk b (o+k*16) zk (deC d).toList _ N Tryz.underlying126 rfl zc ?_;clear N;(go_upto_region 15 with fail);obtain⟨wd,hwd⟩:∃wd,wd=wr.alloc (.cells (deC d) 126):=⟨_,rfl⟩;rw[<-hwd];have hbd:Below wr.heap.size wr wd:=zm;have m:Hid (Bx wd wr.heap.size (deC d) 126):=zo;have HBD:=zq (zAa HB.o hbd);have HPM1:=zq (HPM.o.below hbd);have HSH1:=zq (HSH.o.below hbd);have HXD:=zq (G.o.below HBD.o);clear hwd hbd HPM HSH HB;obtain⟨x0,x1,x2⟩:=HXD.o.t;have hsx:=HXD.o.lt;(go_wp2_with fail);(with_reducible refine(HMV.o _ HBD.o).mono ?_);rintro e w3⟨rfl,hb3⟩;have HB3:=zq (zAa HBD.o hb3);have HPM3:=zq (HPM1.o.below hb3);have HSH3:=zq (HSH1.o.below hb3);have HD3:=zq (m.o.below hb3);clear x0 x1 x2 hsx hb3 HPM1 HSH1 m HXD HBD HMV
     cases hm:zCZ V U i th S day d with
     |false =>
      have HE:Hid (zAI w3 W0.heap.size (zAs V U i th S day (k+1))):=by show zAI _ _ _;rw[HSK.o hm];exact HPM3.o
      clear hm;go_wp2
      go_roundg (gk-1)
      case measure=>have:=HK.o;omega
      case rel=>exact⟨k+1,zh,zi,HE.o,HB3.o⟩
     |true =>
      obtain⟨M,hM1,hM2,hM3⟩:=HTA.o hm;have HTE:=zq (HTK.o hm);obtain⟨m1,m2,m3,m4⟩:=zCv d (K:=zBk V U i th S day k);have HTC:=zq (take_c W0.heap.size _ M (zAs V U i th S day k) d w3 HPM3.o HSH3.o (movB_kd hm) HPA.o hM1 m2 m3 m4 hM2 za);clear hm hM1 hM2 hM3 m1 m2 m3 m4;(go_upto_region 16 with fail);(iterate 5 go_step);refine fG _ _ zk wr.heap.size 0 zk (deC d).toList _ (zBt HD3.o) Tryz.underlying126 rfl zc ?_;(go_wp2_with fail);(with_reducible refine HTC.o.mono ?_);rintro e w4⟨rfl,hp4,hg4⟩;have HP4:Hid (zAI w4 W0.heap.size (zAs V U i th S day (k+1))):=by show zAI _ _ _;rw[HTE.o];exact hp4
      have HB4:=zq (zCK HB3.o HB3.o.size hg4 (aK _));clear hp4 hg4 HTC HPM3 HSH3 HD3 HB3;go_wp2
      go_roundg (gk-1)
      case measure=>have:=HK.o;omega
      case rel=>exact⟨k+1,zh,zi,HP4.o,HB4.o⟩
    ·have hke:k=u:=by have:=HK.o;omega
     have HE:Hid (zAI wr W0.heap.size (zAs V U i th S day u)):=by have:=HPM.o;rw[hke]at this;exact this
     have HBZ:=zq (zAa HB0.o HB.o);clear HPM hke;go_wp2;go_ret2
     unfold GivesPt;exact⟨HBZ.o,(fun hh=>by cases hh),fun _=>⟨_,rfl,HE.o⟩⟩
theorem Des.cut{w:World}{A:OA}{U:List De}(h:Des w A U)(k:Nat):Des w A (U.take k):=fun hl=>by
 obtain⟨b,o,e,I,hc⟩:=h (by rw[bF]at hl;omega);exact⟨b,o,e,I,fun i hi=>by rw[bB];exact hc i (by rw[bF]at hi;omega)⟩
def bzB(V:List Rg)(U:List De)(i:Nat)(S:BA)(day:Int)(k:Nat)(d:De):Bool:=
 if d.kd=2 then decide (zAs V U i d.th S day k d.fr=0) else
  decide (zAs V (U.take k) i d.th S day k d.fr=0)&&(holL (zBk V (U.take k) i d.th S day k) (zAs V (U.take k) i d.th S day k)).all fun h=>!mayF V (U.take k) i S day d.th d.fr h
theorem brB_bz{V:List Rg}{U:List De}{i k:Nat}{S:BA}{day:Int}{d:De}:brB V U i S day k d=(vB V U i S day d&&bzB V U i S day k d):=rfl
theorem breach1_c(RA:OA)(rc:Nat)(V:List Rg)(UA:OA)(O:Nat)(us:List BA)(DA:OA)(dc:Nat)(U:List De)(L n i p1 p2 p3:Nat)(S:BA)(day:Int)(d:De)(ho:BA)(w:World)(hl:LgIs RA rc V UA O us DA dc U w L)(hd:Des w DA U)(J:(zAh V)[n]?=some i)(hul:∀d∈U,d.us.length<=1000000)(hdl:U.length<=200)(h1:Bx w p1 #[.pointer (some ⟨L,0,none⟩)] 75)(h2:Bx w p2 (deC d) 126)(h3:Bx w p3 (zDN n S day) 90): Calls Tryz.prog 169 #[.string ho,.pointer (some ⟨p1,0,none⟩),.pointer (some ⟨p2,0,none⟩),.pointer (some ⟨p3,0,none⟩)] w (zAf (.bool (mayF V U i S day d.th d.fr ho)) w):=by
 have HM:=zq (may_c RA rc V UA O us DA dc U L n i S day d.th d.fr ho w hl hd J hul hdl);have a0:=h1.c 0 rfl;have d3:=h2.c 3 rfl;have d4:=h2.c 4 rfl;obtain⟨x0,x1,x2⟩:=h3.t;have s1:=h1.lt;have s2:=h2.lt;have s3:=h3.lt;clear hl hd J hul hdl h1 h2 h3
 go_enter Tryz.func169,Tryz.ntmps169;(go_wp2_with fail);(with_reducible refine HM.o.mono ?_);rintro e w2⟨rfl,D⟩;have HB2:=zq D;clear D HM a0 d3 d4 x0 x1 x2 s1 s2 s3;go_wp2;go_ret
 exact zAf.mk rfl HB2.o
def IdSBr(w:World)(l:List BA)(P:BA->Bool)(m:Nat)(i:Value)(wr:World):Prop:=
 Below w.heap.size w wr/\∃k:Nat,k+m=l.length/\i=.int .i64 k/\(l.take k).any P=false
theorem indexBr_c(A:OA)(c:Nat)(p1 p2 p3:Nat)(l:List BA)(P:BA->Bool)(w:World)(J:l.length<=1000000)(h:Strs w A l)(hP:∀x∈l,∀u,Below w.heap.size w u->Calls Tryz.prog 169 #[.string x,.pointer (some ⟨p1,0,none⟩),.pointer (some ⟨p2,0,none⟩),.pointer (some ⟨p3,0,none⟩)] u (zAf (.bool (P x)) u)): Calls Tryz.prog 180 #[.slice A l.length c,.func (.func 169) #[] #[.pointer (some ⟨p1,0,none⟩),.pointer (some ⟨p2,0,none⟩),.pointer (some ⟨p3,0,none⟩)]] w (GivesPosB (l.any P) w):=by
 have HPW:=zq hP;have HLW:=zq h;clear hP h
 go_enter Tryz.func180,Tryz.ntmps180;go_wp2
 go_loopg[8] l.length (IdSBr w l P)
 case atStart=>exact⟨aR _ _,0,za,rfl,rfl⟩
 case round =>
  exact taf
theorem containsBr_c(A:OA)(c:Nat)(p1 p2 p3:Nat)(l:List BA)(P:BA->Bool)(w:World)(J:l.length<=1000000)(h:Strs w A l)(hP:∀x∈l,∀u,Below w.heap.size w u->Calls Tryz.prog 169 #[.string x,.pointer (some ⟨p1,0,none⟩),.pointer (some ⟨p2,0,none⟩),.pointer (some ⟨p3,0,none⟩)] u (zAf (.bool (P x)) u)): Calls Tryz.prog 118 #[.slice A l.length c,.func (.func 169) #[] #[.pointer (some ⟨p1,0,none⟩),.pointer (some ⟨p2,0,none⟩),.pointer (some ⟨p3,0,none⟩)]] w (zAf (.bool (l.any P)) w):=by
 have HI:=zq (indexBr_c A c p1 p2 p3 l P w J h hP);clear hP h
 go_enter Tryz.func118,Tryz.ntmps118;(go_wp2_with fail);(with_reducible refine HI.o.mono ?_);rintro e w1⟨z,rfl,hz,I⟩;have HZ:=zq hz;have HB:=zq I;clear hz I;go_wp2;go_ret
 exact zAf.mk (zBy HZ.o) HB.o
theorem breach_c(RA:OA)(rc:Nat)(V:List Rg)(UA:OA)(O:Nat)(us:List BA)(DA:OA)(dc:Nat)(U:List De)(L Lb n i k:Nat)(S:BA)(day:Int)(w:World)(hl:LgIs RA rc V UA O us DA dc U w L)(hlb:LgIs RA rc V UA O us DA dc (U.take k) w Lb)(hd:Des w DA U)(hc:zBY V us U=0)(J:(zAh V)[n]?=some i)(hk:k<U.length)(hdc:U.length<=dc): Calls Tryz.prog 109 #[.pointer (some ⟨L,0,none⟩),.pointer (some ⟨Lb,0,none⟩),.int .i64 (k:Int),.agg (zDN n S day)] w (zAf (.bool (bzB V U i S day k U[k])) w):=by
 have hus:∀d∈U,d.us.length<=1000000:=fun d hd=>dX (zCA hc d hd).2 zd
 have hus2:∀d∈U.take k,d.us.length<=1000000:=fun d hd=>hus d (dJ hd)
 have hc2:=zDn hc k;have hkl:(U.take k).length=k:=yc;obtain⟨_,_,hdl⟩:=zBd hc;obtain⟨b,o,hA,hb0,hc0⟩:=hd za;subst hA;have N:=(hc0 k hk).1;clear hc0;obtain⟨d,T⟩:∃d,U[k]=d:=⟨_,rfl⟩;rw[T]at N ⊢;generalize C:bzB V U i S day k d=res;unfold bzB at C;have HR:=zq C;have hbw:Below w.heap.size w ((w.alloc (.cells #[.pointer (some ⟨Lb,0,none⟩)] 75)).alloc (.cells (zDN n S day) 90)):=((aR _ _).alloc (aK _) _).alloc ze _;have HX:Hid (Bx ((w.alloc (.cells #[.pointer (some ⟨Lb,0,none⟩)] 75)).alloc (.cells (zDN n S day) 90)) w.heap.size #[.pointer (some ⟨Lb,0,none⟩)] 75):=(Bx.new _ _ _).alloc _;have HY:Hid (Bx ((w.alloc (.cells #[.pointer (some ⟨Lb,0,none⟩)] 75)).alloc (.cells (zDN n S day) 90)) (w.heap.size+1) (zDN n S day) 90):=Bx.new1 _ _ _ _;obtain⟨W,hW⟩:∃W,W=(w.alloc (.cells #[.pointer (some ⟨Lb,0,none⟩)] 75)).alloc (.cells (zDN n S day) 90):=⟨_,rfl⟩;rw[<-hW]at hbw HX HY;have HB:=zq hbw;have HPA:=zq (fun(th:BA)(u:World)(hu:Below w.heap.size w u)=>parts0_c RA rc V UA O us (some ⟨b,o,none⟩) dc U L n i k S day th u (hl.below hu) (hd.below hu) hc J za hdc hus);have HPB:=zq (fun(th:BA)(u:World)(hu:Below w.heap.size w u)=>parts0_c RA rc V UA O us (some ⟨b,o,none⟩) dc (U.take k) Lb n i k S day th u (hlb.below hu) ((hd.cut k).below hu) hc2 J za za hus2)
 have HM1:=zq (fun(ho:BA)(p1 p2 p3:Nat)(u:World)(hu:Below w.heap.size w u)(h1:Bx u p1 #[.pointer (some ⟨Lb,0,none⟩)] 75)(h2:Bx u p2 (deC d) 126)(h3:Bx u p3 (zDN n S day) 90) =>
  breach1_c RA rc V UA O us (some ⟨b,o,none⟩) dc (U.take k) Lb n i p1 p2 p3 S day d ho u (hlb.below hu) ((hd.cut k).below hu) J hus2 za h1 h2 h3)
 have HKS:=zq (zCa hc2 i d.th S day k);have HKL:=zq (keys_len hc2 i d.th S day k za);obtain⟨r1,r2,g1,g2,AL,cL,vr,vi,ins,base,hlx,_⟩:=hl;have l2:=(hlx.below hbw).c 2 rfl;have hsl:L<W.heap.size:=aB hlx.lt hbw.size;have N:W.rangeAt b (o+k*16) (deC d).toList:=fun q v hv=>zAe hbw (N q v hv)
 clear hd hc hc2 J hus hus2 hlb hlx C hbw T;obtain⟨fa,hfa⟩:∃fa,fa=zAs V U i d.th S day k:=⟨_,rfl⟩;obtain⟨fb,hfb⟩:∃fb,fb=zAs V (U.take k) i d.th S day k:=⟨_,rfl⟩;rw[<-hfa,<-hfb]at HR;rw[<-hfb]at HKS;have HFA:=zq hfa;have HFB:=zq hfb;clear hfa hfb
 go_enter Tryz.func109,Tryz.ntmps109;(go_upto_region 1 with fail);rw[<-hW];clear hW;(iterate 23 go_step);refine fG _ _ zk b (o+k*16) zk (deC d).toList _ N Tryz.underlying126 rfl zc ?_;clear N;(go_upto_region 2 with fail);obtain⟨wd,hwd⟩:∃wd,wd=W.alloc (.cells (deC d) 126):=⟨_,rfl⟩;rw[<-hwd];have hbd:Below W.heap.size W wd:=zm;have m:Hid (Bx wd W.heap.size (deC d) 126):=zo;have HBD:=zq (zAa HB.o hbd);have X:=zq (HX.o.below hbd);have HY1:=zq (HY.o.below hbd);clear hwd hbd l2 hsl HX HY HB;have d2:=m.o.c 2 rfl;have d3:=m.o.c 3 rfl;have d4:=m.o.c 4 rfl;have hsd:=m.o.lt;obtain⟨x0,x1,x2⟩:=HY1.o.t;have hsx:=HY1.o.lt
 by_cases h2:d.kd=2
 ·have e1:(d.kd == 2)=true:=by simpa using h2
  have HR2:Hid (decide (fa d.fr=0)=res):=by show _=_;rw[<-HR.o,aF h2]
  have HP:=zq (HPA.o d.th wd HBD.o);clear h2 HR HPA HPB HM1 HKS HKL;(go_wp2_with fail);(with_reducible refine HP.o.mono ?_);rintro e w4⟨hb4,_,hok⟩;obtain⟨g,rfl,hpm⟩:=hok rfl;rw[<-HFA.o]at hpm;have HB4:=zq (zAa HBD.o hb4);have HD4:=zq (m.o.below hb4);have HOF:=zq (of_c g fa d.fr w4 hpm);clear hb4 hok hpm HP d2 d3 d4 hsd x0 x1 x2 hsx e1 m X HY1 HBD;have d4:=HD4.o.c 4 rfl;have hsd:=HD4.o.lt;(go_wp2_with fail);(with_reducible refine HOF.o.mono ?_);rintro e w5⟨A5,c5,A6,c6,rfl,_,_,hb5⟩;have HB5:=zq (zAa HB4.o hb5);clear hb5 HOF HB4 d4 hsd HD4;(go_wp2_with fail);(with_reducible refine(RSign_c false A5 A6 c5 c6 (fa d.fr).num.natAbs (fa d.fr).den _).mono ?_);rintro e w6⟨rfl,hb6⟩;have HB6:=zq (zAa HB5.o hb6);clear hb6 HB5
  by_cases hq:fa d.fr=0
  ·have hs:=sgn_zero _ hq
   have HR3:Hid (res=true):=by show _=_;rw[<-HR2.o];exact aD hq
   exact tca
  ·have hs:=sgn_pos _ hq
   have HR3:Hid (res=false):=by show _=_;rw[<-HR2.o];exact aE hq
   exact tca
 ·have e1:(d.kd == 2)=false:=by simpa using h2
  have HR2:Hid ((decide (fb d.fr=0)&&(holL (zBk V (U.take k) i d.th S day k) fb).all fun h=>!mayF V (U.take k) i S day d.th d.fr h)=res):=by show _=_;rw[<-HR.o,aO h2]
  have HP:=zq (HPB.o d.th wd HBD.o);have a0:=X.o.c 0 rfl;have hsa:=X.o.lt;clear h2 HR HPA HPB;(go_wp2_with fail);(with_reducible refine HP.o.mono ?_);rintro e w4⟨hb4,_,hok⟩;obtain⟨g,rfl,hpm⟩:=hok rfl;rw[<-HFB.o]at hpm;have HB4:=zq (zAa HBD.o hb4);have HD4:=zq (m.o.below hb4);have HX4:=zq (X.o.below hb4);have HY4:=zq (HY1.o.below hb4);have HOF:=zq (of_c g fb d.fr w4 hpm);have HPM:=zq hpm;clear hb4 hok hpm HP d2 d3 d4 hsd x0 x1 x2 hsx e1 m X HY1 HBD a0 hsa;have d4:=HD4.o.c 4 rfl;have hsd:=HD4.o.lt;(go_wp2_with fail);(with_reducible refine HOF.o.mono ?_);rintro e w5⟨A5,c5,A6,c6,rfl,_,_,hb5⟩;have HB5:=zq (zAa HB4.o hb5);have HP5:=zq (HPM.o.below hb5);have HD5:=zq (HD4.o.below hb5);have HX5:=zq (HX4.o.below hb5);have HY5:=zq (HY4.o.below hb5);clear hb5 HOF HB4 d4 hsd HD4 HX4 HY4 HPM;(go_wp2_with fail);(with_reducible refine(RSign_c false A5 A6 c5 c6 (fb d.fr).num.natAbs (fb d.fr).den _).mono ?_);rintro e w6⟨rfl,hb6⟩;have HB6:=zq (zAa HB5.o hb6);have HP6:=zq (HP5.o.below hb6);have HD6:=zq (HD5.o.below hb6);have HX6:=zq (HX5.o.below hb6);have HY6:=zq (HY5.o.below hb6);clear hb6 HB5 HP5 HD5 HX5 HY5
  by_cases hq:fb d.fr=0
  ·have hs:=sgn_zero _ hq
   have HR3:Hid (((holL (zBk V (U.take k) i d.th S day k) fb).all fun h=>!mayF V (U.take k) i S day d.th d.fr h)=res):=by show _=_;rw[<-HR2.o,aD hq,eL]
   have HPS:=zq (parties_c g _ fb w6 HP6.o HKS.o.1 HKS.o.2.1 HKL.o);have hpl:(holL (zBk V (U.take k) i d.th S day k) fb).length<=1000000:=dX (eH _ _) HKL.o;obtain⟨z,hz⟩:∃z,z=sgnI false (fb d.fr).num.natAbs:=⟨_,rfl⟩;rw[<-hz]at hs ⊢;obtain⟨PL,hPL⟩:∃PL,PL=holL (zBk V (U.take k) i d.th S day k) fb:=⟨_,rfl⟩;rw[<-hPL]at HPS HR3 hpl;clear hq hz hPL HR2 HKS HKL;subst hs;(go_wp2_with fail);(with_reducible refine HPS.o.mono ?_);rintro e w7⟨A9,c9,rfl,hst,hb7⟩;have HB7:=zq (zAa HB6.o hb7);have HD7:=zq (HD6.o.below hb7);have HX7:=zq (HX6.o.below hb7);have HY7:=zq (HY6.o.below hb7);have HCF:=zq (containsBr_c A9 c9 w.heap.size W.heap.size (w.heap.size+1) PL (fun h=>mayF V (U.take k) i S day d.th d.fr h) w7 hpl hst fun x _ u hu=>HM1.o x _ _ _ u (zAa HB7.o hu) (HX7.o.below hu) (HD7.o.below hu) (HY7.o.below hu));clear hb7 hst HPS HM1 HB6 HD6 HX6 HY6 HP6;(go_wp2_with fail);(with_reducible refine HCF.o.mono ?_);rintro e w8⟨rfl,hb8⟩;have HB8:=zq (zAa HB7.o hb8);have HAN:Hid (res=!PL.any (fun h=>mayF V (U.take k) i S day d.th d.fr h)):=by show _=_;rw[<-HR3.o,List.all_eq_not_any_not];simp
   clear hb8 HCF;generalize PL.any (fun h=>mayF V (U.take k) i S day d.th d.fr h)=vb at *;go_wp2;go_ret
   exact zAf.mk (by rw[HAN.o];rfl) HB8.o
  ·have hs:=sgn_pos _ hq
   have HR3:Hid (res=false):=by show _=_;rw[<-HR2.o,aE hq,eK]
   obtain⟨z,hz⟩:∃z,z=sgnI false (fb d.fr).num.natAbs:=⟨_,rfl⟩;exact tgd
abbrev sigB(V:List Rg)(th:BA)(U:List De)(n:Nat):BA:=⟨(sgL V th (lfI V n) U).toArray⟩
def GivesCls(V:List Rg)(th:BA)(U:List De)(w:World)(e:Ending)(w':World):Prop:=
 ∃(v:Value)(H:List Nat),e=.returned v/\ClsIs w' v H/\H.length<=(zAh V).length/\(∀h∈H,h<(zAh V).length)/\(∀n,n<(zAh V).length->∃h∈H,sgL V th (lfI V h) U=sgL V th (lfI V n) U)/\Below w.heap.size w w'
def ClR(W:World)(L:Nat)(V:List Rg)(th:BA)(U:List De)(nl m:Nat)(ov iv:Value)(wr:World):Prop:=
 ∃(k:Nat)(v:Value)(vs:List Value)(H:List Nat)(R:Nat->List Int),v=ov/\k+m=nl/\iv=.int .i64 (k:Nat)/\ClsS W L W.heap.size (clsF (sigB V th U) H) v vs R wr/\FactsC (sigB V th U) nl k H vs R
def SgR(W:World)(V:List Rg)(th:BA)(U:List De)(i m:Nat)(ov iv:Value)(wr:World):Prop:=
 ∃(j:Nat)(v:Value),v=ov/\j+m=U.length/\iv=.int .i64 (j:Nat)/\OwnB wr W.heap.size v (sgL V th i (U.take j))/\Below W.heap.size W wr
theorem conv_nil(w:World):(convert 217 9 (.slice none 0 0)).run Tryz.prog w=.ok (.string ⟨#[]⟩) w:=zc
theorem conv_own{w:World}{B:Nat}{v:Value}{l:List UInt8}(h:OwnB w B v l):(convert 217 9 v).run Tryz.prog w=.ok (.string ⟨l.toArray⟩) w:=by
 rcases h.2 with ⟨rfl,J⟩|⟨g,cap,cur,rfl,_⟩
 ·have:l=[]:=List.length_eq_zero_iff.1 J
  subst this;exact conv_nil w
 ·exact run_convert_bytes_back (P:=Tryz.prog) w 217 9 5 ⟨g,0,none⟩ cap l Tryz.underlying217 Tryz.underlying5 Tryz.underlying9 (fun q hq=>by
   rw[addN,cO];exact(h.get rfl q hq).1)
theorem insM_cons{V:List Rg}{d:De}{N:List Bool}(h:insM V d=true::N):zAg d.kd=true:=by
 unfold insM at h
 cases hg:zAg d.kd with
 |true=>rfl
 |false=>rw[aO (by rw[hg];simp)]at h;cases h
theorem classes_c(RA:OA)(rc:Nat)(V:List Rg)(UA:OA)(O:Nat)(us:List BA)(DA:OA)(dc:Nat)(U:List De)(L:Nat)(th:BA)(w:World)(hl:LgIs RA rc V UA O us DA dc U w L)(hd:Des w DA U)(hdl:U.length<=200)(hnl:(zAh V).length<=200): Calls Tryz.prog 66 #[.pointer (some ⟨L,0,none⟩),.string th] w (GivesCls V th U w):=by
 have HLG:=zq hl;have HD:=zq hd;clear hl hd;obtain⟨r1,r2,g1,g2,AL,cL,vr,vi,ins,base,hlx,_,_,hin,hin2,hin3⟩:=HLG.o;have HIN:=zq hin;have HIN2:=zq hin2;have HIN3:=zq hin3;have HLX:=zq hlx;clear hlx hin hin2 hin3;have hLs:L<w.heap.size:=HLX.o.lt;have HB0:Hid (Below w.heap.size w (w.alloc (.map #[] 0))):=(aR _ _).alloc (aK _) _
 have HC0:Hid (ClsS w L w.heap.size (clsF (sigB V th U) []) (.slice none 0 0) [] (fun _=>[]) (w.alloc (.map #[] 0))):=
  ⟨zAv.nil _ _ _ _ _,RowsI.nil _ _ _ 0,zAt.new _ _,aK _,hLs,HB0.o⟩
 obtain⟨W,hW⟩:∃W,W=w.alloc (.map #[] 0):=⟨_,rfl⟩;rw[<-hW]at HC0 HB0;have l5:W.cell? ⟨L,5,none⟩=some (.slice AL (zBW V (fun i=>!M V i) V.length).length cL):=(HLX.o.below HB0.o).c 5 rfl;have hsl:L<W.heap.size:=aB hLs HB0.o.size;have hmm:=@run_makeMap Tryz.prog
 go_enter Tryz.func66,Tryz.ntmps66;(go_upto_region 2 with fail);rw[<-hW];clear hW;obtain⟨nl,hnle⟩:∃nl,nl=(zBW V (fun i=>!M V i) V.length).length:=⟨_,rfl⟩;rw[<-hnle]at l5;have HNL:Hid (nl=(zAh V).length):=by show _=_;rw[hnle];unfold zBW zAh;rw[bZ]
 have hn2:nl<=200:=by rw[HNL.o];exact hnl
 clear hnle hmm;go_wp2_with fail
 go_loopg[6,20] nl (ClR w L V th U nl)
 case atStart=>exact⟨0,_,[],[],fun _=>[],rfl,za,rfl,HC0.o,FactsC.zero⟩
 clear l5 hsl HC0 HB0
 case round =>
  obtain⟨k,v,vs,H,R,rfl,hkm,rfl,hcs,hf⟩:=hrel;have HK:=zq hkm;have HCS:=zq hcs;have HF:=zq hf;clear hkm hcs hf
  by_cases Y:k<nl
  ·have hsl:L<wr.heap.size:=aB hLs HCS.o.bel.size
   obtain⟨Ai,ci,hvi,hri⟩:=HIN.o.rdk;subst hvi;have l10:wr.cell? ⟨L,10,none⟩=some (.slice Ai ins.length ci):=(HLX.o.below HCS.o.bel).c 10 rfl;have hil:ins.length=U.length:=by have:=bE List.length HIN2.o;simpa using this
   rw[hil]at l10;have HIL:=zq hil
   have HI:Hid ((zAh V)[k]?=some (lfI V k)):=by
    show _=_
    unfold lfI;rw[List.getD_eq_getElem?_getD,List.getElem?_eq_getElem (by rw[<-HNL.o];exact Y)];rfl
   obtain⟨i,hi⟩:∃i,i=lfI V k:=⟨_,rfl⟩;have HIE:=zq hi;rw[<-hi]at HI;clear hri hil hi;(go_wp2_with fail);rename World=>w1
   go_loopg[8,28] U.length (SgR w1 V th U i)
   case atStart=>exact⟨0,_,rfl,za,rfl,zAv.nil _ _ _ _ _,aR _ _⟩
   clear l10 hsl
   case round =>
    obtain⟨j,sv,rfl,hjm,rfl,hsv,hbj⟩:=hrel;have HJ:=zq hjm;have HSV:=zq hsv;have HBJ:=zq hbj;have HBW:=zq (HCS.o.below hbj).bel;have hsl2:(sgL V th i (U.take j)).length<=200:=dX (sgL_len _) (dX yc hdl);clear hjm hsv hbj
    by_cases hltj:j<U.length
    ·obtain⟨ib,io,icap,x,hvi,ci0,hix⟩:=in_at HIN.o HIN2.o HIN3.o hltj
     injection hvi with hAi _ hci
     subst hAi;subst hci;obtain⟨d,T⟩:∃d,U[j]=d:=⟨_,rfl⟩;have HSS:=zq (sgL_succ (V:=V) (th:=th) (i:=i) hltj);have HCN:=zq (fun(u:World)(hu:Below w.heap.size w u)=>concerns_c RA rc V UA O us DA dc U L j th u (HLG.o.below hu) (HD.o.below hu) hltj);rw[T]at hix HSS HCN;have k0:=zAe HBW.o ci0;clear ci0 T
     cases hgv:zAg d.kd with
     |false =>
      have hxn:x=.slice none 0 0:=by
       rcases hix with ⟨h,_⟩|⟨_,_,_,hM,_⟩
       ·exact h
       ·rw[insM_cons hM]at hgv;cases hgv
      subst hxn
      have HN:Hid (OwnB wr w1.heap.size sv (sgL V th i (U.take (j+1)))):=by
       show zAv _ _ _ _ _ _ _
       rw[HSS.o,aO (fun h=>by rw[hgv]at h;cases h.1),bV];exact HSV.o
      clear hgv hix;go_wp2
      go_roundg (gk-1)
      case measure=>have:=HJ.o;omega
      case rel=>exact⟨j+1,_,rfl,ya,zi,HN.o,HBJ.o⟩
     |true =>
      obtain⟨go,cg,rfl,hlt2,hgw,hcell⟩:=set_at hgv hix HI.o;have HS0:=zq hcell;have HGV:=zq hgv;generalize (inL V d.ar).length=gn at *;clear hgv hix hcell hgw;(go_wp2_with fail);(with_reducible refine(HCN.o _ HBW.o).mono ?_);rintro e w3⟨rfl,hb3⟩;have HB3:=zq (zAa HBJ.o hb3);have HSV3:=zq (HSV.o.below hb3);have s0:=zAe hb3 (zAe HBW.o HS0.o);clear hb3 HCN k0
      cases hcb:zCx th d with
      |false =>
       have HN:Hid (OwnB w3 w1.heap.size sv (sgL V th i (U.take (j+1)))):=by
        show zAv _ _ _ _ _ _ _
        rw[HSS.o,aO (fun h=>by rw[hcb]at h;cases h.2),bV];exact HSV3.o
       clear hcb;go_wp2
       go_roundg (gk-1)
       case measure=>have:=HJ.o;omega
       case rel=>exact⟨j+1,_,rfl,ya,zi,HN.o,HB3.o⟩
      |true =>
       have HS2:Hid (sgL V th i (U.take (j+1))=sgL V th i (U.take j)++[if zCE V d.ar i=true then 49 else 48]):=by
        show _=_
        rw[HSS.o,aF ⟨HGV.o,hcb⟩]
       have hw3:w1.heap.size<=w3.heap.size:=HB3.o.size;clear hcb
       cases hli:zCE V d.ar i
       all_goals
        rw[hli]at s0;rw[hli]at HS2;simp only[if_true,eR,aL]at HS2;clear hli
       ·go_wp2_with (at_builtin;refine zBl _ _ _ elB rfl rfl w1.heap.size sv (sgL V th i (U.take j)) rfl (HSV3.o.alloc _) w3.heap.size 1 (48:UInt8) rfl (aJ _ _) rfl zr zn za zg ?_;intro A1 c1 w4 E hg4 hb4 hor4)
        exact tax
       ·go_wp2_with (at_builtin;refine zBl _ _ _ elB rfl rfl w1.heap.size sv (sgL V th i (U.take j)) rfl (HSV3.o.alloc _) w3.heap.size 1 (49:UInt8) rfl (aJ _ _) rfl zr zn za zg ?_;intro A1 c1 w4 E hg4 hb4 hor4)
        exact tax
    ·obtain rfl:j=U.length:=by have:=HJ.o;omega
     have HSG:Hid (OwnB wr w1.heap.size sv (sgL V th i U)):=by have:=HSV.o;rwa [aN]at this
     have HC2:=zq (HCS.o.below HBJ.o);have hcv:=conv_own HSG.o;obtain⟨sk,hsk⟩:∃sk,sk=sigB V th U k:=⟨_,rfl⟩;rw[show(⟨(sgL V th i U).toArray⟩:BA)=sk by rw[hsk,HIE.o]]at hcv;have hlk:=zAA tMap kStr zInt HC2.o.map sk true;have HSK:=zq hsk;obtain⟨fo,hfo⟩:∃fo,fo=clsF (sigB V th U) H sk:=⟨_,rfl⟩;rw[<-hfo]at hlk;have HFO:=zq hfo;simp only[if_true]at hlk;clear hsk hfo HSV HBJ HBW HCS;obtain⟨Av,cv,hv,_⟩:=HC2.o.own.rdk;subst hv;go_upto_if 60 with fail
     go_cut[6,11] (fun ov jv wx=>∃(jj:Nat)(vs':List Value)(H':List Nat)(R':Nat->List Int)(v':Value),v'=ov/\jv=.int .i64 (jj:Nat)/\ClsS w L w.heap.size (clsF (sigB V th U) H') v' vs' R' wx/\FactsK (sigB V th U) nl k jj H' vs' R')
     case first =>
      cases fo with
      |none =>
       obtain⟨wu,hup,hmu,hgu,hsz⟩:=zAO tMap kStr HC2.o.map sk (.int .i64 (vs.length:Int));clear hsz;have HCU:=zq (HC2.o.upd hmu hgu);have HLEN:=zq HF.o.len;have HONE:Hid (∀u∈eV zAo,u.oneCell'=true):=fun u hu=>by rw[List.mem_singleton.1 hu];rfl
       have hvl:vs.length<=200:=by rw[HLEN.o];have:=HF.o.hk;omega
       have hwu:w.heap.size<=wu.heap.size:=HCU.o.bel.size;clear hmu hgu hlk
       go_wp2_with (at_builtin;refine zBl _ _ _ elInts rfl rfl w.heap.size (.slice Av vs.length cv) vs rfl (HCU.o.own.alloc _) wu.heap.size 1 zAo rfl (aJ _ _) rfl HONE.o zn za zg ?_;intro A1 c1 w4 E hg4 hb4 hor4)
       have HC4:=zq ((HCU.o.below ((aR _ _).alloc (aK _) _)).snoc E hg4);clear E hg4 hb4 hor4 hup;go_meet;refine⟨H.length,vs++[zAo],H++[k],_,_,rfl,by rw[HLEN.o],?_,HF.o.new Y HLEN.o⟩
       have h:=HC4.o;have J:clsF (sigB V th U) H (sigB V th U k)=none:=by rw[<-HSK.o];exact HFO.o.symm
       rw[<-clsF_new J,<-HSK.o,<-HLEN.o];exact h
      |some v0 =>
       obtain⟨jj,hjj,rfl,hsg⟩:=clsF_some HFO.o.symm;clear hlk;go_wp2;go_meet;exact⟨jj,vs,H,R,_,rfl,rfl,HC2.o,HF.o.old hjj (by rw[hsg,HSK.o])⟩
     case rest =>
      obtain⟨jj,vs2,H2,R2,v2,rfl,rfl,hc2,hf2⟩:=hcut;have HC:=zq hc2;have HFK:=zq hf2;have hjv:jj<vs2.length:=by rw[hf2.len];exact hf2.hj
      obtain⟨g,cap,hv⟩:=own_some hc2.own za;subst hv;have hjA:vs2.toArray[jj]?=some vs2[jj]:=by rw[List.getElem?_toArray];exact List.getElem?_eq_getElem hjv
      have HRO:=zq (hc2.rows.own jj _ hjA);have HJA:Hid (vs2[jj]?=some vs2[jj]):=List.getElem?_eq_getElem hjv;have x0:wc.cell? ⟨g,jj,none⟩=some vs2[jj]:=by rw[eC (xs:=vs2.flatMap eV) hc2.own jj za,flatV];exact List.getElem?_eq_getElem hjv
      have HF4:Hid (∀(o:Obj)(w4:World),(wc.alloc o).grownBy w4 (vs2[jj]).ownBlock->w4.frozen? ⟨g,jj,none⟩=false/\w4.cell? ⟨g,jj,none⟩=some vs2[jj]/\g<w4.heap.size):=fun o w4 hg4=>by
       have h1:zAv eV 1 w4 w.heap.size 68 (.slice (some ⟨g,0,none⟩) vs2.length cap) vs2:=(HC.o.own.alloc o).grown hg4 (zEi (HC.o.own.alloc o) (HRO.o.alloc o) zd);exact⟨World.ownsRow.frozenAt (xs:=vs2.flatMap eV) h1 jj,by rw[eC (xs:=vs2.flatMap eV) h1 jj za,flatV];exact List.getElem?_eq_getElem hjv,(cQ h1 g rfl).2⟩
      obtain⟨u,hu⟩:∃u,vs2[jj]=u:=⟨_,rfl⟩;rw[hu]at HRO HJA x0 HF4;clear hjA hu;obtain⟨Au,cu,hvu,_⟩:=HRO.o.rdk;subst hvu;have hrl:(R2 jj).length<=200:=by have:=hf2.rl jj hf2.hj;omega
      have hwc:w.heap.size<=wc.heap.size:=HC.o.bel.size;clear hc2 hf2
      go_wp2_with (at_builtin;refine zBl _ _ _ elInt rfl rfl w.heap.size (.slice Au (R2 jj).length cu) (R2 jj) rfl (HRO.o.alloc _) wc.heap.size 1 (k:Int) rfl (aJ _ _) rfl zr zn za zg ?_;intro A1 c1 w4 E hg4 hb4 hor4;obtain⟨f4,z4,hgl4⟩:=HF4.o _ _ hg4)
      have HC5:=zq ((HC.o.below ((aR _ _).alloc (aK _) (.cells #[.int .i64 (k:Int)] 3))).put HJA.o hg4 E hor4);have HF5:=zq (HFK.o.done (.slice A1 ((R2 jj).length+1) c1));have HV5:Hid ((vs2.set jj (.slice A1 ((R2 jj).length+1) c1)).length=vs2.length):=aM;clear E hg4 hb4 hor4 f4 z4 hgl4 x0
      go_roundg (nl-k-1)
      case measure=>have:=HK.o;omega
      case rel=>exact⟨k+1,_,_,H2,_,rfl,zh,zi,HC5.o,HF5.o⟩
  ·obtain rfl:k=nl:=by have:=HK.o;omega
   go_wp2;go_ret
   refine⟨v,H,rfl,HCS.o.is HF.o,?_,?_,fun n J=>?_,HCS.o.bel⟩
   ·rw[<-HNL.o];exact HF.o.hk
   ·intro h hh;rw[<-HNL.o];exact HF.o.lt h hh
   ·obtain⟨h,hh,e⟩:=HF.o.cov n (by rw[HNL.o];exact J)
    exact⟨h,hh,List.toArray_inj (ByteArray.mk.inj e)⟩
theorem rangeT{RA:OA}{rc:Nat}{V:List Rg}{UA:OA}{O:Nat}{us:List BA}{DA:OA}{dc many r1 r2 g1 g2:Nat}{AL:OA}{cL:Nat}{vr vi:Value}{w:World}{L:Nat}(h:Bx w L (lgC RA rc V UA O us DA dc many r1 r2 g1 g2 AL cL vr vi) 151):w.rangeAt L 0 (#[.slice RA V.length rc,.slice UA us.length O,.slice DA many dc]:Array Value).toList:=fun j v hv=>by
 rw[cO];refine h.cell ?_
 match j,hv with
 |0,hv=>exact hv
 |1,hv=>exact hv
 |2,hv=>exact hv
def BkR1(W:World)(H:List Nat)(E:List Int)(V:List Rg)(U:List De)(k:Nat)(d:De)(m:Nat)(iv:Value)(wr:World):Prop:=
 ∃j:Nat,j+m=H.length/\iv=.int .i64 (j:Nat)/\(∀q (h:q<H.length),q<j->∀u∈d.us,∀x∈E,brB V U (lfI V H[q]) u x k d=false)/\Below W.heap.size W wr
def BkR2(W:World)(i:Nat)(E:List Int)(V:List Rg)(U:List De)(k:Nat)(d:De)(m:Nat)(iv:Value)(wr:World):Prop:=
 ∃j:Nat,j+m=d.us.length/\iv=.int .i64 (j:Nat)/\(∀q (h:q<d.us.length),q<j->∀x∈E,brB V U i d.us[q] x k d=false)/\Below W.heap.size W wr
def BkR3(W:World)(i:Nat)(u:BA)(E:List Int)(V:List Rg)(U:List De)(k:Nat)(d:De)(m:Nat)(iv:Value)(wr:World):Prop:=
 ∃j:Nat,j+m=E.length/\iv=.int .i64 (j:Nat)/\(∀q (h:q<E.length),q<j->brB V U i u E[q] k d=false)/\Below W.heap.size W wr
theorem breached_c(RA:OA)(rc:Nat)(V:List Rg)(UA:OA)(O:Nat)(us:List BA)(DA:OA)(dc:Nat)(U:List De)(L k:Nat)(w:World)(hr:Rgs w RA V)(hl:LgIs RA rc V UA O us DA dc U w L)(hd:Des w DA U)(hc:zBY V us U=0)(hk:k<U.length)(hdc:U.length<=dc)(hgv:zAg (U[k]).kd=true): Calls Tryz.prog 53 #[.pointer (some ⟨L,0,none⟩),.int .i64 (k:Int)] w (zAf (.bool (brkB V us U k U[k])) w):=by
 have hus:∀d∈U,d.us.length<=1000000:=fun d hd=>dX (zCA hc d hd).2 zd
 have hc2:=zDn hc k;have hkl:(U.take k).length=k:=yc;obtain⟨hcr,_,hdl⟩:=zBd hc;have hkd:∀d∈U,1<=d.kd/\d.kd<=5:=fun d hd=>(zBQ hc d hd).kd
 have hkd2:∀d∈U.take k,1<=d.kd/\d.kd<=5:=fun d hd=>hkd d (dJ hd)
 have hnl:(zAh V).length<=200:=dX (leafIdx_le V) (zCi hcr).len;obtain⟨b,o,hA,hb0,hc0⟩:=hd za;subst hA;obtain⟨N,hok⟩:=hc0 k hk;clear hc0;have hmem:=aH hk;have hgift:=title_gift hc _ hmem hgv;have hul1:=hus _ hmem;have HNL:=zq (newLedger_c RA rc V UA O us (some ⟨b,o,none⟩) dc U k);have HVA:=zq (fun(n i:Nat)(S:BA)(day:Int)(u:World)(hu:Below w.heap.size w u)(J:(zAh V)[n]?=some i)=>valid_c RA rc V UA O us (some ⟨b,o,none⟩) dc U L k n i S day u (hl.below hu) (hd.below hu) hk J (hus _ hmem));have HBC:=zq (fun(Lb n i:Nat)(S:BA)(day:Int)(u:World)(hu:Below w.heap.size w u)(hlb:LgIs RA rc V UA O us (some ⟨b,o,none⟩) dc (U.take k) u Lb)(J:(zAh V)[n]?=some i)=>breach_c RA rc V UA O us (some ⟨b,o,none⟩) dc U L Lb n i k S day u (hl.below hu) hlb (hd.below hu) hc J hk hdc);obtain⟨d,T⟩:∃d,U[k]=d:=⟨_,rfl⟩;rw[T]at N hok hmem hgv hgift hul1 HVA HBC ⊢;generalize C:brkB V us U k d=res;have HR:=zq C;have HCL:=zq (fun(u:World)(hu:Below w.heap.size w u)=>classes_c RA rc V UA O us (some ⟨b,o,none⟩) dc U L d.th u (hl.below hu) (hd.below hu) hdl hnl);have HED:Hid (∀(u:World),Below w.heap.size w u->∀Lb:Nat,LgIs RA rc V UA O us (some ⟨b,o,none⟩) dc (U.take k) u Lb->Calls Tryz.prog 67 #[.pointer (some ⟨Lb,0,none⟩),.string d.th,.slice none 0 0] u (GivesEdM [] d.th (U.take k) u)):=fun u hu Lb hlb=>edgesM_c none 0 [] RA rc V UA O us (some ⟨b,o,none⟩) dc (U.take k) Lb d.th u hlb ((hd.cut k).below hu) za hkd2 (fun h=>absurd h ze) (.inr rfl) ze
 have HEM:=zq (fun(u:World)(hu:Below w.heap.size w u)(g cap:Nat)(E:List Int)(hE:RdK zEh u (some ⟨g,0,none⟩) E)(hEl:E.length<=1000)=>edgesM_c (some ⟨g,0,none⟩) cap E RA rc V UA O us (some ⟨b,o,none⟩) dc U L d.th u (hl.below hu) (hd.below hu) hdl hkd hE (.inl ze) hEl)
 have HIF:=zq (fun(H:List Nat)(E:List Int)(hH:∀h∈H,h<(zAh V).length)(hcov:∀n,n<(zAh V).length->∃h∈H,sgL V d.th (lfI V h) U=sgL V d.th (lfI V n) U)
  (hE:∀x,x∈E↔x=0\/x=200001\/zDo d.th U x=true\/zDo d.th (U.take k) x=true)=>(br_iff (k:=k) hc hmem hgv hgift.1 hgift.2.2.1 hgift.2.2.2 hH hcov hE).trans brkB_iff.symm)
 rw[C]at HIF;have hnlc:=HNL.o w (zCi hcr) (chkT_kind hc) hr hd za za hdl;obtain⟨r1,r2,g1,g2,AL,cL,vr,vi,ins,base,hlx,_⟩:=hl;have HLX:=zq hlx;have HDK:=zq hok;have HGR:=zq (zCi hcr);have HRw:=zq hr;have HDw:=zq hd;have HCK:=zq (chkT_kind hc);have l2:=hlx.c 2 rfl;have hsl:=hlx.lt;clear hr hd hc hc2 hus hkd hkd2 hcr hlx C T hok hmem hgift hnlc
 go_enter Tryz.func53,Tryz.ntmps53;(go_upto_region 1 with fail);(iterate 23 go_step);refine fG _ _ zk b (o+k*16) zk (deC d).toList _ N Tryz.underlying126 rfl zc ?_;clear N;(go_upto_region 2 with fail);obtain⟨wd,hwd⟩:∃wd,wd=w.alloc (.cells (deC d) 126):=⟨_,rfl⟩;rw[<-hwd];have hbd:Below w.heap.size w wd:=zm;have m:Hid (Bx wd w.heap.size (deC d) 126):=zo;have HBD:=zq hbd;have HL1:=zq (HLX.o.below hbd);clear hwd hbd l2 hsl;have Q:=zq (HNL.o wd HGR.o HCK.o (HRw.o.below HBD.o) (HDw.o.below HBD.o) za za hdl);have hsl:=HL1.o.lt;(iterate 11 go_step);refine fG _ _ zk L 0 zk (tiC RA rc V UA O us (some ⟨b,o,none⟩) dc U).toList _ (rangeT HL1.o) Tryz.underlying26 rfl zc ?_;(go_wp2_with fail);(with_reducible refine Q.o.mono ?_);rintro e w2⟨Lb,rfl,hlb,D⟩;have HB2:=zq (zAa HBD.o D);have HD2:=zq (m.o.below D);have HLB:=zq hlb;clear D hlb Q HNL hsl HL1 m HBD;have d3:=HD2.o.c 3 rfl;have hsd:=HD2.o.lt;have hws:w.heap.size<=w2.heap.size:=HB2.o.size;have HDR:Hid (Below w.heap.size w w2.drew):=zAb HB2.o 1;have HE1:=zq (HED.o w2.drew HDR.o Lb (HLB.o.below (zAb (aR _ _) 1)));clear HED;go_upto_region 3 with fail
 go_region_held3 (fun w'=>w'.cell? ⟨w.heap.size,3,none⟩=some (.string d.th))
  (first|with_reducible assumption|go_simp)
  (first
   |((go_at_call 67;(with_reducible refine HE1.o.mono ?_);rintro e w4⟨E0,g0,cap0,rfl,hl0,_,hm0,hc0,hb4⟩;simp only[aY,dT]at hl0;have HB4:Hid (Below w.heap.size w w4):=zAa HDR.o hb4;have HBA:=zq (zAa (zAb (aR w2.heap.size w2) 1) hb4);have HD4:=zq (HD2.o.below HBA.o);have HM0:=zq hm0;have HC0:=zq hc0;have HE2:=zq (HEM.o w4 HB4.o g0 cap0 E0 (RdK.of1 (f:=Value.int .i64) fun _=>⟨g0,0,rfl,fun q hq=>by rw[cO];exact HC0.o q hq⟩) za);clear hb4 hm0 hc0 d3 hsd HE1;have d3:=HD4.o.c 3 rfl;have hsd:=HD4.o.lt))
   |((go_at_call 67;(with_reducible refine HE2.o.mono ?_);rintro e w5⟨E,g,cap,rfl,hEl,_,hEm,hEc,hb5⟩;have HB5:Hid (Below w.heap.size w w5):=zAa HB4.o hb5;have HD5:=zq (HD4.o.below hb5);have HL5:=zq (HLB.o.below (zAa HBA.o hb5));have HM5:=zq hEm;have HC5:=zq hEc;clear hb5 hEm hEc d3 hsd HE2;have d3:=HD5.o.c 3 rfl;have hsd:=HD5.o.lt)))
 have HCC:=zq (HCL.o w5 HB5.o);have hEl2:E.length<=804:=by have h1:(U.take k).length=k:=hkl;omega
 clear HCL HEM HD4 HB4 HBA HD2 HB2 HDR HLB;(go_wp2_with fail);(with_reducible refine HCC.o.mono ?_);rintro e w6⟨v,H,rfl,hcls,hHn,hHlt,hcov,hb6⟩;have hHl:H.length<=200:=dX hHn hnl;have HB6:=zq (zAa HB5.o hb6);have HD6:=zq (HD5.o.below hb6);have HL6:=zq (HL5.o.below hb6);have HLT:=zq hHlt
 have HEX:Hid (∀x,x∈E↔x=0\/x=200001\/zDo d.th U x=true\/zDo d.th (U.take k) x=true):=fun x=>by
  rw[HM5.o,HM0.o,edL_mem,edL_mem,or_iff_left (List.not_mem_nil (a:=x))]
  constructor
  ·rintro((h|h|h)|h|h|h)
   ·exact .inl h
   ·exact .inr (.inl h)
   ·exact .inr (.inr (.inl h))
   ·exact .inl h
   ·exact .inr (.inl h)
   ·exact .inr (.inr (.inr h))
  ·rintro(h|h|h|h)
   ·exact .inl (.inl h)
   ·exact .inl (.inr (.inl h))
   ·exact .inl (.inr (.inr h))
   ·exact .inr (.inr (.inr h))
 have HI:=zq (HIF.o H E hHlt hcov HEX.o);have HEC:=zq (fun q (hq:q<E.length)=>zAe hb6 (HC5.o q hq));obtain⟨A,c,rfl,hrows⟩:=hcls;have HRW:=zq hrows;clear hb6 hHlt hcov hrows HCC HB5 HD5 HL5 HM5 HM0 HC5 HC0 HEX HIF hHn d3 hsd;go_wp2_with fail
 go_loopg[42] H.length (BkR1 w6 H E V U k d)
 case atStart=>exact⟨0,za,rfl,fun q _ hq=>za,aR _ _⟩
 case round =>
  obtain⟨j,hjm,rfl,hno,I⟩:=hrel;have HJ:=zq hjm;have HNO:=zq hno;have HB:=zq I;clear hjm hno I
  by_cases Y:j<H.length
  ·obtain⟨gc,hA,hcs⟩:=HRW.o za
   subst hA;obtain⟨gj,nj,cj,ca0,hn0,cb0⟩:=hcs j Y;have ca:=zAe HB.o ca0;have hmem:H[j]∈H:=aH Y;obtain⟨n,J⟩:∃n,n=H[j]:=⟨_,rfl⟩;rw[<-J]at cb0 hmem;have HNE:=zq J;have HCB:=zq cb0;have hnj:(0:Int)<(nj:Int):=za;have hnl2:=HLT.o n hmem
   have HN:Hid ((zAh V)[n]?=some (lfI V n)):=by
    show _=_
    unfold lfI;rw[List.getD_eq_getElem?_getD,List.getElem?_eq_getElem hnl2];rfl
   have HYES:Hid (∀u∈d.us,∀x∈E,brB V U (lfI V n) u x k d=true->res=true):=fun u hu x hx h=>HI.o.1 ⟨n,hmem,u,hu,x,hx,h⟩
   obtain⟨i,hi⟩:∃i,i=lfI V n:=⟨_,rfl⟩;rw[<-hi]at HN HYES;have HIE:=zq hi;have d10:=(HD6.o.below HB.o).c 11 rfl;have hsd:=(HD6.o.below HB.o).lt;have HKL:=zq Y;clear hcs ca0 cb0 J hmem hnl2 hi;(go_wp2_with fail);rename World=>w1
   go_loopg[49] d.us.length (BkR2 w6 i E V U k d)
   case atStart=>exact⟨0,za,rfl,fun q _ hq=>za,HB.o⟩
   clear d10 hsd ca
   case round =>
    obtain⟨p,hpm,rfl,hno,I⟩:=hrel;have HP:=zq hpm;have HNO2:=zq hno;have HB2:=zq I;clear hpm hno I
    by_cases hlp:p<d.us.length
    ·obtain⟨bu,ou,hUA,hcu⟩:=HDK.o.uses za
     have cu:=zAe HB2.o (zAe HB6.o (hcu p hlp));have hum:=aH hlp;obtain⟨u,hu⟩:∃u,u=d.us[p]:=⟨_,rfl⟩;rw[<-hu]at cu hum;have HUE:=zq hu;have HYES2:=zq (HYES.o u hum);have HPL:=zq hlp;have HUA:=zq hUA;clear hcu hum hu;rw[hUA];clear hUA;go_wp2_with fail
     go_loopg[55] E.length (BkR3 w6 i u E V U k d)
     case atStart=>exact⟨0,za,rfl,fun q _ hq=>za,HB2.o⟩
     clear cu
     case round =>
      obtain⟨l,hlm,rfl,hno,I⟩:=hrel;have HL:=zq hlm;have HNO3:=zq hno;have HB3:=zq I;clear hlm hno I
      by_cases hll:l<E.length
      ·have ce:=zAe HB3.o (HEC.o l hll)
       have cg:=zAe HB3.o HCB.o
       have HNX:Hid (brB V U i u E[l] k d=false->∀q (h:q<E.length),q<l+1->brB V U i u E[q] k d=false):=fun h q hq hql=>by
        by_cases e:q=l
        ·subst e;exact h
        ·exact HNO3.o q hq za
       have HY:=zq (HYES2.o E[l] (aH hll));generalize E[l]=x at *;rw[brB_bz]at HNX HY;have hba:Below wr.heap.size wr (wr.alloc (.cells (zDN n u x) 90)):=(aR _ _).alloc (aK _) _;have HX:Hid (Bx (wr.alloc (.cells (zDN n u x) 90)) wr.heap.size (zDN n u x) 90):=Bx.new _ _ _;have HBX:=zq (zAa HB3.o hba);clear hba;(go_upto_region 14 with fail);obtain⟨wx,hwx⟩:∃wx,wx=wr.alloc (.cells (zDN n u x) 90):=⟨_,rfl⟩;rw[<-hwx]at HX HBX ⊢;clear hwx ce cg;obtain⟨x0,x1,x2⟩:=HX.o.t;have hsx:=HX.o.lt;have HBW:=zq (zAa HB6.o HBX.o);have HV:=zq (HVA.o n i u x wx HBW.o HN.o);(go_wp2_with fail);(with_reducible refine HV.o.mono ?_);rintro e wv⟨rfl,hbv⟩;have HBV:=zq (zAa HBX.o hbv);have HXV:=zq (HX.o.below hbv);clear hbv x0 x1 x2 hsx HV HX HBW HBX
       cases hv:vB V U i u x d with
       |false =>
        have HN2:=zq (HNX.o (by rw[hv];rfl));clear hv HNX HY;go_wp2
        go_roundg (gk-1)
        case measure=>have:=HL.o;omega
        case rel=>exact⟨l+1,ji,zi,HN2.o,HBV.o⟩
       |true =>
        have HBW:=zq (zAa HB6.o HBV.o);have HZ:=zq (HBC.o Lb n i u x wv HBW.o (HL6.o.below HBV.o) HN.o);have HN2:Hid (bzB V U i u x k d=false->∀q (h:q<E.length),q<l+1->brB V U i u E[q] k d=false):=fun h=>HNX.o (by rw[h,Bool.and_false])
        have HY2:Hid (bzB V U i u x k d=true->res=true):=fun h=>HY.o (by rw[hv,h];rfl)
        obtain⟨x0,x1,x2⟩:=HXV.o.t;have hsx:=HXV.o.lt;clear hv HNX HY;(go_wp2_with fail);(with_reducible refine HZ.o.mono ?_);rintro e wz⟨rfl,hbz⟩;have HBZ:=zq (zAa HBV.o hbz);clear hbz x0 x1 x2 hsx HZ HXV HBV HBW
        cases hz:bzB V U i u x k d with
        |false =>
         have HN3:=zq (HN2.o hz);clear hz HN2 HY2;go_wp2
         go_roundg (gk-1)
         case measure=>have:=HL.o;omega
         case rel=>exact⟨l+1,ji,zi,HN3.o,HBZ.o⟩
        |true =>
         have HY3:=zq (HY2.o hz);clear hz HN2 HY2;go_wp2;go_ret
         exact zAf.mk (by first|(rw[HY3.o];rfl)|rw[HY3.o]) (zAa HB6.o HBZ.o)
      ·obtain rfl:l=E.length:=by have:=HL.o;omega
       have HN4:Hid (∀q (h:q<d.us.length),q<p+1->∀x∈E,brB V U i d.us[q] x k d=false):=fun q hq hqp x hx=>by
        by_cases e:q=p
        ·subst e
         obtain⟨y,hy,rfl⟩:=bD hx;rw[<-HUE.o];exact HNO3.o y hy hy
        ·exact HNO2.o q hq za x hx
       go_wp2;rw[<-HUA.o]
       go_roundg (d.us.length-p-1)
       case measure=>have:=HP.o;omega
       case rel=>exact⟨p+1,by have:=HPL.o;omega,zi,HN4.o,HB3.o⟩
    ·obtain rfl:p=d.us.length:=by have:=HP.o;omega
     go_wp2
     go_roundg (H.length-j-1)
     case measure=>have:=HJ.o;omega
     case rel =>
      refine⟨j+1,by have:=HKL.o;omega,zi,fun q hq hqk u hu x hx=>?_,HB2.o⟩
      by_cases hqe:q=j
      ·subst hqe
       rw[<-HNE.o,<-HIE.o];obtain⟨y,hy,rfl⟩:=bD hu;exact HNO2.o y hy hy x hx
      ·exact HNO.o q hq za u hu x hx
  ·obtain rfl:j=H.length:=by have:=HJ.o;omega
   have HF:Hid (res=false):=by
    show _=_
    cases hq:res with
    |false=>rfl
    |true =>
     obtain⟨h,hh,u,hu,x,hx,hbr⟩:=HI.o.2 hq;obtain⟨q,hql,rfl⟩:=bD hh;rw[HNO.o q hql hql u hu x hx]at hbr
     cases hbr
   go_wp2;go_ret
   exact zAf.mk yb (zAa HB6.o HB.o)
def brA(V:List Rg)(us:List BA)(U:List De):List BA:=if zBY V us U=0 then brL V us U U.length else []
def GivesBk(l:List BA)(f:Int)(w:World)(e:Ending)(w':World):Prop:=
 ∃(A:OA)(c:Nat),e=.returned (.tuple #[.slice A l.length c,.int .i64 f])/\Strs w' A l/\Below w.heap.size w w'
def BqR(W:World)(V:List Rg)(us:List BA)(U:List De)(m:Nat)(ov iv:Value)(wr:World):Prop:=
 ∃(j:Nat)(v:Value),v=ov/\j+m=U.length/\iv=.int .i64 (j:Nat)/\zAv encS 1 wr W.heap.size 9 v (brL V us U j)/\Below W.heap.size W wr
theorem Breaches_c(RA:OA)(rc:Nat)(V:List Rg)(UA:OA)(O:Nat)(us:List BA)(DA:OA)(dc:Nat)(U:List De)(w:World)(hr:Rgs w RA V)(hu:Strs w UA us)(hd:Des w DA U)(hz:∀i (h:i<V.length),(V[i]).nm.size<=9223372036854775807)(hz2:∀i (h:i<us.length),(us[i]).size<=9223372036854775807)(hdc:U.length<=dc): Calls Tryz.prog 16 #[.agg (tiC RA rc V UA O us DA dc U)] w (GivesBk (brA V us U) (zBY V us U) w):=by
 have HX:Hid (Bx (w.alloc (.cells (tiC RA rc V UA O us DA dc U) 26)) w.heap.size (tiC RA rc V UA O us DA dc U) 26):=Bx.new _ _ _;have HB:Hid (Below w.heap.size w (w.alloc (.cells (tiC RA rc V UA O us DA dc U) 26))):=(aR _ _).alloc (aK _) _;obtain⟨W,hW⟩:∃W,W=w.alloc (.cells (tiC RA rc V UA O us DA dc U) 26):=⟨_,rfl⟩;rw[<-hW]at HX HB;have HOP:Hid (Calls Tryz.prog 31 #[.agg (tiC RA rc V UA O us DA dc U),.slice none 0 0] W (GivesOp (openF V us U []) RA rc V UA O us DA dc U W)):=(open_c RA rc V UA O us DA dc U none 0 [] W (hr.below HB.o) (hu.below HB.o) (hd.below HB.o) hz hz2 Rd1.nil (fun i h=>absurd h ze) ze hdc);have HDw:=zq hd;have HRw:=zq hr;clear hr hu hd
 go_enter Tryz.func16,Tryz.ntmps16;(go_upto_region 1 with fail);rw[<-hW];clear hW;(iterate 2 go_step);refine fG _ _ zk w.heap.size 0 zk (tiC RA rc V UA O us DA dc U).toList _ (zBt HX.o) Tryz.underlying26 rfl zc ?_;(go_wp2_with fail);(with_reducible refine HOP.o.mono ?_);rintro e w1⟨P,rfl,hb1,hp0,hp1⟩;have HB1:=zq (zAa HB.o hb1);have X:=zq (HX.o.below hb1);have HP0:=zq hp0;have HP1:=zq hp1;clear hb1 hp0 hp1 HOP HX HB
 by_cases hc:zBY V us U=0
 case neg =>
  have hof:openF V us U []=zBY V us U:=by unfold openF;rw[aF hc]
  have hcb:(zBY V us U != 0)=true:=by simpa using hc
  have HS:Hid (brA V us U=[]):=by show _=_;unfold brA;rw[aO hc]
  rw[hof];clear hc hof HP0 HP1;exact tee
 have hof:openF V us U []=0:=by unfold openF;rw[aO (show ¬(zBY V us U≠0) by rw[hc];simp)];rfl
 have HC:=zq hc;rw[hof];obtain⟨L,rfl,hlg⟩:=HP1.o hof;have HLG:=zq hlg;have HS:Hid (brA V us U=brL V us U U.length):=by show _=_;unfold brA;rw[aF hc]
 obtain⟨_,_,hdl⟩:=zBd HC.o;have HKD:=zq (chkT_kind HC.o);have HBR:=zq (fun(k:Nat)(u:World)(hu:Below w1.heap.size w1 u)(hk:k<U.length)(hg:zAg (U[k]).kd=true)=>breached_c RA rc V UA O us DA dc U L k u (HRw.o.below (zAa HB1.o hu)) (hlg.below hu) (HDw.o.below (zAa HB1.o hu)) HC.o hk hdc hg);rw[hc];clear hc hof HP0 HP1 hlg HLG;have x2:=X.o.c 2 rfl;have hsx:=X.o.lt;go_wp2_with fail
 go_loopg[6,20] U.length (BqR w1 V us U)
 case atStart=>exact⟨0,_,rfl,za,rfl,zAv.nil _ _ _ _ _,aR _ _⟩
 clear x2 hsx
 case round =>
  obtain⟨j,ov,rfl,hjm,rfl,how,I⟩:=hrel;have HJ:=zq hjm;have HO:=zq how;have HBR1:=zq I;have hal:(brL V us U j).length<=200:=dX brL_len za;clear hjm how I
  by_cases Y:j<U.length
  ·obtain⟨b,o,hA,hb0,hc0⟩:=HDw.o za
   subst hA;have hp:=(hc0 j Y).1;have HBQ:=zq (fun(u:World)(hu:Below w1.heap.size w1 u)=>HBR.o j u hu Y);have HES:=zq (brL_succ (V:=V) (us:=us) Y);have HK1:=zq (HKD.o _ (aH Y)).1;generalize U[j]=d at *;have N:wr.rangeAt b (o+j*16) (deC d).toList:=fun q v hv=>zAe (zAa HB1.o HBR1.o) (hp q v hv)
   clear hp hc0;(go_upto_region 7 with fail);(iterate 8 go_step);refine fG _ _ zk b (o+j*16) zk (deC d).toList _ N Tryz.underlying126 rfl zc ?_;clear N;(go_upto_region 8 with fail);obtain⟨wd,hwd⟩:∃wd,wd=wr.alloc (.cells (deC d) 126):=⟨_,rfl⟩;rw[<-hwd];have hbd:Below wr.heap.size wr wd:=zm;have m:Hid (Bx wd wr.heap.size (deC d) 126):=zo;have HBD:=zq (zAa HBR1.o hbd);have HOD:=zq (HO.o.below hbd);clear hwd hbd HO HBR1;have d2:=m.o.c 2 rfl;have hsd:=m.o.lt;have HFO:=zq (fun W=>zCd d.kd W HK1.o);have hfp:=fldC_place d.kd HK1.o;(go_wp2_with fail);(with_reducible refine(HFO.o _).mono ?_);rintro e wf⟨rfl,hbf⟩;have HBF:=zq (zAa HBD.o hbf);have HOF:=zq (HOD.o.below hbf);have HDF:=zq (m.o.below hbf);clear hbf HFO HBD HOD m d2 hsd
   cases hg:zAg d.kd with
   |false =>
    have HN:Hid (zAv encS 1 wf w1.heap.size 9 ov (brL V us U (j+1))):=by show zAv _ _ _ _ _ _ _;rw[HES.o,hg,eK,aO ze,bV];exact HOF.o
    rw[hg]at hfp;clear hg;go_wp2
    go_roundg (gk-1)
    case measure=>have:=HJ.o;omega
    case rel=>exact⟨j+1,ov,rfl,ya,zi,HN.o,HBF.o⟩
   |true =>
    rw[hg]at hfp;have HBC:=zq (HBQ.o wf HBF.o hg);have HES2:Hid (brL V us U (j+1)=brL V us U j++(if brkB V us U j d=true then [d.id] else [])):=by show _=_;rw[HES.o,hg,eL]
    clear hg;(go_wp2_with fail);(with_reducible refine HBC.o.mono ?_);rintro e wb⟨rfl,hbb⟩;have HBB:=zq (zAa HBF.o hbb);have HOB:=zq (HOF.o.below hbb);have HDB:=zq (HDF.o.below hbb);clear hbb hfp HBC HBF HOF HDF
    cases hbr:brkB V us U j d with
    |false =>
     have HN:Hid (zAv encS 1 wb w1.heap.size 9 ov (brL V us U (j+1))):=by show zAv _ _ _ _ _ _ _;rw[HES2.o,hbr,aO ze,bV];exact HOB.o
     clear hbr;go_wp2
     go_roundg (gk-1)
     case measure=>have:=HJ.o;omega
     case rel=>exact⟨j+1,ov,rfl,ya,zi,HN.o,HBB.o⟩
    |true =>
     have HS2:Hid (brL V us U (j+1)=brL V us U j++[d.id]):=by show _=_;rw[HES2.o,hbr,aF rfl]
     have d0:=HDB.o.c 0 rfl;have hsd:=HDB.o.lt;have hw1:w1.heap.size<=wb.heap.size:=HBB.o.size;clear hbr
     go_wp2_with (at_builtin;refine zAT _ _ _ elStr rfl rfl w1.heap.size ov (brL V us U j) rfl (HOB.o.alloc _) wb.heap.size 1 d.id rfl (aJ _ _) rfl zr zn za zg ?_;intro v1 w4 E hg4 hb4)
     have HO6:Hid (zAv encS 1 w4 w1.heap.size 9 v1 (brL V us U (j+1))):=yr;have HB6:=zq ((HBB.o.alloc hw1 _).trans hb4);clear E hg4 hb4 d0 hsd;go_wp2
     go_roundg (gk-1)
     case measure=>have:=HJ.o;omega
     case rel=>exact⟨j+1,v1,rfl,ya,zi,HO6.o,HB6.o⟩
  ·obtain rfl:j=U.length:=by have:=HJ.o;omega
   obtain⟨A,c,rfl,hst⟩:=HO.o.rd1;have M:=zq hst;clear hst;go_wp2;go_ret2
   exact⟨A,c,by rw[HS.o,HC.o];rfl,by rw[HS.o];exact M.o,zAa HB1.o HBR1.o⟩
section
variable {w w':World} {B r:Nat} {f:BA→Option Value} {R:BA→List BA}
end
section
variable {w w':World} {B r:Nat} {l:List Rg}
end
theorem addN(b o j:Nat):(Addr.mk b o none).add j=⟨b,o+j,none⟩:=by
 unfold Addr.add;split<;>simp_all
theorem wpList_pushL{P:Program}{α:Type}{f:α->Value}(hf:∀x,(f x).oneCell'=true){G:Array Oper}{rest:List Oper}{o:Oper}{a:Act}{w:World}{Q:Exit->Act->World->Prop}{e:TypeId}{z:Value}{bytes:Nat}(s x:Operand)(t:TypeId)(hT:ElemT P t e z 1 bytes)(hgd:o.guard=none)(ho:o.op=.call { callee:=.builtin .append,args:=#[s,x],argTypes:=#[t,t] })
  (base:Nat) (v:Value) (l:List α) (hs:a.eval s=v) (hown:zAv (fun x=>[f x]) 1 w base e v l)
  (A:OA) (m cp:Nat) (ys:List α) (hm:m=ys.length) (hx:a.eval x=.slice A m cp) (hr:Rd1 f w A ys)
  (hlen:l.length+ys.length<=maxLen) (hbytes:(l.length+ys.length)*bytes<=140737488355328) (hbase:base<=w.heap.size)
  (h:∀v' w',zAv (fun x=>[f x]) 1 w' base e v' (l++ys)->w.grownBy w' v.ownBlock->Below base w w'->(v'.ownBlock=v.ownBlock\/v'.ownBlock=some w.heap.size)->wpList P G Q rest (a.put o.dst v') w'):wpList P G Q (o::rest) a w:=by
 obtain⟨i,hi,hz0,hz1,hz2⟩:=info_parts hT.info;subst hm
 have hfin:∀v' w',w'.ownsRow base e 1 v' (l.length+ys.length) (l.flatMap (fun x=>[f x])++ys.map f)->zAv (fun x=>[f x]) 1 w' base e v' (l++ys):=fun v' w' h1=>by
  unfold zAv;rw[eA,List.flatMap_append,flat1 ys];exact h1
 have N:∀w',w.grownBy w' v.ownBlock->Below base w w':=fun w' hg=>(aR _ _).grown hg hbase fun j hj=>(cQ hown j hj).1
 cases A with
 |none =>
  have hy:ys=[]:=by
   rcases bI ys.length with h0|h0
   ·exact eB h0
   ·obtain⟨b,o,h1,_⟩:=hr h0
    cases h1
  subst hy;refine wpList_plain hgd fun _ hK=>?_
  have hrun:(Builtin.append_ #[t,t] o.type #[v,.slice none 0 cp]).run P w=.ok v w:=by
   rcases hown.2 with ⟨rfl,_⟩|⟨g,cap,cur,rfl,_,_,hnc,_⟩
   ·simp[Builtin.append_,run_underlying hT.ty,sizeOf,typeInfo,hi,Builtin.lenOf,Builtin.firstCells]
   ·simp[Builtin.append_,run_underlying hT.ty,sizeOf,typeInfo,hi,Builtin.lenOf,Builtin.firstCells,hnc,storeCells]
  exact tba
 |some ad =>
  refine wpList_append_own_at _ hgd s x t ho base e i z 1 bytes hT.ty hi hz0 hz1 hz2 hT.zs hT.pos v l.length _ hs hown ad ys.length cp (ys.map f) hx ze ?_ ?_ hlen hbytes hbase ?_
  ·intro j u hj
   rw[List.getElem?_map]at hj
   have hjl:j<ys.length:=by
    refine Nat.lt_of_not_ge fun hge=>?_
    rw[List.getElem?_eq_none hge]at hj;cases hj
   obtain⟨b,o,h1,hc⟩:=hr za
   injection h1 with h1
   subst h1;rw[List.getElem?_eq_getElem hjl]at hj;simp only[aP,aQ]at hj;rw[<-hj,addN];exact hc j hjl
  ·intro u hu
   obtain⟨y,_,rfl⟩:=List.mem_map.1 hu;exact hf y
  ·intro v' w' h1 h2 _ h4
   exact h v' w' (hfin v' w' h1) h2 (N w' h2) h4
theorem ownL_cap{α:Type}{enc:α->List Value}{k:Nat}{w:World}{base:Nat}{e:TypeId}{l:List α}{A:OA}{n c:Nat}(h:zAv enc k w base e (.slice A n c) l):l.length<=c:=by
 rcases h.2 with ⟨h1,h2⟩|⟨g,cap,cur,h1,_,_,hnc,_⟩
 ·rw[h2];exact cZ _
 ·injection h1 with _ _ h1
  omega
theorem ownL_base{α:Type}{enc:α->List Value}{k:Nat}{w:World}{base base':Nat}{e:TypeId}{v:Value}{l:List α}(h:zAv enc k w base e v l)(I:base'<=base):zAv enc k w base' e v l:=by
 refine⟨h.1,?_⟩
 rcases h.2 with J|⟨g,cap,cur,h1,h2,rest⟩
 ·exact .inl J
 ·exact .inr ⟨g,cap,cur,h1,za,rest⟩
theorem rd1_cutTo{α:Type}{f:α->Value}{w:World}{A:OA}{l:List α}(h:Rd1 f w A l)(k:Nat):Rd1 f w A (l.take k):=fun hl=>by
 have hk:0<l.length:=by rw[bF]at hl;omega
 obtain⟨b,o,rfl,hc⟩:=h hk;refine⟨b,o,rfl,fun i hi=>?_⟩;rw[bB];exact hc i (by rw[bF]at hi;omega)
theorem rd1_cutFrom{α:Type}{f:α->Value}{w:World}{A:OA}{l:List α}(h:Rd1 f w A l){k c:Nat}(hc:l.length<=c):Rd1 f w (if c=k then A else A.map (·.add k)) (l.drop k):=fun hl=>by
 have hk:k<l.length:=by rw[dH]at hl;omega
 obtain⟨b,o,rfl,hcl⟩:=h za;rw[aO za];refine⟨b,o+k,by simp only[aP,addN],fun i hi=>?_⟩;rw[List.getElem_drop,Nat.add_assoc];exact hcl (k+i) (by rw[dH]at hi;omega)
end Go.Proofs.YtbbchlpccgkikaaGreatDoor
