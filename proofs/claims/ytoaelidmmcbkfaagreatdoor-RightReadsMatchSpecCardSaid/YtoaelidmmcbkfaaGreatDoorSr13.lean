/- Package right: a reader's shares; areas and uses of a deed. -/
import Derived.Test.YtoaelidmmcbkfaaGreatDoorSr12
set_option maxRecDepth 100000
set_option maxHeartbeats 8000000
namespace Go.Proofs.YtoaelidmmcbkfaaGreatDoor
open Go.RowKit Dw
def shsO (bad:Bool) (M:List Ln):List Sh:=if bad=true then [] else (zAW M).1
def shr1 (M:List Ln):Option Sh:=match wdF sp2 zCh 3 M with
 | some [_,p,s]=>if rowL p=true then match zDP s with
  | some (n,d)=>some ⟨ofL p,ofL n,ofL d⟩
  | none=>none else none
 | _=>none
theorem zCu (M:List Ln):(zAW M).1=match shr1 M with
  | some x=>x::(zAW M.tail).1
  | none=>[]:=by
 cases M with
 | nil=>rfl
 | cons l r =>
  rw [zAW];unfold shr1
  cases h:wdF sp2 zCh 3 (l::r) with
  | none=>rfl
  | some W =>
   match W with
   | []=>rfl
   | [_]=>rfl
   | [_,_]=>rfl
   | _::_::_::_::_=>rfl
   | [a,p,s] =>
    simp only
    cases hr:rowL p with
    | false=>rfl
    | true =>
     simp only [if_true]
     cases hx:zDP s with
     | none=>rfl
     | some x=>rfl
theorem wdO_three {bad:Bool} {pre first:Ln} {M:List Ln} {w:List Ln} (h:wdO bad pre first 3 M=some w):bad=false∧∃ n m,w=[first,n,m]:=by
 unfold wdO at h
 cases bad with
 | true=>cases h
 | false =>
  obtain ⟨n,m,hn,_⟩:=wd_three h;exact ⟨rfl,n,m,hn⟩
def ShxRel (w:World) (r:Nat) (LA:Option Addr) (c:Nat) (L:List Ln) (k:Nat) (all:List Sh) (m:Nat) (ov:Value) (wr:World):Prop :=
 ∃ (T:List Sh) (v:Value),v=ov∧zAF eShr 3 wr w.heap.size 110 v T∧RdI wr r LA c L (k+T.length) false∧KeptB w.heap.size r w wr∧T++(zAW (L.drop (k+T.length))).1=all∧k+T.length+m=L.length+1
def GivesShs (l:List Sh) (r:Nat) (LA:Option Addr) (c:Nat) (L:List Ln) (k:Nat) (bad:Bool) (w:World) (e:Ending) (w':World):Prop :=
 ∃ A c',e = .returned (.slice A l.length c')∧Shs w' A l∧(∀ b o,A=some ⟨b,o,none⟩→w.heap.size≤b)∧RdI w' r LA c L (k+l.length) bad∧w.grownBy w' (some r)
theorem shares_c (r:Nat) (LA:Option Addr) (c:Nat) (L:List Ln) (k:Nat) (bad:Bool) (w:World) (h:RdI w r LA c L k bad) (hG:GOK w) (hg:gkB<r) :
  Calls Tryz.prog 40 #[.pointer (some ⟨r,0,none⟩)] w (GivesShs (shsO bad (L.drop k)) r LA c L k bad w):=by
 have HI0:=zq h;have HG0:=zq hG;have hmany:=h.many;have hrw:=h.bx.lt
 cases bad with
 | true =>
  have x2:w.cell? ⟨r,2,none⟩=some (.bool true):=h.bx.c 2 rfl;clear h hG
  go_enter Tryz.func40,Tryz.ntmps40
  go_wp2_with fail
  go_loopg [3] 1 (fun (m:Nat) (ov:Value) (wr:World)=>ov = .slice none 0 0∧wr=w)
  case atStart=>exact ⟨rfl,rfl⟩
  case round =>
   obtain ⟨rfl,rfl⟩:=hrel
   go_wp2_with fail
   go_ret
   exact ⟨none,0,rfl,(fun h0=>absurd h0 (by simp [shsO])),(fun _ _ e=>vz),HI0.o,(KeptB.refl _ _ _).to⟩
 | false =>
  obtain ⟨all,hall⟩:∃ all,all=shsO false (L.drop k):=⟨_,rfl⟩;have HALL:Hid (all=(zAW (L.drop k)).1):=hall;rw [←hall];have hle:=h.le;clear h hG hall
  go_enter Tryz.func40,Tryz.ntmps40
  go_wp2_with fail
  go_loopg [3] (L.length+1 - k) (ShxRel w r LA c L k all)
  case atStart=>exact ⟨[],_,rfl,zAF.nil _ _ _ _ _,HI0.o,KeptB.refl _ _ _,HALL.o.symm,zg⟩
  case round =>
   obtain ⟨T,v,rfl,ho,hi,hk,hal,hm⟩:=hrel;have HO1:=zq ho;have HI1:=zq hi;have HK1:=zq hk;have HA1:=zq hal;have HM1:=zq hm;have x2:wr.cell? ⟨r,2,none⟩=some (.bool false):=hi.bx.c 2 rfl;have hrs:=hi.bx.lt;have hTl:T.length≤600000:=by have:=hi.le;omega
   obtain ⟨k2,hk2⟩:∃ k2,k2=k+T.length:=⟨_,rfl⟩;have HK2E:=zq hk2;rw [←hk2] at HI1 HA1;clear ho hi hk hal hm hk2
   have HW:Hid (Calls Tryz.prog 27 #[.pointer (some ⟨r,0,none⟩),.string ⟨#[32,32]⟩,.string ⟨#[115,104,97,114,101]⟩,.int .i64 3] wr (zBK (wdO false sp2 zCh 3 (L.drop k2)) wr)) :=
    zEt r LA c L k2 false ⟨#[32,32]⟩ ⟨#[115,104,97,114,101]⟩ 3 wr HI1.o (HG0.o.kept HK1.o hg hrw) zc
   have HS1:Hid (shr1 (L.drop k2)=match wdO false sp2 zCh 3 (L.drop k2) with
    | some [_,p,s]=>if rowL p=true then match zDP s with
     | some (n,d)=>some ⟨ofL p,ofL n,ofL d⟩
     | none=>none else none
    | _=>none):=rfl
   have HNO:Hid (shr1 (L.drop k2)=none→T=all):=fun h=>by
    rw [←HA1.o,zCu,h,aD]
   have HYES:Hid (∀ x,shr1 (L.drop k2)=some x→(T++[x])++(zAW (L.drop (k2+1))).1=all):=fun x h=>by
    rw [←HA1.o,zCu (L.drop k2),h];simp only [cC,dI,zAX]
   have HWT:Hid (∀ W,wdO false sp2 zCh 3 (L.drop k2)=some W→k2<L.length∧∃ p s,W=[zCh,p,s]∧p.length≤600000∧s.length≤600000):=fun W hW=>by
    obtain ⟨_,p,s,hn⟩:=wdO_three hW;refine ⟨zBi (zEs vo),p,s,hn,?_,?_⟩
    ·exact zCI (m:=3) HI1.o.drops (show wdF sp2 zCh 3 (L.drop k2)=some W from hW) vj
    ·exact zCI (m:=3) HI1.o.drops (show wdF sp2 zCh 3 (L.drop k2)=some W from hW) vj
   generalize shr1 (L.drop k2)=ans at *;generalize wdO false sp2 zCh 3 (L.drop k2)=res at *
   have HOUT:Hid (∀ w',ans=none→Below wr.heap.size wr w'→∃ A c',v = .slice A all.length c'∧GivesShs all r LA c L k false w (.returned v) w'):=fun w' hn hb=>by
    have hT:=HNO.o hn;obtain ⟨A,c',e1,e2,e3⟩:=own_shr (HO1.o.below hb);rw [hT] at e1 e2;refine ⟨A,c',e1,A,c',by rw [e1],e2,e3,?_,?_⟩
    ·rw [←hT,←HK2E.o];exact HI1.o.below hb
    ·exact (HK1.o.trans (KeptB.below (hb.mono HK1.o.size))).to
   clear HALL HA1
   go_wp2_with fail
   with_reducible refine HW.o.mono ?_
   rintro e w1 ⟨A,c1,rfl,hst,hb1⟩;have HB1:=zq hb1;have HST:=zq hst;clear hst hb1 HW
   cases res with
   | none =>
    have HA:Hid (ans=none):=HS1.o;obtain ⟨A',c',rfl,hgv⟩:=HOUT.o w1 HA.o HB1.o;have HGV:=zq hgv;clear hgv HOUT HNO HYES HWT HST HS1
    go_wp2_with fail
    go_ret
    exact HGV.o
   | some W =>
    obtain ⟨hk2l,p,s,rfl,hpl,hsl⟩:=HWT.o W rfl;obtain ⟨hlo,hst⟩:=HST.o _ rfl;obtain ⟨bw,ow,hA2,hc2⟩:=hst zd;subst hA2;have HBW:Hid (wr.heap.size≤bw):=hlo bw ow rfl;have c1':w1.cell? ⟨bw,ow+1,none⟩=some (.string (ofL p)):=hc2 1 zd;have c2':w1.cell? ⟨bw,ow+2,none⟩=some (.string (ofL s)):=hc2 2 zd;have HR:=zq (isRow_c (ofL p) w1 zr);rw [zAj] at HR
    have HF2:Hid (ans=if rowL p=true then match zDP s with
     | some (n,d)=>some ⟨ofL p,ofL n,ofL d⟩
     | none=>none else none):=HS1.o
    generalize rowL p=b at *;clear hc2 hst hlo HST HWT HS1
    go_wp2_with fail
    with_reducible refine HR.o.mono ?_
    rintro e w2 ⟨rfl,hb2⟩;have HB2:=zq (zAb HB1.o hb2);have c3:=zAh hb2 c1';have c4:=zAh hb2 c2';clear hb2 HR HB1 c1' c2'
    cases b with
    | false =>
     have HA:Hid (ans=none):=HF2.o;obtain ⟨A',c',rfl,hgv⟩:=HOUT.o w2 HA.o HB2.o;have HGV:=zq hgv;clear hgv HOUT HNO HYES HF2
     go_wp2_with fail
     go_ret
     exact HGV.o
    | true =>
     have HRR:=zq (readRatio_c (ofL s) w2 zr (((HG0.o.kept HK1.o hg hrw)).below HB2.o));obtain ⟨s1,s2,hv,hs⟩:=ratV_is (ofL s);rw [zAj] at hv hs;rw [hv] at HRR;have HS:=zq hs
     have HF3:Hid (ans=match zDP s with
      | some (n,d)=>some ⟨ofL p,ofL n,ofL d⟩
      | none=>none):=HF2.o
     clear hv hs HF2;obtain ⟨ok,hok⟩:∃ ok,ok=(zDP s).isSome:=⟨_,rfl⟩
     have HNK:Hid (ok=false→ans=none):=fun h=>by
      rw [hok] at h;rw [HF3.o]
      cases hx:zDP s with
      | none=>rfl
      | some _=>rw [hx] at h;cases h
     have HYK:Hid (ok=true→ans=some ⟨ofL p,s1,s2⟩):=fun h=>by
      rw [hok] at h;rw [HF3.o]
      cases hx:zDP s with
      | none=>rw [hx] at h;cases h
      | some x =>
       obtain ⟨e1,e2⟩:=HS.o x hx;rw [e1,e2]
     rw [←hok] at HRR;clear hok HS HF3
     go_wp2_with fail
     with_reducible refine HRR.o.mono ?_
     rintro e w3 ⟨rfl,hb3⟩;have hba:Below w3.heap.size w3 (w3.alloc (.cells #[.string s1,.string s2] 43)):=(bS _ _).alloc (aB _) _;have HX:Hid (Bx (w3.alloc (.cells #[.string s1,.string s2] 43)) w3.heap.size #[.string s1,.string s2] 43):=Bx.new _ _ _;have HB4:=zq (zAb (zAb HB2.o hb3) hba);have HB3S:Hid (wr.heap.size≤w3.heap.size):=cV HB2.o.size hb3.size;have c5:=zAh (zAb hb3 hba) c3;clear HRR HB2 c3 c4;go_upto_region 6 with fail
     obtain ⟨w4,hw4⟩:∃ w4,w4=w3.alloc (.cells #[.string s1,.string s2] 43):=⟨_,rfl⟩;rw [←hw4] at HX HB4 c5 ⊢;clear hw4 hba hb3
     cases ok with
     | false =>
      have HA:=zq (HNK.o rfl);obtain ⟨A',c',rfl,hgv⟩:=HOUT.o w4 HA.o HB4.o;have HGV:=zq hgv;clear hgv HOUT HNO HYES HNK HYK
      go_wp2_with fail
      go_ret
      exact HGV.o
     | true =>
      have HA:=zq (HYK.o rfl);have HN:=zq (HYES.o _ HA.o);have y0:=HX.o.c 0 rfl;have y1:=HX.o.c 1 rfl;have hsy:=HX.o.lt;have HO4:=zq (HO1.o.below HB4.o);have HI4:=zq (HI1.o.below HB4.o);have HK4:Hid (KeptB w.heap.size r w w4):=HK1.o.trans (KeptB.below (HB4.o.mono HK1.o.size));have hW4:w.heap.size≤w4.heap.size:=HK4.o.size;have HLA:Hid (∀ b o,LA=some ⟨b,o,none⟩→b<w.heap.size):=HI0.o.la;have hk2m:k2≤600000:=by have:=HI1.o.many;omega
      obtain ⟨o5,ho5⟩:∃ o5,o5=Obj.cells #[.string (ofL p),.string s1,.string s2] 110:=⟨_,rfl⟩
      have HFN:Hid (∀ w5,Below w.heap.size (w4.alloc o5).drew w5→RdI w5 r LA c L k2 false∧KeptB w.heap.size r w w5):=fun w5 hb=>by
       have hba2:Below w.heap.size w4 w5:=(zAc ((bS _ _).alloc hW4 _) 1).trans hb;exact ⟨HI4.o.taken hba2 hrw HLA.o,HK4.o.trans (KeptB.below hba2)⟩
      have KP:Hid (∀ w',Below w4.heap.size w4 w'→w'.cell? ⟨bw,ow+1,none⟩=some (.string (ofL p))∧w'.cell? ⟨w3.heap.size,0,none⟩=some (.string s1)∧w'.cell? ⟨w3.heap.size,1,none⟩=some (.string s2)):=fun w' hb=>⟨zAh hb c5,zAh hb y0,zAh hb y1⟩
      have KD:Hid (Below w4.heap.size w4 w4.drew):=zAc (bS _ _) 1;have KA:Hid (Below w4.heap.size w4 (w4.alloc o5)):=(bS _ _).alloc (aB _) _;have KB:Hid (Below w4.heap.size w4 (w4.alloc o5).drew):=zAc KA.out 1
      have KO:Hid (v.ownBlock≠some bw∧v.ownBlock≠some w3.heap.size):=by
       have hb:=bT HO1.o;have h1:wr.heap.size≤bw:=HBW.o;have h2:wr.heap.size≤w3.heap.size:=HB3S.o;exact ⟨fun e=>by have:=(hb _ e).2;omega,fun e=>by have:=(hb _ e).2;omega⟩
      rw [ho5] at HFN KA KB;have t1:Hid (zAF eShr 3 (w4.alloc (Obj.cells #[.string (ofL p),.string s1,.string s2] 110)).drew w.heap.size 110 v T):=(HO4.o.alloc _).below (zAc (bS _ _) 1);have t2:Hid ((w4.alloc (Obj.cells #[.string (ofL p),.string s1,.string s2] 110)).drew.heap[w4.heap.size]?=some (.cells #[.string (ofL p),.string s1,.string s2] 110 (0,0))):=cI w4 _;have t4:Hid (w.heap.size≤(w4.alloc (Obj.cells #[.string (ofL p),.string s1,.string s2] 110)).drew.heap.size):=cV hW4 KB.out.size;clear HOUT HNO HYES HNK HYK ho5;go_upto_region 7 with fail
      go_region_held3 (fun w'=>w'.cell? ⟨bw,ow+1,none⟩=some (.string (ofL p))∧w'.cell? ⟨w3.heap.size,0,none⟩=some (.string s1)∧w'.cell? ⟨w3.heap.size,1,none⟩=some (.string s2))
       (first | exact KP.out _ KD.out | exact KP.out _ KA.out | exact KP.out _ KB.out | (exact ⟨hg9.cell (KP.out _ KB.out).1 (Ne.symm KO.out.1),hg9.cell (KP.out _ KB.out).2.1 (Ne.symm KO.out.2),hg9.cell (KP.out _ KB.out).2.2 (Ne.symm KO.out.2)⟩) | fail)
       (first
        | ((refine zEa (k:=3) (enc:=eShr) rfl (.tmp 35) (.tmp 41) 45 rfl elShr w.heap.size v T rfl t1.out w4.heap.size 1 (⟨ofL p,s1,s2⟩:Sh) rfl t2.out rfl rfl (oneShr _) zt za t4.out ?_);intro g9 cap9 w9 ho9 hg9))
      obtain ⟨hi5,hk5⟩:=HFN.o _ ((bS _ _).grown hg9 t4.out (fun j hj=>(bT t1.out j hj).1))
      have z1:w9.cell? ⟨r,1,none⟩=some (.int .i64 (k2:Int)):=hi5.bx.c 1 rfl;have hr5:=hi5.bx.lt;have hf5:=hi5.bx.frozen;have HI6:=zq (hi5.setk (k':=k2+1) hk2l);have HO6:Hid (zAF eShr 3 (w9.setCell ⟨r,1,none⟩ (.int .i64 ((k2+1:Nat):Int))) w.heap.size 110 (.slice (some ⟨g9,0,none⟩) (T.length+1) cap9) (T++[⟨ofL p,s1,s2⟩])):=ho9.grown (zAn _ _ _) (zAR ho9 hrw);have HK6:Hid (KeptB w.heap.size r w (w9.setCell ⟨r,1,none⟩ (.int .i64 ((k2+1:Nat):Int)))):=hk5.trans (KeptB.grown (zAn _ _ _) hk5.size);have HBX:=zq (HI6.o.le);clear hi5 hk5 ho9 hg9 t1 t2 t4 HFN KP KD KA KB KO HO4 HI4 HK4 y0 y1 hsy c5 HO1 HI1 x2 hrs
      go_wp2_with fail
      have ek:((k2:Int)+1)=((k2+1:Nat):Int):=za;rw [ek]
      go_roundg (gk - 1)
      case measure=>have:=HM1.o;have:=HK2E.o;have:=HBX.o;omega
      case rel=>exact ⟨T++[⟨ofL p,s1,s2⟩],_,rfl,HO6.o,by rw [cY,←bZ,←HK2E.o];exact HI6.o,HK6.o,by rw [cY,←bZ,←HK2E.o];exact HN.o,by have:=HM1.o;have:=HK2E.o;have:=HBX.o;simp;omega⟩
end Go.Proofs.YtoaelidmmcbkfaaGreatDoor
