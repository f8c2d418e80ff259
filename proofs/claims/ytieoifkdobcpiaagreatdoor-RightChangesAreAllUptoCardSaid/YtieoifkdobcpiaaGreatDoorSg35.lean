/- Parts of the proof, joined: Package right: Controls. Package right: parts: list; Shares. Plain fac. -/
import Derived.Test.YtieoifkdobcpiaaGreatDoorSg34
import Derived.Deep.Upon
import Derived.Ground.SlgnProg
import Derived.Shelf.SlicesG.CompactI
set_option maxRecDepth 100000
set_option maxHeartbeats 8000000
namespace Go.Proofs.YtieoifkdobcpiaaGreatDoor
open Go.RowKit Dw
theorem short_of {rs:List Rg} {us:List BA} {ds:List De} (h:zBt rs us ds=0):∀ d∈ds,d.ar.length≤100∧d.us.length≤20:=fun d hd=>by
 obtain ⟨k,hk,rfl⟩:=dH hd;have:=chkD_lens ((zBi h).2 k hk) (zBi h).1;exact ⟨this.1,this.2.1⟩
theorem strs2 (W:World) (a b:BA):Strs (W.alloc (.cells #[.string a,.string b] 9)) (some ⟨W.heap.size,0,none⟩) [a,b]:=fun _=>⟨W.heap.size,0,rfl,fun i hi=>by
 rw [aK,aL _ W.heap.size i _ _ _ (bZ _ _)]
 match i,hi with
 | 0,_=>rfl
 | 1,_=>rfl⟩
abbrev eSr:Sh→List Value:=fun x=>[.string x.pt,.string x.nu,.string x.de]
theorem elSr:ElemT Tryz.prog 33 42 (.agg #[.string ⟨#[]⟩,.string ⟨#[]⟩,.string ⟨#[]⟩]) 3 48:=⟨Tryz.underlying33,zb,rfl,zc⟩
theorem oneSr (x:Sh):∀ u∈eSr x,u.oneCell'=true:=zx
theorem own_shs {w:World} {b:Nat} {v:Value} {l:List Sh} (h:zAE eSr 3 w b 42 v l):∃ A c,v = .slice A l.length c∧Shs w A l:=by
 obtain ⟨A,c,e,hr⟩:=h.rdk;refine ⟨A,c,e,fun hl=>?_⟩
 obtain ⟨b,o,e2,hc⟩:=hr hl;refine ⟨b,o,e2,fun i hi=>?_⟩
 have key:=flat_at (k:=3) (enc:=eSr) (fun _=>rfl) l i hi
 refine ⟨?_,?_,?_⟩
 ·have:=hc (i*3+0) _ (key 0 za)
  exact this
 ·have:=hc (i*3+1) _ (key 1 za)
  rw [←Nat.add_assoc] at this;exact this
 ·have:=hc (i*3+2) _ (key 2 za)
  rw [←Nat.add_assoc] at this;exact this
def shO (x:BA×Rat):Sh:=⟨x.1,(outQ x.2).1,(outQ x.2).2⟩
def GivesSh (l:List Sh) (w:World) (e:Ending) (w':World):Prop:=∃ A c,e = .returned (.slice A l.length c)∧Shs w' A l∧Below w.heap.size w w'
def LiSR (W:World) (f:zBa) (P:List BA) (m:Nat) (ov iv:Value) (wr:World):Prop :=
 ∃ (j:Nat) (v:Value),v=ov∧j+m=P.length∧iv = .int .i64 (j:Int)∧zAE eSr 3 wr W.heap.size 42 v ((P.take j).map fun p=>shO (p,f p))∧Below W.heap.size W wr
theorem take_map_snoc (f:zBa) {P:List BA} {j:Nat} (h:j<P.length):((P.take (j+1)).map fun p=>shO (p,f p))=((P.take j).map fun p=>shO (p,f p))++[shO (P[j],f P[j])]:=by
 rw [bF h,eE];rfl
theorem list_c (g:Nat) (K:List BA) (f:zBa) (w:World) (hp:zAw w g f) (hk:IncN K) (hh:HoldOk K f) (hlen:K.length≤1000000) (hsz:∀ p,SzQ 10000000 (f p)) :
  Calls Tryz.prog 31 #[.map (some g)] w (GivesSh ((pairs (holL K f) f).map shO) w):=by
 have HPC:=zq (parties_c g K f w hp hk hh hlen);have HPM:=zq hp;have hPl:(holL K f).length≤1000000:=cU (dK _ _) hlen;have HPN:Hid (∀ p∈holL K f,f p≠0):=fun p hpm=>(holL_mem hh).1 hpm
 have HPA:Hid ((pairs (holL K f) f).map shO=(holL K f).map fun p=>shO (p,f p)):=by show _=_;unfold pairs;rw [List.map_map];rfl
 have HSZ:=zq hsz;rw [HPA.o];generalize holL K f=P at *;clear hp hk hh hsz HPA hlen
 go_enter Tryz.func31,Tryz.ntmps31
 go_wp2_with fail
 with_reducible refine HPC.o.mono ?_
 rintro e W ⟨A,c,rfl,hst,hb⟩;have HST:=zq hst;have HB:=zq hb;have HPW:=zq (HPM.o.below hb);clear hst hb HPC HPM;go_wp2
 go_loopg [3,11] P.length (LiSR W f P)
 case atStart=>exact ⟨0,_,rfl,za,rfl,zAE.nil _ _ _ _ _,aN _ _⟩
 case round =>
  obtain ⟨j,v,rfl,hjm,rfl,how,hb⟩:=hrel;have HJ:=zq hjm;have HOW:=zq how;have HBW:=zq hb;clear hjm how hb
  by_cases hlt:j<P.length
  ·obtain ⟨b,o,hA,hb0,hc0⟩:=(HST.o.below HBW.o).at_ za
   subst hA;have hc:=hc0 j hlt;have HTS:=zq (take_map_snoc f hlt);have hne:=HPN.o _ (aJ hlt);have hol:((P.take j).map fun p=>shO (p,f p)).length≤1000000:=ze
   generalize P[j]=p at *;obtain ⟨F,hF,hFp⟩:=(HPW.o.below HBW.o).is;have hlk:=zAn tMapP kStr zRatV hF p false
   rcases hFp p with ⟨h0,_⟩ | ⟨_,vv,hN,A3,c3,A4,c4,rfl,h3,h4⟩
   ·exact absurd h0 hne
   rw [hN] at hlk;simp only [eD,dO,eB] at hlk
   have HRT:Hid (Calls Tryz.prog 74 #[raV false A3 c3 (f p).num.natAbs A4 c4 (f p).den,.int .i64 1099511627776] wr (zAe (raOut (f p).num.natAbs (f p).den 1099511627776) wr)) :=
    Ratio_c A3 A4 c3 c4 (f p).num.natAbs (f p).den 1099511627776 wr h3 h4 (cU (HSZ.o p).1.1 za) (cU (HSZ.o p).2.1 za)
   have hro:raOut (f p).num.natAbs (f p).den 1099511627776 = .tuple #[.agg #[.string (digB (f p).num.natAbs),.string (digB (f p).den)],.bool true]:=by
    have z1:=digB_len (HSZ.o p).1.1;have z2:=digB_len (HSZ.o p).2.1;unfold raOut tooB;rw [cN za,cN za]
    rfl
   rw [hro] at HRT;have HSH:Hid (shO (p,f p)=⟨p,digB (f p).num.natAbs,digB (f p).den⟩):=rfl;rw [HSH.o] at HTS;generalize digB (f p).num.natAbs=sn at *;generalize digB (f p).den=sd at *;clear hc0 hF hFp hN h3 h4 hro hne
   go_wp2_with fail
   with_reducible refine HRT.o.mono ?_
   rintro e w3 ⟨rfl,hb3⟩;have hb4:=zAa hb3 (ba w3 (.cells #[.string sn,.string sd] 40));have HO4:=zq (HOW.o.below hb4);have HB4:=zq (zAa HBW.o hb4);have hW4:W.heap.size≤(w3.alloc (.cells #[.string sn,.string sd] 40)).heap.size:=HB4.o.size;clear hb3 hb4 hc hlk HRT;obtain ⟨lo,hlo⟩:∃ lo,lo=(P.take j).map fun p=>shO (p,f p):=⟨_,rfl⟩
   rw [←hlo] at HO4 HTS hol;clear hlo HOW;go_upto_region 6 with fail
   obtain ⟨w4,hw4⟩:∃ w4,w4=w3.alloc (.cells #[.string sn,.string sd] 40):=⟨_,rfl⟩;have HY:Hid (Bx (w3.alloc (.cells #[.string sn,.string sd] 40)) w3.heap.size #[.string sn,.string sd] 40):=Bx.new _ _ _;rw [←hw4] at HY HO4 HB4 hW4 ⊢;clear hw4;have y0:=HY.o.c 0 rfl;have y1:=HY.o.c 1 rfl;have hsy:=HY.o.lt
   go_wp2_with (at_builtin;refine zBX _ _ _ elSr rfl rfl W.heap.size v lo rfl (HO4.o.alloc _) w4.heap.size 1 (⟨p,sn,sd⟩:Sh) rfl (bZ _ _) rfl (oneSr _) zm za ze ?_;intro v1 w5 hown5 hg5 hb5)
   have HO5:Hid (zAE eSr 3 w5 W.heap.size 42 v1 ((P.take (j+1)).map fun p=>shO (p,f p))):=by show zAE _ _ _ _ _ _ _;rw [HTS.o];exact hown5
   have HB5:=zq ((HB4.o.alloc hW4 _).trans hb5);clear hown5 hg5 hb5 y0 y1 hsy;go_wp2
   go_roundg (gk - 1)
   case measure=>have:=HJ.o;omega
   case rel=>exact ⟨j+1,_,rfl,zt,zi,HO5.o,HB5.o⟩
  ·have hje:j=P.length:=by have:=HJ.o;omega
   have HO:Hid (zAE eSr 3 wr W.heap.size 42 v (P.map fun p=>shO (p,f p))):=by
    have:=HOW.o;rw [hje,bO] at this;exact this
   obtain ⟨A5,c5,rfl,hs5⟩:=own_shs HO.o;have HS5:=zq hs5;clear hs5;go_wp2;go_ret
   exact ⟨A5,c5,rfl,HS5.o,zAa HB.o HBW.o⟩
def GivesSr (p:List (BA×Rat)×Int) (w:World) (e:Ending) (w':World):Prop:=∃ A c,e = .returned (.tuple #[.slice A (p.1.map shO).length c,.int .i64 p.2])∧Shs w' A (p.1.map shO)∧Below w.heap.size w w'
theorem GivesSr.no {w w':World} {n:Int} (hb:Below w.heap.size w w'):GivesSr ([],n) w (.returned (.tuple #[.slice none 0 0,.int .i64 n])) w':=⟨none,0,rfl,(fun h=>absurd h zd),hb⟩
section
variable {rs:List Rg} {us:List BA} {ds:List De} {th pl use:BA} {day:Int}
theorem srF_chk (h:zBt rs us ds≠0):zBe rs us ds th pl use day=([],zBt rs us ds):=by unfold zBe;rw [aF h]
theorem srF_nm (h:zBt rs us ds=0) (h2:zAT th=false):zBe rs us ds th pl use day=([],5):=by
 unfold zBe;rw [aD (show ¬ (zBt rs us ds≠0) by rw [h];simp),aF h2]
theorem srF_sp (h:zBt rs us ds=0) (h2:zAT th=true) (h3:zBz rs us pl use day≠0):zBe rs us ds th pl use day=([],zBz rs us pl use day):=by
 unfold zBe;rw [aD (show ¬ (zBt rs us ds≠0) by rw [h];simp),aD (show ¬ (zAT th=false) by rw [h2];simp)]
 unfold zBz at h3 ⊢
 split
 ·rfl
 ·next h4 =>
  rw [aD h4] at h3
  split
  ·rfl
  ·next h5=>rw [aD h5] at h3;exact absurd rfl h3
theorem srF_at (h:zBt rs us ds=0) (h2:zAT th=true) (h3:zBz rs us pl use day=0):zBe rs us ds th pl use day=if zBM rs ds ((idx rs pl).getD 0) th use day ds.length=true then ([],2)
  else (pairs (holL (zBr rs ds ((idx rs pl).getD 0) th use day ds.length) (zAp rs ds ((idx rs pl).getD 0) th use day ds.length)) (zAp rs ds ((idx rs pl).getD 0) th use day ds.length),0):=by
 unfold zBe;rw [aD (show ¬ (zBt rs us ds≠0) by rw [h];simp),aD (show ¬ (zAT th=false) by rw [h2];simp)]
 unfold zBz at h3
 split
 ·next h4=>rw [aF h4] at h3;cases h3
 ·next h4 =>
  rw [aD h4] at h3
  split
  ·next h5=>rw [aF h5] at h3;cases h3
  ·rfl
end
theorem insN_len (p:BA):∀ l:List BA,(insN p l).length≤l.length+1
 | []=>by simp [insN]
 | a::l=>by
  unfold insN;have:=insN_len p l
  split
  ·simp
  ·split
   ·simp
   ·simp;omega
theorem keysAll_len:∀ (l:List Sh) (K:List BA),(keysAll l K).length≤K.length+l.length
 | [],_=>aC _
 | s::l,K=>by
  have h1:=keysAll_len l (insN s.pt K);have h2:=insN_len s.pt K
  show (keysAll l (insN s.pt K)).length≤_
  simp only [aR];omega
theorem keys_len {rs:List Rg} {us:List BA} {ds:List De} (h:zBt rs us ds=0) (i:Nat) (th use:BA) (day:Int) (n:Nat) (hn:n≤ds.length):(zBr rs ds i th use day n).length≤1000000:=by
 have hsl:∀ d∈ds,d.sh.length≤20:=fun d hd=>by
  obtain ⟨k,hk,rfl⟩:=dH hd;exact (chkD_lens ((zBi h).2 k hk) (zBi h).1).2.2
 have hdl:=(zBP h).2.2
 have h1:∀ (l:List De) (K:List BA),(∀ d∈l,d∈ds)→(l.foldl (zBg th day) K).length≤K.length+20*l.length:=fun l=>by
  induction l with
  | nil=>exact fun K _=>cX _ _
  | cons d l ih =>
   intro K hd;have a:=ih (zBg th day K d) fun e he=>hd e (aP _ he)
   have b:(zBg th day K d).length≤K.length+20:=by
    unfold zBg
    split
    ·have:=keysAll_len d.sh K
     have:=hsl d (hd d aQ);omega
    ·omega
   show (l.foldl (zBg th day) (zBg th day K d)).length≤_
   rw [aR];omega
 have h2:∀ (l:List De) (K:List BA),(∀ d∈l,d∈ds)→(l.foldl (zAO (zCO rs ds i th use day)) K).length≤K.length+22*l.length:=fun l=>by
  induction l with
  | nil=>exact fun K _=>cX _ _
  | cons d l ih =>
   intro K hd;have a:=ih (zAO (zCO rs ds i th use day) K d) fun e he=>hd e (aP _ he)
   have b:(zAO (zCO rs ds i th use day) K d).length≤K.length+22:=by
    unfold zAO zAG
    split
    ·split
     ·have h3:=keysAll_len d.sh (insN d.fr K)
      have h4:=insN_len d.fr K;have:=hsl d (hd d aQ);omega
     ·have h3:=insN_len d.to_ (insN d.fr K)
      have h4:=insN_len d.fr K;omega
    ·omega
   show (l.foldl (zAO _) (zAO _ K d)).length≤_
   rw [aR];omega
 have e1:=h2 (ds.take n) (zDc th day ds) fun d hd=>bR hd
 have e2:=h1 ds [] fun d hd=>hd
 have e3:(ds.take n).length≤200:=by rw [bG];omega
 have e4:(zDc th day ds).length≤0+20*ds.length:=e2;unfold zBr;omega
theorem strs1 (W:World) (a:BA):Strs (W.alloc (.cells #[.string a] 9)) (some ⟨W.heap.size,0,none⟩) [a]:=fun _=>⟨W.heap.size,0,rfl,fun i hi=>by
 rw [aK,aL _ W.heap.size i _ _ _ (bZ _ _)]
 match i,hi with
 | 0,_=>rfl⟩
theorem Shares_c (RA:Option Addr) (rc:Nat) (rs:List Rg) (UA:Option Addr) (uc:Nat) (us:List BA) (DA:Option Addr) (dc:Nat) (ds:List De) (th pl use:BA) (day:Int) (w:World)
  (hr:Rgs w RA rs) (hu:Strs w UA us) (hd:Des w DA ds) (hz:∀ i (h:i<rs.length),(rs[i]).nm.size≤9223372036854775807) (hz2:∀ i (h:i<us.length),(us[i]).size≤9223372036854775807) (hdc:ds.length≤dc)
  (hth:th.size≤9223372036854775807) :
  Calls Tryz.prog 11 #[.agg (tiC RA rc rs UA uc us DA dc ds),.string th,.string pl,.string use,.int .i64 day] w (GivesSr (zBe rs us ds th pl use day) w):=by
 generalize hres:zBe rs us ds th pl use day=res;have HR:=zq hres;clear hres;have HX:Hid (Bx (w.alloc (.cells (tiC RA rc rs UA uc us DA dc ds) 26)) w.heap.size (tiC RA rc rs UA uc us DA dc ds) 26):=Bx.new _ _ _;have HB:Hid (Below w.heap.size w (w.alloc (.cells (tiC RA rc rs UA uc us DA dc ds) 26))):=(aN _ _).alloc (aC _) _;obtain ⟨W,hW⟩:∃ W,W=w.alloc (.cells (tiC RA rc rs UA uc us DA dc ds) 26):=⟨_,rfl⟩;rw [←hW] at HX HB;have hba:Below W.heap.size W (W.alloc (.cells #[.string th] 9)):=(aN _ _).alloc (aC _) _;have hbb:Below w.heap.size w (W.alloc (.cells #[.string th] 9)):=zAa HB.o hba;have HX1:=zq (HX.o.below hba)
 have HOP:Hid (Calls Tryz.prog 24 #[.agg (tiC RA rc rs UA uc us DA dc ds),.slice (some ⟨W.heap.size,0,none⟩) 1 1] (W.alloc (.cells #[.string th] 9)) (GivesOp (zCA rs us ds [th]) RA rc rs UA uc us DA dc ds (W.alloc (.cells #[.string th] 9)))) :=
  open_c RA rc rs UA uc us DA dc ds (some ⟨W.heap.size,0,none⟩) 1 [th] _ (hr.below hbb) (hu.below hbb) (hd.below hbb) hz hz2 (strs1 W th) (fun i h=>by
   match i,h with
   | 0,_=>exact hth) zd hdc
 have HBB:=zq hbb;have HDw:=zq hd;have HUw:=zq hu;clear hr hu hd hba hbb
 go_enter Tryz.func11,Tryz.ntmps11
 go_upto_region 1 with fail
 rw [←hW];clear hW
 iterate 2 go_step
 refine eW _ _ zj w.heap.size 0 zj (tiC RA rc rs UA uc us DA dc ds).toList _ (zDh HX.o) Tryz.underlying26 rfl zb ?_
 go_wp2_with fail
 with_reducible refine HOP.o.mono ?_
 rintro e w1 ⟨P,rfl,hb1,hp0,hp1⟩;have HB1:=zq (zAa HBB.o hb1);have HX2:=zq (HX1.o.below hb1);have HP0:=zq hp0;have HP1:=zq hp1;clear hb1 hp0 hp1 HOP HX HX1 HB HBB
 by_cases hc:zBt rs us ds=0
 case neg =>
  have hof:zCA rs us ds [th]=zBt rs us ds:=by unfold zCA;rw [aF hc]
  have hcb:(zBt rs us ds != 0)=true:=by simpa using hc
  have HS:Hid (res=([],zBt rs us ds)):=by show _=_;rw [←HR.o,srF_chk hc]
  rw [hof];clear hc hof HP0 HP1;go_wp2;go_ret2
  rw [HS.o];exact GivesSr.no HB1.o
 cases hnm:zAT th with
 | false =>
  have hof:zCA rs us ds [th]=5:=by
   unfold zCA;rw [aD (show ¬ (zBt rs us ds≠0) by rw [hc];simp),aD]
   simpa using hnm
  have HS:Hid (res=([],5)):=by show _=_;rw [←HR.o,srF_nm hc hnm]
  rw [hof];clear hc hof HP0 HP1 hnm;go_wp2;go_ret2
  rw [HS.o];exact GivesSr.no HB1.o
 | true =>
  have hof:zCA rs us ds [th]=0:=by
   unfold zCA;rw [aD (show ¬ (zBt rs us ds≠0) by rw [hc];simp),aF]
   simpa using hnm
  have HC:=zq hc;have HNM:=zq hnm;rw [hof];obtain ⟨L,rfl,hlg⟩:=HP1.o hof;obtain ⟨hcr,hul,hdl⟩:=zBP HC.o;have HSC:=zq (spot_c RA rc rs UA uc us DA dc ds L pl use day w1 (good_of hcr) hlg (HUw.o.below HB1.o) hul);have HLG:=zq hlg;clear hc hnm hof HP0 HP1 hlg hcr
  go_wp2_with fail
  with_reducible refine HSC.o.mono ?_
  rintro e w2 ⟨hb2,hsp⟩;have HB2:=zq (zAa HB1.o hb2);have HL2:=zq (HLG.o.below hb2);have HX3:=zq (HX2.o.below hb2);clear hb2 HSC HLG HB1 HX2
  rcases hsp with ⟨hs0,rfl⟩ | ⟨hs0,n,hn,rfl⟩
  ·have HS:Hid (res=([],zBz rs us pl use day)):=by show _=_;rw [←HR.o,srF_sp HC.o HNM.o hs0]
   have hcb:(zBz rs us pl use day != 0)=true:=by simpa using hs0
   have hba:Below w2.heap.size w2 (w2.alloc (.cells zSpot 76)):=(aN _ _).alloc (aC _) _;have HB3:=zq (zAa HB2.o hba);clear hs0 hba;go_wp2;go_ret2
   rw [HS.o];exact GivesSr.no HB3.o
  ·have HS:=zq (srF_at HC.o HNM.o hs0)
   rw [HR.o] at HS;have hba:Below w2.heap.size w2 (w2.alloc (.cells (zCP n use day) 76)):=(aN _ _).alloc (aC _) _;have HX4:Hid (Bx (w2.alloc (.cells (zCP n use day) 76)) w2.heap.size (zCP n use day) 76):=Bx.new _ _ _;have HL3:=zq (HL2.o.below hba);have HB3:=zq (zAa HB2.o hba);have HX5:=zq (HX3.o.below hba);obtain ⟨w3,hw3⟩:∃ w3,w3=w2.alloc (.cells (zCP n use day) 76):=⟨_,rfl⟩;rw [←hw3] at HX4 HL3 HB3 HX5;obtain ⟨i,hi⟩:∃ i,i=(idx rs pl).getD 0:=⟨_,rfl⟩;rw [←hi] at HS hn;have HPT:=zq (parts_c RA rc rs UA uc us DA dc ds L n i ds.length use day th true w3 HL3.o (HDw.o.below HB3.o) HC.o hn (aC _) hdc (fun d hd=>cU (short_of HC.o d hd).2 zc))
   rw [Bool.true_and] at HPT;have HKS:=zq (zBC HC.o i th use day ds.length);have HKL:=zq (keys_len HC.o i th use day ds.length (aC _));have HPZ:=zq (fun p=>parts_sz HC.o i th use day ds.length (aC _) p)
   clear hs0 hba hn hi;go_upto_region 7 with fail
   rw [←hw3];clear hw3 HL2 HB2 HX3;obtain ⟨x0,x1,x2⟩:=HX4.o.t;have hsx:=HX4.o.lt;have t2:=HX5.o.c 2 rfl;have hst:=HX5.o.lt
   go_wp2_with fail
   with_reducible refine HPT.o.mono ?_
   rintro e w4 ⟨hb4,hbad,hok⟩;have HB4:=zq (zAa HB3.o hb4);clear hb4 x0 x1 x2 hsx t2 hst
   cases hlo:zBM rs ds i th use day ds.length with
   | true =>
    have he:=hbad hlo;subst he;have HS2:Hid (res=([],2)):=by show _=_;rw [HS.o,aF hlo]
    clear hlo hbad hok;go_wp2;go_ret2
    rw [HS2.o];exact GivesSr.no HB4.o
   | false =>
    obtain ⟨g,rfl,hpm⟩:=hok hlo;have HS2:Hid (res=(pairs (holL (zBr rs ds i th use day ds.length) (zAp rs ds i th use day ds.length)) (zAp rs ds i th use day ds.length),0)):=by show _=_;rw [HS.o,aD (by rw [hlo];simp)]
    have HLC:=zq (list_c g _ _ w4 hpm HKS.o.1 HKS.o.2.1 HKL.o HPZ.o);clear hlo hbad hok hpm
    go_wp2_with fail
    with_reducible refine HLC.o.mono ?_
    rintro e w5 ⟨A5,c5,rfl,hs5,hb5⟩;have HB5:=zq (zAa HB4.o hb5);have HS5:=zq hs5;clear hb5 hs5;go_wp2;go_ret2
    rw [HS2.o];exact ⟨A5,c5,(by rw [cW];rfl),HS5.o,HB5.o⟩
theorem sumF_den {f:zBa} {M:Nat} (hM:M≠0) (h:∀ p,(f p).den∣M):∀ N:List BA,(zCi N f).den∣M
 | []=>Nat.one_dvd _
 | p::N=>den_add hM (h p) (sumF_den hM h N)
def scanD (party:BA) (d:De) (G:List BA):Option (List BA):=if d.to_=party then none else some (if (d.sb&&!memS G d.to_)=true then G++[d.to_] else G)
def scanL (P:De→Bool) (party:BA):List De→List BA→Option (List BA)
 | [],G=>some G
 | d::l,G=>if P d=true then match scanD party d G with
  | none=>none
  | some G'=>scanL P party l G' else scanL P party l G
def scanF (party:BA):List De→List BA→Option (List BA)
 | [],G=>some G
 | d::l,G=>match scanD party d G with
  | none=>none
  | some G'=>scanF party l G'
theorem scanL_filter (P:De→Bool) (party:BA):∀ (l:List De) (G:List BA),scanL P party l G=scanF party (l.filter P) G
 | [],_=>rfl
 | d::l,G=>by
  by_cases h:P d=true
  ·rw [scanL,aF h,List.filter_cons_of_pos h,scanF]
   cases scanD party d G with
   | none=>rfl
   | some G'=>exact scanL_filter P party l G'
  ·rw [scanL,aD h,eG h]
   exact scanL_filter P party l G
theorem lic_filter (P:De→Bool):∀ (ds:List De) (n:Nat),n≤ds.length→((List.range n).filter fun j=>P (ds.getD j default)).map (fun j=>ds.getD j default)=(ds.take n).filter P
 | _,0,_=>zd
 | ds,n+1,h=>by
  have ih:=lic_filter P ds n za;have e:ds.getD n default=ds[n]:=by rw [List.getD_eq_getElem?_getD,List.getElem?_eq_getElem za,eB]
  rw [dI,dJ,eE,ih,bF za,dJ]
  congr 1
  by_cases hp:P ds[n]=true
  ·rw [List.filter_cons_of_pos (by rw [e];exact hp),List.filter_cons_of_pos hp]
   show [ds.getD n default]=[ds[n]]
   rw [e]
  ·rw [eG (by rw [e];exact hp),eG hp];simp
theorem lic_at {P:De→Bool} {ds:List De} {q:Nat} (h:q<(licL ds P ds.length).length):∃ (k:Nat) (hk:k<ds.length) (h2:q<(ds.filter P).length),(licL ds P ds.length)[q]=(k:Int)∧(ds.filter P)[q]=ds[k]:=by
 have hf:=lic_filter P ds ds.length (aC _);rw [bO] at hf;unfold licL at h ⊢;rw [cW] at h;have h2:q<(ds.filter P).length:=by rw [←hf,cW];exact h
 obtain ⟨k,hk⟩:∃ k,k=((List.range ds.length).filter fun j=>P (ds.getD j default))[q]:=⟨_,rfl⟩
 have hkr:k<ds.length:=by
  have:=aJ h;rw [←hk] at this;exact List.mem_range.1 (List.mem_filter.1 this).1
 refine ⟨k,hkr,h2,by rw [List.getElem_map,←hk],?_⟩
 have e:(ds.filter P)[q]=ds.getD k default:=by
  simp only [←hf,List.getElem_map];rw [hk]
 rw [e,List.getD_eq_getElem?_getD,List.getElem?_eq_getElem hkr,eB]
theorem lic_len {P:De→Bool} {ds:List De}:(licL ds P ds.length).length=(ds.filter P).length:=by
 have hf:=lic_filter P ds ds.length (aC _);rw [bO] at hf;rw [←hf,cW];unfold licL;rw [cW]
theorem scanF_hit {party:BA} {G:List BA} {d:De} {l:List De} (ht:d.to_=party):scanF party (d::l) G=none:=by
 rw [scanF];unfold scanD;rw [aF ht]
theorem scanF_new {party:BA} {G:List BA} {d:De} {l:List De} (ht:d.to_≠party) (hs:d.sb=true) (hm:memS G d.to_=false):scanF party (d::l) G=scanF party l (G++[d.to_]):=by
 rw [scanF];unfold scanD;rw [aD ht,aF (by rw [hs,hm];rfl)]
theorem scanF_old {party:BA} {G:List BA} {d:De} {l:List De} (ht:d.to_≠party) (hs:(d.sb&&!memS G d.to_)=false):scanF party (d::l) G=scanF party l G:=by
 rw [scanF];unfold scanD;rw [aD ht,aD (by rw [hs];simp)]
def mayN (ds:List De) (Q:BA→De→Bool) (party:BA):Nat→Nat→List BA→Bool
 | 0,_,_=>false
 | f+1,i,G=>match G[i]? with
  | none=>false
  | some g=>match scanL (Q g) party ds G with
   | none=>true
   | some G'=>mayN ds Q party f (i+1) G'
def mayF (rs:List Rg) (ds:List De) (i:Nat) (use:BA) (day:Int) (th party ho:BA):Bool :=
 if ctlF rs ds i use day th ho=party then true else mayN ds (fun g=>zCC rs ds i use day th g false) party (ds.length+2) 0 [ctlF rs ds i use day th ho]
structure Giv (ps G:List BA):Prop where
 nd:G.Nodup
 sub:∀ g∈G,g∈ps
theorem Giv.len {ps G:List BA} (h:Giv ps G):G.length≤ps.length:=nodup_len h.nd h.sub
theorem Giv.one {ps:List BA} {p:BA} (h:p∈ps):Giv ps [p]:=⟨zd,fun g hg=>by rw [List.mem_singleton.1 hg];exact h⟩
theorem Giv.add {ps G:List BA} {p:BA} (h:Giv ps G) (hp:p∈ps) (hm:memS G p=false):Giv ps (G++[p]):=by
 refine ⟨?_,fun g hg=>?_⟩
 ·rw [List.nodup_append]
  exact ⟨h.nd,zd,fun a ha b hb=>by rw [List.mem_singleton.1 hb];exact fun e=>memS_false.1 hm (by rw [←e];exact ha)⟩
 ·rcases List.mem_append.1 hg with hg | hg
  ·exact h.sub g hg
  ·rw [List.mem_singleton.1 hg];exact hp
theorem mayN_end {ds:List De} {Q:BA→De→Bool} {party:BA} {f i:Nat} {G:List BA} (h:G.length≤i):mayN ds Q party f i G=false:=by
 cases f with
 | zero=>rfl
 | succ f=>rw [mayN,List.getElem?_eq_none h]
theorem mayN_yes {ds:List De} {Q:BA→De→Bool} {party:BA} {f i:Nat} {G:List BA} (h:i<G.length) (hs:scanL (Q G[i]) party ds G=none):mayN ds Q party (f+1) i G=true:=by
 rw [mayN,List.getElem?_eq_getElem h];simp only [hs]
theorem mayN_next {ds:List De} {Q:BA→De→Bool} {party:BA} {f i:Nat} {G G':List BA} (h:i<G.length) (hs:scanL (Q G[i]) party ds G=some G'):mayN ds Q party (f+1) i G=mayN ds Q party f (i+1) G':=by
 rw [mayN,List.getElem?_eq_getElem h];simp only [hs]
theorem ctlN_mem {nx:BA→Option BA} {ps:List BA} (hq:∀ p q,nx p=some q→q∈ps):∀ (f:Nat) (seen:List BA) (p:BA),p∈ps→ctlN nx f seen p∈ps
 | 0,_,_,h=>h
 | f+1,seen,p,h=>by
  unfold ctlN
  split
  ·exact h
  ·split
   ·exact h
   ·next q hx=>exact ctlN_mem hq f (p::seen) q (hq p q hx)
theorem ctlF_mem {rs:List Rg} {ds:List De} {i:Nat} {use:BA} {day:Int} {th ho:BA}:ctlF rs ds i use day th ho∈ho::ds.map De.to_ :=
 ctlN_mem (fun _ _ h=>nextP_mem h) _ _ _ aQ
theorem to_mem {ds:List De} {d:De} (h:d∈ds) (ho:BA):d.to_∈ho::ds.map De.to_:=aP _ (eN h)
def mayW (rs:List Rg) (ds:List De) (i:Nat) (th party use:BA) (day:Int):Bool :=
 decide (orgSum th day ds=1)&&(holL (zBr rs ds i th use day ds.length) (zAp rs ds i th use day ds.length)).all fun h=>mayF rs ds i use day th party h
def mayA (rs:List Rg) (us:List BA) (ds:List De) (th party pl use:BA) (day:Int):Bool×Int :=
 if zBt rs us ds≠0 then (false,zBt rs us ds) else if (zAT th&&zAT party)=false then (false,5) else if (leafB rs pl&&memS us use)=false then (false,5) else if zCM day=false then (false,1)
 else if zBM rs ds ((idx rs pl).getD 0) th use day ds.length=true then (false,2) else (mayW rs ds ((idx rs pl).getD 0) th party use day,0)
def zCj (th:BA) (d:De):Bool:=decide (d.kd=5) || (decide (d.th=th)&&!decide (d.kd=4))
def edgeL (ds:List De) (d:De):List Int:=if zAj d.kd=true then [(zBS ds d).1,(zBS ds d).2] else [d.bg]
def edgeB (th:BA) (ds:List De) (day:Int):Bool:=ds.any fun d=>zCj th d&&(edgeL ds d).any fun n=>decide (n=day)
section
variable {rs:List Rg} {ds:List De} {i k:Nat} {th use:BA} {day:Int} {d:De}
theorem edgeB_no (h:edgeB th ds day=false) (hd:d∈ds) (hc:zCj th d=true):∀ n∈edgeL ds d,n≠day:=fun n hn e=>by
 unfold edgeB at h;rw [List.any_eq_false] at h;have:=h d hd;rw [hc,Bool.true_and] at this;exact this (List.any_eq_true.2 ⟨n,hn,cM e⟩)
theorem vB_day (hg:zAj d.kd=true) (h:∀ n∈edgeL ds d,n≠day):vB rs ds i use (day - 1) d=vB rs ds i use day d:=by
 unfold edgeL at h;rw [aF hg] at h;have h1:=h (zBS ds d).1 zd;have h2:=h (zBS ds d).2 zd;unfold vB;have e1:decide ((zBS ds d).1≤day - 1)=decide ((zBS ds d).1≤day):=by rw [aA,eU,eU];omega
 have e2:decide (day - 1<(zBS ds d).2)=decide (day<(zBS ds d).2):=by rw [aA,eU,eU];omega
 rw [e1,e2]
theorem bg_day (hg:zAj d.kd=false) (h:∀ n∈edgeL ds d,n≠day):decide (d.bg≤day - 1)=decide (d.bg≤day):=by
 unfold edgeL at h;rw [aD (by rw [hg];simp)] at h
 have h1:=h d.bg zd;rw [aA,eU,eU];omega
theorem orgB_day (hd:d∈ds) (h:edgeB th ds day=false):orgB th (day - 1) d=orgB th day d:=by
 unfold orgB
 by_cases h1:d.kd=1
 ·by_cases h2:d.th=th
  ·have hc:zCj th d=true:=by unfold zCj;rw [h1,h2];simp
   rw [bg_day (by rw [h1];rfl) (edgeB_no h hd hc)]
  ·rw [cN h2];simp
 ·rw [cN h1];simp
theorem movB_day (hd:d∈ds) (h:edgeB th ds day=false):zCO rs ds i th use (day - 1) d=zCO rs ds i th use day d:=by
 unfold zCO
 by_cases h1:d.kd=2
 ·rw [aF h1,aF h1]
  by_cases h2:d.th=th
  ·have hc:zCj th d=true:=by unfold zCj;rw [h1,h2];simp
   rw [vB_day (by rw [h1];rfl) (edgeB_no h hd hc)]
  ·rw [cN h2];simp
 ·rw [aD h1,aD h1]
  by_cases h3:d.kd=5
  ·have hc:zCj th d=true:=by unfold zCj;rw [h3];rfl
   rw [aF h3,aF h3,bg_day (by rw [h3];rfl) (edgeB_no h hd hc)]
  ·rw [aD h3,aD h3]
theorem licB_day {p:BA} {x:Bool} (hd:d∈ds) (h:edgeB th ds day=false):zCC rs ds i use (day - 1) th p x d=zCC rs ds i use day th p x d:=by
 unfold zCC
 by_cases h1:d.kd=3
 ·by_cases h2:d.th=th
  ·have hc:zCj th d=true:=by unfold zCj;rw [h1,h2];simp
   rw [vB_day (by rw [h1];rfl) (edgeB_no h hd hc)]
  ·rw [cN h2];simp
 ·rw [cN h1];simp
end
theorem parts_congr {rs:List Rg} {ds:List De} {i k:Nat} {th use use2:BA} {day day2:Int} (ho:∀ d∈ds,orgB th day d=orgB th day2 d) (hm:∀ d∈ds,zCO rs ds i th use day d=zCO rs ds k th use2 day2 d) (n:Nat) :
  zAp rs ds i th use day n=zAp rs ds k th use2 day2 n:=by
 unfold zAp zCv
 have key:∀ (l:List De) (f:zBa),(∀ d∈l,d∈ds)→l.foldl (orgF th day) f=l.foldl (orgF th day2) f:=fun l=>by
  induction l with
  | nil=>exact fun _ _=>rfl
  | cons d l ih =>
   intro f hs;rw [bJ,bJ,ih _ fun x hx=>hs x (aP _ hx)]
   have:orgF th day f d=orgF th day2 f d:=by unfold orgF;rw [ho d (hs d aQ)]
   rw [this]
 have key2:∀ (l:List De) (f:zBa),(∀ d∈l,d∈ds)→l.foldl (zCQ (zCO rs ds i th use day)) f=l.foldl (zCQ (zCO rs ds k th use2 day2)) f:=fun l=>by
  induction l with
  | nil=>exact fun _ _=>rfl
  | cons d l ih =>
   intro f hs;rw [bJ,bJ,ih _ fun x hx=>hs x (aP _ hx)]
   have:zCQ (zCO rs ds i th use day) f d=zCQ (zCO rs ds k th use2 day2) f d:=by unfold zCQ;rw [hm d (hs d aQ)]
   rw [this]
 rw [key ds _ fun _ h=>h,key2 (ds.take n) _ fun d hd=>bR hd]
theorem may_congr {rs:List Rg} {ds:List De} {i k:Nat} {use use2:BA} {day day2:Int} {th:BA} (hl:∀ d∈ds,∀ p x,zCC rs ds i use day th p x d=zCC rs ds k use2 day2 th p x d) (party ho:BA) :
  mayF rs ds i use day th party ho=mayF rs ds k use2 day2 th party ho:=by
 have hn:nextP rs ds i use day th=nextP rs ds k use2 day2 th:=by
  funext p
  unfold nextP
  congr 1
  have:∀ l:List De,(∀ d∈l,d∈ds)→l.find? (zCC rs ds i use day th p true)=l.find? (zCC rs ds k use2 day2 th p true):=fun l=>by
   induction l with
   | nil=>exact fun _=>rfl
   | cons d l ih =>
    intro hs;rw [List.find?_cons,List.find?_cons,hl d (hs d aQ) p true,ih fun x hx=>hs x (aP _ hx)]
  exact this ds fun _ h=>h
 have hc:ctlF rs ds i use day th ho=ctlF rs ds k use2 day2 th ho:=by unfold ctlF;rw [hn]
 have hs:∀ (g:BA) (l:List De) (G:List BA),(∀ d∈l,d∈ds)→scanL (zCC rs ds i use day th g false) party l G=scanL (zCC rs ds k use2 day2 th g false) party l G:=fun g l=>by
  induction l with
  | nil=>exact fun _ _=>rfl
  | cons d l ih =>
   intro G hs;rw [scanL,scanL,hl d (hs d aQ) g false]
   split
   ·cases scanD party d G with
    | none=>rfl
    | some G'=>exact ih G' fun x hx=>hs x (aP _ hx)
   ·exact ih G fun x hx=>hs x (aP _ hx)
 have hm:∀ (f j:Nat) (G:List BA),mayN ds (fun g=>zCC rs ds i use day th g false) party f j G=mayN ds (fun g=>zCC rs ds k use2 day2 th g false) party f j G:=fun f=>by
  induction f with
  | zero=>exact fun _ _=>rfl
  | succ f ih =>
   intro j G;rw [mayN,mayN]
   cases G[j]? with
   | none=>rfl
   | some g =>
    simp only;rw [hs g ds G fun _ h=>h]
    cases scanL (zCC rs ds k use2 day2 th g false) party ds G with
    | none=>rfl
    | some G'=>exact ih (j+1) G'
 unfold mayF;rw [hc]
 split
 ·rfl
 ·exact hm _ _ _
theorem concerns_c (RA:Option Addr) (rc:Nat) (rs:List Rg) (UA:Option Addr) (uc:Nat) (us:List BA) (DA:Option Addr) (dc:Nat) (ds:List De) (L k:Nat) (th:BA) (w:World)
  (hl:LgIs RA rc rs UA uc us DA dc ds w L) (hd:Des w DA ds) (hk:k<ds.length) :
  Calls Tryz.prog 62 #[.pointer (some ⟨L,0,none⟩),.int .i64 (k:Int),.string th] w (zAe (.bool (zCj th ds[k])) w):=by
 obtain ⟨b,o,rfl,hb0,hc0⟩:=hd za;obtain ⟨d,hdd⟩:∃ d,ds[k]=d:=⟨_,rfl⟩;have hrg:=(hc0 k hk).1;rw [hdd] at hrg ⊢;generalize hres:zCj th d=res;have HR:=zq hres;obtain ⟨r1,r2,g1,g2,AL,cL,vr,vi,ins,base,hlx,_⟩:=hl;have l2:=hlx.c 2 rfl;have hsl:=hlx.lt;clear hd hc0 hdd hres hlx
 go_enter Tryz.func62,Tryz.ntmps62
 go_upto_region 1 with fail
 iterate 23 go_step
 refine eW _ _ zj b (o+k*16) zj (deC d).toList _ hrg Tryz.underlying52 rfl zb ?_
 clear hrg;go_upto_region 2 with fail
 obtain ⟨wd,hwd⟩:∃ wd,wd=w.alloc (.cells (deC d) 52):=⟨_,rfl⟩;rw [←hwd];have hbd:Below w.heap.size w wd:=zr;have HD1:Hid (Bx wd w.heap.size (deC d) 52):=zu;have HBD:=zq hbd;clear hwd hbd l2 hsl;have d2:=HD1.o.c 2 rfl;have d3:=HD1.o.c 3 rfl;have hsd:=HD1.o.lt
 by_cases h5:d.kd=5
 ·have e1:(d.kd == 5)=true:=by simpa using h5
  have HE:Hid (res=true):=by show _=_;rw [←HR.o];unfold zCj;rw [cM h5];rfl
  clear h5;go_wp2;go_ret
  exact zAe.mk qk HBD.o
 ·have e1:(d.kd == 5)=false:=by simpa using h5
  by_cases ht:d.th=th
  ·have q1:=zBb ht
   by_cases h4:d.kd=4
   ·have e2:(d.kd != 4)=false:=by simpa using h4
    have HE:Hid (res=false):=by show _=_;rw [←HR.o];unfold zCj;rw [cN h5,cM h4];simp
    clear h5 ht h4;go_wp2;go_ret
    exact zAe.mk qk HBD.o
   ·have e2:(d.kd != 4)=true:=by simpa using h4
    have HE:Hid (res=true):=by show _=_;rw [←HR.o];unfold zCj;rw [cM ht,cN h4];simp
    clear h5 ht h4;go_wp2;go_ret
    exact zAe.mk qk HBD.o
  ·have q1:=zAM ht
   have HE:Hid (res=false):=by show _=_;rw [←HR.o];unfold zCj;rw [cN h5,cN ht];rfl
   clear h5 ht;go_wp2;go_ret
   exact zAe.mk qk HBD.o
theorem elQS:ElemT Tryz.prog 23 9 (.string ⟨#[]⟩) 1 16:=⟨Tryz.underlying23,zb,rfl,zc⟩
def QuS (w:World) (b:Nat) (v:Value) (l:List BA):Prop :=
 ∃ (off cap:Nat) (cs:Array Value),v = .slice (some ⟨b,off,none⟩) l.length cap∧Bx w b cs 9∧off+cap≤cs.size∧l.length≤cap∧cap≤maxLen∧∀ j (h:j<l.length),cs[off+j]?=some (.string l[j])
theorem QuS.below {w w':World} {b:Nat} {v:Value} {l:List BA} (h:QuS w b v l) (hb:Below w.heap.size w w'):QuS w' b v l:=by
 obtain ⟨off,cap,cs,e,h2,h3⟩:=h;exact ⟨off,cap,cs,e,h2.below hb,h3⟩
theorem QuS.lt {w:World} {b:Nat} {v:Value} {l:List BA} (h:QuS w b v l):b<w.heap.size:=by
 obtain ⟨off,cap,cs,e,h2,h3⟩:=h;exact h2.lt
theorem QuS.grown {w w':World} {b g:Nat} {v:Value} {l:List BA} (h:QuS w b v l) (hg:w.grownBy w' (some g)) (hne:b≠g):QuS w' b v l:=by
 obtain ⟨off,cap,cs,e,h2,h3⟩:=h;exact ⟨off,cap,cs,e,(hg.block b h2.lt fun e=>hne (eY e)).trans h2,h3⟩
theorem QuS.map_ne {w:World} {b g:Nat} {v:Value} {l:List BA} {f:BA→Option Value} (h:QuS w b v l) (hm:zAq Value.string w g f):b≠g:=fun e=>by
 obtain ⟨off,cap,cs,_,h2,_⟩:=h;obtain ⟨es,clk,L,h1,_⟩:=hm;unfold Bx at h2;rw [e,h1] at h2
 cases h2
theorem QuS.one {w:World} {b:Nat} {s:BA} (h:Bx w b #[.string s] 9):QuS w b (.slice (some ⟨b,0,none⟩) 1 1) [s] :=
 ⟨0,1,_,rfl,h,zd,zd,zm,fun j hj=>by
  have:j=0:=yf;subst this
  rfl⟩
theorem QuS.sl {w:World} {b:Nat} {v:Value} {l:List BA} (h:QuS w b v l):∃ off cap,v = .slice (some ⟨b,off,none⟩) l.length cap∧l.length≤cap∧cap≤maxLen∧(∀ j (h:j<l.length),w.cell? ⟨b,off+j,none⟩=some (.string l[j])):=by
 obtain ⟨off,cap,cs,e,h2,h3,h4,h5,h6⟩:=h;exact ⟨off,cap,e,h4,h5,fun j hj=>h2.cell (h6 j hj)⟩
theorem QuS.tail {w:World} {b off cap:Nat} {x:BA} {l:List BA} (h:QuS w b (.slice (some ⟨b,off,none⟩) (l.length+1) cap) (x::l)):QuS w b (.slice (if cap=1 then some ⟨b,off,none⟩ else some ⟨b,off+1,none⟩) l.length (cap - 1)) l:=by
 obtain ⟨off',cap',cs,e,h2,h3,h4,h5,h6⟩:=h;simp only [aR,dF,dV,Addr.mk.injEq,and_true,true_and] at e;obtain ⟨rfl,rfl⟩:=e;simp only [aR] at h4 h6
 by_cases hc:cap=1
 ·rw [aF hc]
  exact ⟨off,cap - 1,cs,rfl,h2,za,za,za,fun j hj=>za⟩
 ·rw [aD hc]
  refine ⟨off+1,cap - 1,cs,rfl,h2,za,za,za,fun j hj=>?_⟩
  have:=h6 (j+1) za;rw [show off+1+j=off+(j+1) by omega,this]
  rfl
theorem run_pushQ {w:World} {b:Nat} {v:Value} {l:List BA} (h:QuS w b v l) (x:BA) (g:Nat) (hx:w.cell? ⟨g,0,none⟩=some (.string x)) (hl:l.length≤1000000) (ty:TypeId) :
  ∃ v' w',(Builtin.append_ #[23,23] ty #[v,.slice (some ⟨g,0,none⟩) 1 1]).run Tryz.prog w = .ok v' w'∧(∃ b',QuS w' b' v' (l++[x])∧(b'=b∨b'=w.heap.size))∧w.grownBy w' (some b):=by
 obtain ⟨i,hi,hz0,hz1,hz2⟩:=info_parts elQS.info;obtain ⟨off,cap,cs,rfl,h2,h3,h4,h5,h6⟩:=h
 have hs:Src Tryz.prog i.size 23 (.slice (some ⟨g,0,none⟩) 1 1) 1 [.string x] w:=by
  rw [hz1];refine Src.ofSlice w elQS.ty ⟨g,0,none⟩ 1 1 [Value.string x] rfl (fun j u hj=>?_) (fun u hu=>by rw [List.mem_singleton.1 hu];rfl)
  match j,hj with
  | 0,hj =>
   have e:Value.string x=u:=yf;rw [←e];rw [Addr.add_lit];exact hx
 by_cases hfit:l.length+1≤cap
 ·have hrun:=run_append_room_src (P:=Tryz.prog) w 23 23 ty 9 i elQS.ty hi b off l.length cap (.slice (some ⟨g,0,none⟩) 1 1) 1 [.string x] hs hfit
   (fun j hj=>by
    have hj0:j=0:=yf;subst hj0;rw [hz1,bS,cK,aL w b _ _ _ _ h2];rw [Array.getElem?_eq_getElem (show off+l.length<cs.size by omega)]
    rfl)
   (fun j _=>h2.frozen _)
  rw [hz1,bS] at hrun;refine ⟨_,_,hrun,⟨b,?_,.inl rfl⟩,?_⟩
  ·refine ⟨off,cap,cs.setIfInBounds (off+l.length) (.string x),by rw [dC];rfl,h2.set _ _,by simpa using h3,by rw [dC];exact hfit,h5,fun j hj=>?_⟩
   rw [dC,List.length_singleton] at hj
   by_cases hjl:j<l.length
   ·rw [Array.getElem?_setIfInBounds,aD za,List.getElem_append_left hjl]
    exact h6 j hjl
   ·obtain rfl:j=l.length:=by omega
    rw [Array.getElem?_setIfInBounds,aF rfl,aF za,List.getElem_append_right (aC _)];simp
  ·exact ⟨rfl,rfl,rfl,by simp [World.setCells,World.setCell],fun k _ hne=>bY w _ _ k (fun e=>hne (by rw [show k=b from e]))⟩
 ·have hce:cap=l.length:=by omega
  subst hce
  have hold:(Builtin.firstCells i.size l.length (.slice (some ⟨b,off,none⟩) l.length l.length)).run Tryz.prog w.drew = .ok (l.map Value.string).toArray w.drew:=by
   rw [hz1];refine (Src.ofSlice (size:=1) w elQS.ty ⟨b,off,none⟩ l.length l.length (l.map Value.string) zd (fun j u hj=>?_) (fun u hu=>?_):Src Tryz.prog 1 23 _ _ _ w).cellsD
   ·rw [List.getElem?_map] at hj
    by_cases hjl:j<l.length
    ·rw [List.getElem?_eq_getElem hjl] at hj
     simp only [dX,dV] at hj;rw [←hj];rw [Addr.add_lit];exact h2.cell (h6 j hjl)
    ·rw [List.getElem?_eq_none za] at hj;cases hj
   ·obtain ⟨s,_,rfl⟩:=List.mem_map.1 hu
    rfl
  have hbytes:(l.length+1)*i.bytes≤140737488355328:=by rw [hz2];omega
  have hg:l.length<l.length+1:=za;have hrun:=run_append_grow_src (P:=Tryz.prog) w 23 23 ty 9 i _ elQS.ty hi hz0 (some ⟨b,off,none⟩) l.length l.length (l.map Value.string) hold (.slice (some ⟨g,0,none⟩) 1 1) 1 [.string x] hs hg za (growslice_fits hg hbytes);have hge:=grownCap_ge w (l.length+1) l.length 9;have hcm:=grownCap_le_maxLen w (l.length+1) l.length 9 zm;refine ⟨_,_,hrun,⟨w.heap.size,?_,.inr rfl⟩,?_⟩
  ·refine ⟨0,_,_,by rw [dC];rfl,bZ w.drew _,?_,by rw [dC];exact hge,hcm,fun j hj=>?_⟩
   ·rw [Array.size_append,List.size_toArray,size_zeroCells]
    simp only [dC,cW,List.length_singleton];have:(Value.string ⟨#[]⟩).cells.size=1:=rfl;rw [this];omega
   ·rw [aK,Array.getElem?_append_left yf,List.getElem?_toArray,←List.map_singleton (f:=Value.string),←eE,List.getElem?_map,List.getElem?_eq_getElem hj]
    rfl
  ·exact ⟨rfl,rfl,rfl,zd,fun k hk _=>dN w.drew _ k hk⟩
theorem wpList_pushQ {ops:Array Oper} {rest:List Oper} {o:Oper} {a:Act} {Q:Exit→Act→World→Prop} {w:World} (s x:Operand) (hgd:o.guard=none) (ho:o.op = .call { callee:=.builtin .append,args:=#[s,x],argTypes:=#[23,23] })
  (b:Nat) (v:Value) (l:List BA) (hv:a.eval s=v) (hq:QuS w b v l) (y:BA) (g:Nat) (hx:a.eval x = .slice (some ⟨g,0,none⟩) 1 1) (hc:w.cell? ⟨g,0,none⟩=some (.string y)) (hl:l.length≤1000000)
  (h:∀ v' w' b',QuS w' b' v' (l++[y])→(b'=b∨b'=w.heap.size)→w.grownBy w' (some b)→wpList Tryz.prog ops Q rest (a.put o.dst v') w'):wpList Tryz.prog ops Q (o::rest) a w:=by
 refine wpList_plain hgd fun K hK'=>?_
 obtain ⟨v',w',hrun,⟨b',h1,h2⟩,h3⟩:=run_pushQ hq y g hc hl o.type;unfold Oper.wp;simp [execOp,ho,resolve,invoke,builtin,hv,hx,hrun,Result.andThen]
 exact hK' _ _ (h v' w' b' h1 h2 h3)
theorem drop_cons' {α:Type} {l:List α} {i:Nat} (h:i<l.length):l.drop i=l[i]::l.drop (i+1):=aG h
theorem seenM_app (G:List BA) (p:BA):zCK (G++[p])=fun x=>if x=p then some (.bool true) else zCK G x:=by
 rw [←seenM_cons]
 funext x
 unfold zCK
 have:memS (G++[p]) x=memS (p::G) x:=by
  rw [aA,zBR,zBR];simp [or_comm]
 rw [this]
theorem lic_get {P:De→Bool} {ds:List De} {q:Nat} (h:q<(licL ds P ds.length).length):∃ (k:Nat) (d:De),k<ds.length∧(licL ds P ds.length)[q]?=some (k:Int)∧(ds.filter P)[q]?=some d∧ds[k]?=some d:=by
 obtain ⟨k,hk,h2,e1,e2⟩:=lic_at h;exact ⟨k,ds[k],hk,by rw [List.getElem?_eq_getElem h,e1],by rw [List.getElem?_eq_getElem h2,e2],List.getElem?_eq_getElem hk⟩
theorem drop_get {α:Type} {l:List α} {q:Nat} {d:α} (h:l[q]?=some d):l.drop q=d::l.drop (q+1):=by
 obtain ⟨hq,e⟩:=List.getElem?_eq_some_iff.1 h;rw [aG hq,e]
theorem flat_ints:∀ l:List Int,l.flatMap encI=l.map fun x=>Value.int .i64 x
 | []=>rfl
 | a::l=>by rw [aM,flat_ints l];rfl
theorem own_ints {w:World} {base n c:Nat} {A:Option Addr} {l:List Int} (h:zAE encI 1 w base 3 (.slice A n c) l):∃ bl,0<l.length→A=some ⟨bl,0,none⟩∧base≤bl∧bl<w.heap.size∧∀ j z,l[j]?=some z→w.cell? ⟨bl,j,none⟩=some (.int .i64 z):=by
 obtain ⟨A',c',e,hr⟩:=h.rdk
 injection e with e1 _ _
 subst e1
 rcases h.2 with ⟨h1,hn⟩ | ⟨g,cap,cur,hv,hb,hg,_⟩
 ·exact ⟨0,fun h0=>za⟩
 ·injection hv with hv _ _
  refine ⟨g,fun h0=>⟨hv,hb,(Array.getElem?_eq_some_iff.1 hg).1,fun j z hz=>?_⟩⟩
  obtain ⟨b,o,e,hc⟩:=hr h0;rw [hv] at e
  injection e with e
  injection e with e1 e2 _
  subst e1;subst e2
  have:=hc j (.int .i64 z) (by
   rw [flat_ints,List.getElem?_map,hz];rfl)
  rwa [aK] at this
def MyR1 (W:World) (gm:Nat) (ds:List De) (ps:List BA) (Q:BA→De→Bool) (party:BA) (res:Bool) (n m:Nat) (qv:Value) (wr:World):Prop :=
 ∃ (i b:Nat) (v:Value) (G:List BA),v=qv∧QuS wr b v (G.drop i)∧W.heap.size≤b∧zAq Value.string wr gm (zCK G)∧Giv ps G∧i≤G.length∧i+m=n∧mayN ds Q party m i G=res∧Below W.heap.size W wr
def MyR2 (W:World) (gm i bl lo hi:Nat) (Ls:List Int) (FL:List De) (ps:List BA) (party:BA) (sc:Option (List BA)) (m:Nat) (qv iv:Value) (wr:World):Prop :=
 ∃ (q b:Nat) (v:Value) (G:List BA),v=qv∧iv = .int .i64 (q:Nat)∧QuS wr b v (G.drop (i+1))∧W.heap.size≤b∧(b<lo∨hi≤b)∧hi≤wr.heap.size∧(∀ j z,Ls[j]?=some z→wr.cell? ⟨bl,j,none⟩=some (.int .i64 z)) ∧
  zAq Value.string wr gm (zCK G)∧Giv ps G∧i+1≤G.length∧q+m=Ls.length∧scanF party (FL.drop q) G=sc∧Below W.heap.size W wr
theorem may_c (RA:Option Addr) (rc:Nat) (rs:List Rg) (UA:Option Addr) (uc:Nat) (us:List BA) (DA:Option Addr) (dc:Nat) (ds:List De) (L n i:Nat) (use:BA) (day:Int) (th party ho:BA) (w:World)
  (hl:LgIs RA rc rs UA uc us DA dc ds w L) (hd:Des w DA ds) (hn:(zAm rs)[n]?=some i) (hul:∀ d∈ds,d.us.length≤1000000) (hdl:ds.length≤200) :
  Calls Tryz.prog 36 #[.pointer (some ⟨L,0,none⟩),.string th,.string party,.string ho,.agg (zCP n use day)] w (zAe (.bool (mayF rs ds i use day th party ho)) w):=by
 obtain ⟨res,hres⟩:∃ res,res=mayF rs ds i use day th party ho:=⟨_,rfl⟩;rw [←hres];have HRES:=zq hres;clear hres;have hbw:Below w.heap.size w (w.alloc (.cells (zCP n use day) 76)):=(aN _ _).alloc (aC _) _;have HX:Hid (Bx (w.alloc (.cells (zCP n use day) 76)) w.heap.size (zCP n use day) 76):=Bx.new _ _ _;obtain ⟨W,hW⟩:∃ W,W=w.alloc (.cells (zCP n use day) 76):=⟨_,rfl⟩;rw [←hW] at HX hbw;have HB:=zq hbw;have HLW:=zq (hl.below hbw);have HDW:=zq (hd.below hbw);have HUL:=zq hul;clear hl hd hul hbw;have HCO:=zq (controls_c RA rc rs UA uc us DA dc ds L n i use day th ho W HLW.o HDW.o hn HUL.o hdl);have HPS:=zq (ctlF_mem (rs:=rs) (ds:=ds) (i:=i) (use:=use) (day:=day) (th:=th) (ho:=ho));unfold mayF at HRES;obtain ⟨c,hcc⟩:∃ c,c=ctlF rs ds i use day th ho:=⟨_,rfl⟩;rw [←hcc] at HCO HPS HRES;clear hcc;have hmm:=@run_makeMap Tryz.prog
 go_enter Tryz.func36,Tryz.ntmps36
 go_upto_region 1 with fail
 rw [←hW];clear hW;obtain ⟨x0,x1,x2⟩:=HX.o.t;have hsx:=HX.o.lt
 go_wp2_with fail
 with_reducible refine HCO.o.mono ?_
 rintro e w1 ⟨rfl,hb1⟩;have HB1:=zq hb1;clear hb1 HCO x0 x1 x2 hsx;go_upto_region 2 with fail
 obtain ⟨w2,hw2⟩:∃ w2,w2=w1.alloc (.cells #[.string c] 9):=⟨_,rfl⟩;rw [←hw2];have hba:Below w1.heap.size w1 w2:=by rw [hw2];exact (aN _ _).alloc (aC _) _
 have HQ2:Hid (Bx w2 w1.heap.size #[.string c] 9):=by show Bx _ _ _ _;rw [hw2];exact Bx.new _ _ _
 have HB2:=zq (zAa HB1.o hba);have hs1:W.heap.size≤w1.heap.size:=HB1.o.size;have hs2:w1.heap.size<w2.heap.size:=HQ2.o.lt;clear hw2 hba;obtain ⟨w4,hup,hm4,hg4,hz4⟩:=zAC (P:=Tryz.prog) tMapSB kStr (zAq.new Value.string w2) c (.bool true);have HM4:Hid (zAq Value.string w4 w2.heap.size (zCK [c])):=by show zAq _ _ _ _;rw [seenM_cons,seenM_nil];exact hm4
 have hba:Below w2.heap.size w2 (w2.alloc (.map #[] 0)):=(aN _ _).alloc (aC _) _;have HQ3:=zq (HQ2.o.below hba);have HQ4:Hid (Bx w4 w1.heap.size #[.string c] 9):=(hg4.block w1.heap.size HQ3.o.lt fun e=>by have:=eY e;omega).trans HQ3.o
 have HB4:Hid (Below W.heap.size W w4):=zBp (zAa HB2.o hba) ze hg4 za;have hz5:w2.heap.size<w4.heap.size:=by rw [hz4];simp
 have q0:=HQ3.o.c 0 rfl;have ql:=HQ3.o.lt;have p0:=HQ4.o.c 0 rfl;have pl:=HQ4.o.lt;clear hm4 hg4 hz4 hba HQ2 HB2 HB1
 by_cases hcp:c=party
 ·have e1:=zBb hcp
  have HS:Hid (res=true):=by show _=_;rw [HRES.o,aF hcp]
  clear hcp;go_wp2;go_ret
  exact zAe.mk (by rw [HS.o];rfl) (zAa HB.o HB4.o)
 have e1:=zAM hcp;rw [aD hcp] at HRES;clear hcp;go_wp2;clear hup hmm q0 ql p0 pl e1;obtain ⟨gm,hgm⟩:∃ gm,gm=w2.heap.size:=⟨_,rfl⟩;have hgm2:W.heap.size≤gm:=za;have hgm3:gm<w4.heap.size:=za;rw [←hgm] at HM4 ⊢;clear hgm
 go_loopg [11] (ds.length+2) (MyR1 W gm ds (ho::ds.map De.to_) (fun g=>zCC rs ds i use day th g false) party res (ds.length+2))
 case atStart=>exact ⟨0,w1.heap.size,_,[c],rfl,QuS.one HQ4.o,hs1,HM4.o,Giv.one HPS.o,aZ _,za,HRES.o.symm,HB4.o⟩
 clear HM4 HQ4 HB4 HQ3 HPS HRES hz5 hs1 hs2 hgm3
 case round =>
  obtain ⟨j,b,v,G,rfl,hq,hbb,hm,hgv,hjl,hjm,hmy,hb⟩:=hrel;have HQ:=zq hq;have HM:=zq hm;have HG:=zq hgv;have HJ:=zq hjm;have HMY:=zq hmy;have HBW:=zq hb;have hgl:G.length≤ds.length+1:=by simpa using hgv.len
  clear hq hm hgv hjm hmy hb
  by_cases hlt:j<G.length
  ·obtain ⟨f,rfl⟩:∃ f,gk=f+1:=⟨gk - 1,zt⟩
   obtain ⟨g,hg⟩:∃ g,G[j]=g:=⟨_,rfl⟩;have hdr:=drop_cons' hlt;rw [hg] at hdr;have HYES:=zq (mayN_yes (ds:=ds) (Q:=fun g=>zCC rs ds i use day th g false) (party:=party) (f:=f) hlt)
   have HNXT:=zq (fun G'=>mayN_next (ds:=ds) (Q:=fun g=>zCC rs ds i use day th g false) (party:=party) (f:=f) (G':=G') hlt)
   simp only [hg] at HYES HNXT;rw [hdr] at HQ;clear hg hdr;obtain ⟨off,cap,rfl,hc1,hc2,hcl⟩:=HQ.o.sl;have y0:wr.cell? ⟨b,off,none⟩=some (.string g):=hcl 0 zd;have hbl:b<wr.heap.size:=HQ.o.lt;have HQT:=zq HQ.o.tail;have hln:(G.drop (j+1)).length=G.length - (j+1):=bM;have HXW:=zq (HX.o.below HBW.o);have HLI:=zq (licences_c RA rc rs UA uc us DA dc ds L n i use day th g false wr (HLW.o.below HBW.o) (HDW.o.below HBW.o) hn HUL.o hdl);clear hcl HQ;simp only [aR] at hc1 hc2 ⊢;obtain ⟨T,hT⟩:∃ T,T=G.drop (j+1):=⟨_,rfl⟩;rw [←hT] at HQT hln hc1 ⊢;have hTl:T.length≤1000000:=za;clear hln;have HT:=zq hT;clear hT;have k1:(0:Int)<(T.length:Int)+1:=za;have k2:(1:Int)≤(T.length:Int)+1:=za;unfold maxLen at hc2;obtain ⟨x0,x1,x2⟩:=HXW.o.t;have hsx:=HXW.o.lt;go_upto_region 8 with fail
   obtain ⟨v2,hv2⟩:∃ v2,v2=Value.slice (if cap=1 then some ⟨b,off,none⟩ else some ⟨b,off+1,none⟩) T.length (cap - 1):=⟨_,rfl⟩
   rw [←hv2] at HQT ⊢;clear hv2 k1 k2 hc1 hc2 y0
   go_wp2_with fail
   with_reducible refine HLI.o.mono ?_
   rintro e w5 ⟨vl,rfl,ho5,hb5⟩;obtain ⟨AL5,cL5,rfl,_⟩:=ho5.rdk;obtain ⟨bl,hbl5⟩:=own_ints ho5;have hll:=licL_len ds (zCC rs ds i use day th g false) ds.length;have HLA:=zq (fun q (h:q<(licL ds (zCC rs ds i use day th g false) ds.length).length)=>lic_get h)
   have HLE:=zq (lic_len (ds:=ds) (P:=zCC rs ds i use day th g false));have HSF:=zq (fun G=>scanL_filter (zCC rs ds i use day th g false) party ds G)
   obtain ⟨Ls,hLs⟩:∃ Ls,Ls=licL ds (zCC rs ds i use day th g false) ds.length:=⟨_,rfl⟩;obtain ⟨FL,hFL⟩:∃ FL,FL=ds.filter (zCC rs ds i use day th g false):=⟨_,rfl⟩;simp only [←hLs,←hFL] at HLA HLE HSF hll hbl5 ⊢;clear hLs hFL ho5;have HB5:=zq (zAa HBW.o hb5);have HM5:=zq (HM.o.below hb5);have HQ5:=zq (HQT.o.below hb5);have hs5:=hb5.size;have hgm5:gm<wr.heap.size:=HM.o.lt;obtain ⟨sc,hsc⟩:∃ sc,sc=scanF party FL G:=⟨_,rfl⟩
   have HYS:Hid (sc=none→res=true):=fun h=>by
    rw [←HMY.o];exact HYES.o (by rw [HSF.o,←hsc,h])
   have HNS:Hid (∀ G',sc=some G'→mayN ds (fun g=>zCC rs ds i use day th g false) party f (j+1) G'=res):=fun G' h=>by
    rw [←HMY.o];exact (HNXT.o G' (by rw [HSF.o,←hsc,h])).symm
   obtain ⟨lo,hlo⟩:∃ lo,lo=wr.heap.size:=⟨_,rfl⟩;obtain ⟨hi,hhi⟩:∃ hi,hi=w5.heap.size:=⟨_,rfl⟩;rw [←hlo] at hbl hgm5 hs5 hbl5;rw [←hhi] at hs5 hbl5;rw [HT.o] at HQ5;have HBL:=zq hbl5;have HM2:Hid (MyR2 W gm j bl lo hi Ls FL (ho::ds.map De.to_) party sc Ls.length v2 (.int .i64 0) w5):=⟨0,b,v2,G,rfl,rfl,HQ5.o,hbb,.inl hbl,za,fun q z hz=>(hbl5 (by have:=(List.getElem?_eq_some_iff.1 hz).1;omega)).2.2.2 q z hz,HM5.o,HG.o,hlt,za,hsc.symm,HB5.o⟩
   clear hsc hlo hhi hb5 hbl5 HQ5 HM5 HB5 HQT HM HBW HLI HXW x0 x1 x2 hsx HYES HNXT HSF HMY HG HT hbl hbb;go_wp2
   go_loopg [11,47] Ls.length (MyR2 W gm j bl lo hi Ls FL (ho::ds.map De.to_) party sc)
   case atStart=>exact HM2.o
   clear HM2
   case round =>
    obtain ⟨q,b,v,G,rfl,rfl,hq,hbb,hbr,hhs,hcl,hm,hgv,hjl,hqm,hsf,hb⟩:=hrel;have HQ:=zq hq;have HM:=zq hm;have HG:=zq hgv;have HK:=zq hqm;have HSC:=zq hsf;have HBW:=zq hb;have HCL:=zq hcl;clear hq hm hgv hqm hsf hb hcl
    by_cases hql:q<Ls.length
    ·obtain ⟨k,d,hk,e1,e2,e3⟩:=HLA.o q hql
     obtain ⟨hA,hb1,hb2,_⟩:=HBL.o za;subst hA;have c0:=HCL.o q _ e1;have hbls:bl<wr.heap.size:=za;obtain ⟨bd,od,hA,hbd0,hcd⟩:=HDW.o za;subst hA;obtain ⟨hk2,e3⟩:=List.getElem?_eq_some_iff.1 e3;have hp:=(hcd k hk).1;rw [e3] at hp;have hrg:wr.rangeAt bd (od+k*16) (deC d).toList:=fun q v hv=>(HBW.o.cell (p:=⟨bd,od+k*16+q,none⟩) hbd0).trans (hp q v hv)
     have HDM:Hid (d.to_∈ho::ds.map De.to_):=to_mem (by rw [←e3];exact aJ hk) ho
     have HSC2:=HSC.o;rw [drop_get e2] at HSC2;have HSC2:=zq HSC2;obtain ⟨r1,r2,g1,g2,ALx,cLx,vr,vi,ins,base,hlx,_⟩:=HLW.o.below HBW.o;have l2:=hlx.c 2 rfl;have hsl:=hlx.lt;clear hcd hp e1 e2 e3 hlx;go_upto_region 11 with fail
     clear c0
     iterate 23 go_step
     refine eW _ _ zj bd (od+k*16) zj (deC d).toList _ hrg Tryz.underlying52 rfl zb ?_
     clear hrg l2 hsl;go_upto_region 12 with fail
     obtain ⟨wd,hwd⟩:∃ wd,wd=wr.alloc (.cells (deC d) 52):=⟨_,rfl⟩;rw [←hwd];have hbd:Below wr.heap.size wr wd:=zr;have HDX:Hid (Bx wd wr.heap.size (deC d) 52):=zu;have HBD:=zq (zAa HBW.o hbd);have HMD:=zq (HM.o.below hbd);have HQD:=zq (HQ.o.below hbd);have HCD:Hid (∀ q z,Ls[q]?=some z→wd.cell? ⟨bl,q,none⟩=some (.int .i64 z)):=fun q z hz=>zAs hbd (HCL.o q z hz)
     have hgmr:gm<wr.heap.size:=HM.o.lt;have hsd:wr.heap.size<wd.heap.size:=HDX.o.lt;have hbr0:b<wr.heap.size:=HQ.o.lt;clear hwd hbd HBW HM HQ HCL;have d5:wd.cell? ⟨wr.heap.size,5,none⟩=some (.string d.to_):=HDX.o.c 5 rfl;have d9:wd.cell? ⟨wr.heap.size,9,none⟩=some (.bool d.sb):=HDX.o.c 9 rfl
     by_cases htp:d.to_=party
     ·have q1:=zBb htp
      have HS:Hid (res=true):=HYS.o (by rw [←HSC2.o,scanF_hit htp])
      clear htp;go_wp2;go_ret
      exact zAe.mk (by rw [HS.o];rfl) (zAa HB.o HBD.o)
     have q1:=zAM htp;have HTP:=zq htp;have hlk:=zAn tMapSB kStr zBoolS HMD.o d.to_ false;clear htp
     cases hsb:d.sb with
     | false =>
      have HSN:Hid (scanF party (FL.drop (q+1)) G=sc):=by show _=_;rw [←HSC2.o,scanF_old HTP.o (by rw [hsb];rfl)]
      rw [hsb] at d9;clear hlk hsb;go_wp2
      go_roundg (gk - 1)
      case measure=>have:=HK.o;omega
      case rel=>exact ⟨q+1,b,v,G,rfl,zi,HQD.o,hbb,hbr,za,HCD.o,HMD.o,HG.o,hjl,zh,HSN.o,HBD.o⟩
     | true =>
      rw [hsb] at d9
      cases hms:memS G d.to_ with
      | true =>
       have HSN:Hid (scanF party (FL.drop (q+1)) G=sc):=by show _=_;rw [←HSC2.o,scanF_old HTP.o (by rw [hms];simp)]
       rw [show zCK G d.to_=some (.bool true) by unfold zCK;rw [aF hms]] at hlk
       simp only [eD,dO,eB] at hlk;clear hms hsb;go_wp2
       go_roundg (gk - 1)
       case measure=>have:=HK.o;omega
       case rel=>exact ⟨q+1,b,v,G,rfl,zi,HQD.o,hbb,hbr,za,HCD.o,HMD.o,HG.o,hjl,zh,HSN.o,HBD.o⟩
      | false =>
       have HSN:Hid (scanF party (FL.drop (q+1)) (G++[d.to_])=sc):=by show _=_;rw [←HSC2.o,scanF_new HTP.o hsb hms]
       have HGN:=zq (HG.o.add HDM.o hms);rw [show zCK G d.to_=none by unfold zCK;rw [aD (by rw [hms];simp)]] at hlk
       simp only [eD,dO,dZ] at hlk;clear hms hsb;obtain ⟨wu,hup,hmu,hgu,hsu⟩:=zAC (P:=Tryz.prog) tMapSB kStr HMD.o d.to_ (.bool true);have HMU:Hid (zAq Value.string wu gm (zCK (G++[d.to_]))):=by show zAq _ _ _ _;rw [seenM_app];exact hmu
       have hne1:b≠gm:=HQD.o.map_ne HMD.o;have HQU:=zq (HQD.o.grown hgu hne1);have HBU:=zq (zBp HBD.o HBD.o.size hgu hgm2);have HDU:Hid (Bx wu wr.heap.size (deC d) 52):=(hgu.block wr.heap.size HDX.o.lt fun e=>by have:=eY e;omega).trans HDX.o
       have HCU:Hid (∀ q z,Ls[q]?=some z→wu.cell? ⟨bl,q,none⟩=some (.int .i64 z)):=fun q z hz=>(World.cell?_of_block (a:=⟨bl,q,none⟩) (hgu.block bl za fun e=>by have:=eY e;omega)).trans (HCD.o q z hz)
       have hba:Below wu.heap.size wu (wu.alloc (.cells #[.string d.to_] 9)):=(aN _ _).alloc (aC _) _;have HQV:=zq (HQU.o.below hba);have HMV:=zq (HMU.o.below hba);have HBV:=zq (zAa HBU.o hba);have HCV:Hid (∀ q z,Ls[q]?=some z→(wu.alloc (.cells #[.string d.to_] 9)).cell? ⟨bl,q,none⟩=some (.int .i64 z)):=fun q z hz=>zAs hba (HCU.o q z hz)
       have HNV:Hid ((wu.alloc (.cells #[.string d.to_] 9)).cell? ⟨wu.heap.size,0,none⟩=some (.string d.to_)):=(Bx.new wu #[.string d.to_] 9).c 0 rfl
       have hdl2:(G.drop (j+1)).length≤1000000:=by
        rw [bM];have:=HG.o.len;simp only [aR,cW] at this;omega
       have u5:wu.cell? ⟨wr.heap.size,5,none⟩=some (.string d.to_):=HDU.o.c 5 rfl;have ul:wr.heap.size<wu.heap.size:=HDU.o.lt;clear hmu hgu hsu hba HMD HQD HBD HCD HDX HMU HQU HBU HCU HDU
       go_wp2_with (at_builtin;refine wpList_pushQ _ _ rfl rfl b v (G.drop (j+1)) rfl HQV.o d.to_ wu.heap.size rfl HNV.o hdl2 ?_;intro v3 w6 b3 hq3 hb3 hg3)
       have HQ6:Hid (QuS w6 b3 v3 ((G++[d.to_]).drop (j+1))):=by show QuS _ _ _ _;rw [List.drop_append_of_le_length hjl];exact hq3
       have hvl:wu.heap.size<(wu.alloc (.cells #[.string d.to_] 9)).heap.size:=zd;have HB6:=zq (zBp HBV.o HBV.o.size hg3 hbb);have HM6:Hid (zAq Value.string w6 gm (zCK (G++[d.to_]))):=HMV.o.keep (hg3.block gm HMV.o.lt fun e=>hne1 (eY e).symm)
       have HC6:Hid (∀ q z,Ls[q]?=some z→w6.cell? ⟨bl,q,none⟩=some (.int .i64 z)):=fun q z hz=>(World.cell?_of_block (a:=⟨bl,q,none⟩) (hg3.block bl za fun e=>by have:=eY e;omega)).trans (HCV.o q z hz)
       have hs6:=hg3.size;have hb31:W.heap.size≤b3:=by rcases hb3 with h | h<;>omega
       have hb32:b3<lo∨hi≤b3:=by rcases hb3 with h | h<;>omega
       have hjl2:j+1≤(G++[d.to_]).length:=by rw [dC];omega
       clear hq3 hb3 hg3 hlk hup u5 d5 d9 q1 HQV HMV HBV HCV HNV;go_wp2
       go_roundg (gk - 1)
       case measure=>have:=HK.o;omega
       case rel=>exact ⟨q+1,b3,v3,G++[d.to_],rfl,zi,HQ6.o,hb31,hb32,za,HC6.o,HM6.o,HGN.o,hjl2,zh,HSN.o,HB6.o⟩
    ·have hqe:q=Ls.length:=by have:=HK.o;omega
     have hfl:FL.length≤q:=by rw [hqe,HLE.o];exact aC _
     have HRS:Hid (mayN ds (fun g=>zCC rs ds i use day th g false) party f (j+1) G=res):=HNS.o G (by
      rw [←HSC.o,List.drop_eq_nil_of_le hfl];rfl)
     clear hfl hqe;go_wp2
     go_roundg f
     case measure=>omega
     case rel=>exact ⟨j+1,b,v,G,rfl,HQ.o,hbb,HM.o,HG.o,hjl,zt,HRS.o,HBW.o⟩
  ·have hje:G.drop j=[]:=List.drop_eq_nil_of_le za
   have HS:Hid (res=false):=by show _=_;rw [←HMY.o];exact mayN_end za
   rw [hje] at HQ;obtain ⟨off,cap,rfl,_⟩:=HQ.o.sl;simp only [dP];clear hje;go_wp2;go_ret
   exact zAe.mk (by rw [HS.o];rfl) (zAa HB.o HBW.o)
end Go.Proofs.YtieoifkdobcpiaaGreatDoor
namespace Go.Proofs
open Go.Shelf
def Tryz.sortI64_ren:Go.Shelf.Ren:=⟨fun | 5=>64 | 8=>109 | 7=>108 | 19=>160 | 20=>161 | 10=>151 | 11=>152 | 12=>153 | 13=>154 | 14=>155 | 15=>156 | 16=>157 | 17=>158 | 18=>159 | 30=>218 | 31=>219 | 32=>220 | 33=>221 | 34=>222 | 35=>223 | 40=>262 | n=>n,fun | 23=>27 | 25=>3 | 3=>3 | 32=>188 | 22=>27 | 0=>0 | 44=>197 | 46=>95 | 4=>4 | 36=>229 | 35=>228 | 41=>133 | 5=>5 | 9=>9 | 53=>283 | 57=>287 | 63=>316 | 64=>219 | n=>n,fun | n=>n⟩
theorem Tryz.sortI64:Go.Proofs.SlLaysM.n5 Tryz.prog Tryz.sortI64_ren:={
 mixed:=zb
 f5:=⟨Tryz.f64.name,zc,Tryz.func64.trans (bA some zb)⟩
 f7:=⟨Tryz.f108.name,zc,Tryz.func108.trans (bA some zb)⟩
 f8:=Tryz.func109.trans (bA some zb)
 f10:=⟨Tryz.f151.name,zc,Tryz.func151.trans (bA some zb)⟩
 f11:=⟨Tryz.f152.name,zc,Tryz.func152.trans (bA some zb)⟩
 f12:=⟨Tryz.f153.name,zc,Tryz.func153.trans (bA some zb)⟩
 f13:=⟨Tryz.f154.name,zc,Tryz.func154.trans (bA some zb)⟩
 f14:=⟨Tryz.f155.name,zc,Tryz.func155.trans (bA some zb)⟩
 f15:=⟨Tryz.f156.name,zc,Tryz.func156.trans (bA some zb)⟩
 f16:=⟨Tryz.f157.name,zc,Tryz.func157.trans (bA some zb)⟩
 f17:=⟨Tryz.f158.name,zc,Tryz.func158.trans (bA some zb)⟩
 f18:=⟨Tryz.f159.name,zc,Tryz.func159.trans (bA some zb)⟩
 f19:=Tryz.func160.trans (bA some zb)
 f20:=Tryz.func161.trans (bA some zb)
 f30:=⟨Tryz.f218.name,zc,Tryz.func218.trans (bA some zb)⟩
 f31:=Tryz.func219.trans (bA some zb)
 f32:=Tryz.func220.trans (bA some zb)
 f33:=⟨Tryz.f221.name,zc,Tryz.func221.trans (bA some zb)⟩
 f34:=⟨Tryz.f222.name,zc,Tryz.func222.trans (bA some zb)⟩
 f35:=⟨Tryz.f223.name,zc,Tryz.func223.trans (bA some zb)⟩
 f40:=⟨Tryz.f262.name,zc,Tryz.func262.trans (bA some zb)⟩
 t0:=Tryz.underlying0
 a0:=Tryz.isAgg0
 z0:=Tryz.sizeOf0
 v0:=Tryz.zeroValue0
 t3:=Tryz.underlying3
 a3:=Tryz.isAgg3
 z3:=Tryz.sizeOf3
 v3:=Tryz.zeroValue3
 t4:=Tryz.underlying4
 a4:=Tryz.isAgg4
 z4:=Tryz.sizeOf4
 v4:=Tryz.zeroValue4
 t5:=Tryz.underlying5
 a5:=Tryz.isAgg5
 z5:=Tryz.sizeOf5
 v5:=Tryz.zeroValue5
 t9:=Tryz.underlying9
 a9:=Tryz.isAgg9
 z9:=Tryz.sizeOf9
 v9:=Tryz.zeroValue9
 t22:=Tryz.underlying27
 a22:=Tryz.isAgg27
 z22:=Tryz.sizeOf27
 v22:=Tryz.zeroValue27
 t23:=Tryz.underlying27
 a23:=Tryz.isAgg27
 z23:=Tryz.sizeOf27
 v23:=Tryz.zeroValue27
 t25:=Tryz.underlying3
 a25:=Tryz.isAgg3
 z25:=Tryz.sizeOf3
 v25:=Tryz.zeroValue3
 t32:=Tryz.underlying188
 a32:=Tryz.isAgg188
 z32:=Tryz.sizeOf188
 v32:=Tryz.zeroValue188
 t35:=Tryz.underlying228
 a35:=Tryz.isAgg228
 z35:=Tryz.sizeOf228
 v35:=Tryz.zeroValue228
 t36:=Tryz.underlying229
 a36:=Tryz.isAgg229
 z36:=Tryz.sizeOf229
 v36:=Tryz.zeroValue229
 t41:=Tryz.underlying133
 a41:=Tryz.isAgg133
 z41:=Tryz.sizeOf133
 v41:=Tryz.zeroValue133
 t44:=Tryz.underlying197
 a44:=Tryz.isAgg197
 z44:=Tryz.sizeOf197
 v44:=Tryz.zeroValue197
 t46:=Tryz.underlying95
 a46:=Tryz.isAgg95
 z46:=Tryz.sizeOf95
 v46:=Tryz.zeroValue95
 t53:=Tryz.underlying283
 a53:=Tryz.isAgg283
 z53:=Tryz.sizeOf283
 v53:=Tryz.zeroValue283
 t57:=Tryz.underlying287
 a57:=Tryz.isAgg287
 z57:=Tryz.sizeOf287
 v57:=Tryz.zeroValue287
 t63:=Tryz.underlying316
 a63:=Tryz.isAgg316
 z63:=Tryz.sizeOf316
 v63:=Tryz.zeroValue316
 t64:=Tryz.underlying219
 a64:=Tryz.isAgg219
 z64:=Tryz.sizeOf219
 v64:=Tryz.zeroValue219 }
def Tryz.compI65_ren:Go.Shelf.Ren:=⟨fun | 43=>65 | n=>n,fun | 22=>27 | 23=>3 | 3=>3 | 4=>4 | 0=>0 | n=>n,fun | n=>n⟩
theorem Tryz.compI65:Go.Proofs.SlLaysN.n43 Tryz.prog Tryz.compI65_ren:={
 mixed:=zb
 f43:=⟨Tryz.f65.name,zc,Tryz.func65.trans (bA some zb)⟩
 t0:=Tryz.underlying0
 a0:=Tryz.isAgg0
 z0:=Tryz.sizeOf0
 v0:=Tryz.zeroValue0
 t3:=Tryz.underlying3
 a3:=Tryz.isAgg3
 z3:=Tryz.sizeOf3
 v3:=Tryz.zeroValue3
 t4:=Tryz.underlying4
 a4:=Tryz.isAgg4
 z4:=Tryz.sizeOf4
 v4:=Tryz.zeroValue4
 t22:=Tryz.underlying27
 a22:=Tryz.isAgg27
 z22:=Tryz.sizeOf27
 v22:=Tryz.zeroValue27
 t23:=Tryz.underlying3
 a23:=Tryz.isAgg3
 z23:=Tryz.sizeOf3
 v23:=Tryz.zeroValue3
 i23:=by kernel_rfl }
end Go.Proofs
