/- The law RightHoldingsAreShares as one call. -/
import Derived.Test.YtbbchlpccgkikaaGreatDoorSh31
set_option maxRecDepth 100000
set_option maxHeartbeats 8000000
namespace Go.Proofs.YtbbchlpccgkikaaGreatDoor
open Go.RowKit Dw
theorem rdk_belH{α:Type}{enc:α->List Value}{w w':World}{A:Option Addr}{l:List α}(h:RdK enc w A l)(hb:Below w.heap.size w w'):RdK enc w' A l:=fun hl=>by
 obtain⟨b,o,hA,hc⟩:=h hl;exact⟨b,o,hA,fun j v hj=>zAe hb (hc j v hj)⟩
theorem own_ars{w:World}{b n c:Nat}{A:Option Addr}{l:List Ar}(h:zAs encA 2 w b 99 (.slice A n c) l):Ars w A l:=by
 obtain⟨A',c',e,hr⟩:=zAs.rd2 (f:=fun x:Ar=>Value.string x.rg) (g:=fun x:Ar=>Value.bool x.out) h
 injection e with e1
 rw[e1];exact hr
theorem srF_err{rs:List Rg}{us:List BA}{ds:List De}{th pl use:BA}{day:Int}(h:(zBs rs us ds th pl use day).2≠0):(zBs rs us ds th pl use day).1=[]:=by
 unfold zBs at h ⊢
 repeat' split
 all_goals first|rfl|skip
 rename_i h1 h2 h3 h4 h5
 rw[aW h1,aW h2,aW h3,aW h4,aW h5]at h;exact absurd rfl h
abbrev raB(x:BA×BA):Array Value:=#[.string x.1,.string x.2]
def LhR(W:World)(p:BA)(S:List Sh)(m:Nat)(iv:Value)(wr:World):Prop:=
 ∃k:Nat,k+m=S.length/\iv=.int .i64 (k:Nat)/\Bx wr W.heap.size (raB z01) 36/\Bx wr (W.heap.size+1) (raB (hasF p (S.take k))) 36/\Below W.heap.size W wr
def LdR(W:World)(rs:List Rg)(use:BA)(day:Int)(pl:BA)(R:List HM)(x:BA×BA)(m:Nat)(iv:Value)(wr:World):Prop:=
 ∃k:Nat,k+m=R.length/\iv=.int .i64 (k:Nat)/\Bx wr W.heap.size (raB (heldF rs use day pl ((R.map plH).take k))) 36/\Bx wr (W.heap.size+1) (raB x) 36/\Below W.heap.size W wr
theorem lawH_c(RA:Option Addr)(rc:Nat)(rs:List Rg)(UA:Option Addr)(uc:Nat)(us:List BA)(DA:Option Addr)(dc:Nat)(ds:List De)(th party pl use:BA)(day:Int)(w:World)(hr:Rgs w RA rs)(hu:Strs w UA us)(hd:Des w DA ds)(hz:∀i (h:i<rs.length),(rs[i]).nm.size<=9223372036854775807)(hz2:∀i (h:i<us.length),(us[i]).size<=9223372036854775807)(hdc:ds.length<=dc)(hth:th.size<=9223372036854775807)(hpa:party.size<=9223372036854775807): Calls Tryz.prog 3 #[.agg (tiC RA rc rs UA uc us DA dc ds),.string th,.string party,.string pl,.string use,.int .i64 day] w (zAg (.bool true) w):=by
 have HX:Hid (Bx (w.alloc (.cells (tiC RA rc rs UA uc us DA dc ds) 26)) w.heap.size (tiC RA rc rs UA uc us DA dc ds) 26):=Bx.new _ _ _;have HB:Hid (Below w.heap.size w (w.alloc (.cells (tiC RA rc rs UA uc us DA dc ds) 26))):=(aJ _ _).alloc (aE _) _;obtain⟨W,hW⟩:∃W,W=w.alloc (.cells (tiC RA rc rs UA uc us DA dc ds) 26):=⟨_,rfl⟩;rw[<-hW]at HX HB;have HRw:=zq hr;have HUw:=zq hu;have HDw:=zq hd;clear hr hu hd
 go_enter Tryz.func3,Tryz.ntmps3;(go_upto_region 1 with fail);rw[<-hW];clear hW;have HC:=zq (Holdings_c RA rc rs UA uc us DA dc ds th party W (HRw.o.below HB.o) (HUw.o.below HB.o) (HDw.o.below HB.o) hz hz2 hdc hth hpa);(iterate 2 go_step);refine eX _ _ zk w.heap.size 0 zk (tiC RA rc rs UA uc us DA dc ds).toList _ (rangeB HX.o) Tryz.underlying26 rfl zb ?_;(go_wp2_with fail);(with_reducible refine HC.o.mono ?_);rintro e w1⟨v,hs,f,rfl,how,har,hb1,hcase⟩;have HB1:=zq (zAa HB.o hb1);have HX1:=zq (HX.o.below hb1);have HCA:=zq hcase;have HARS:Hid (∀h∈hs,Ars w1 h.A h.ar):=fun h hh=>own_ars (har h hh)
 obtain⟨HA,hc,hve,hrd⟩:=zAs.rdk how;subst hve;have HRD:=zq hrd;have HS1:=zq (Shares_c RA rc rs UA uc us DA dc ds th pl use day w1 (HRw.o.below HB1.o) (HUw.o.below HB1.o) (HDw.o.below HB1.o) hz hz2 hdc hth);have HSE:=zq (srF_err (rs:=rs) (us:=us) (ds:=ds) (th:=th) (pl:=pl) (use:=use) (day:=day));have HLW:=zq (fun(R:List PH)(h1:zBQ rs us ds=0)(h2:zBi th=true)(h3:HdRes (fun F=>F party) rs us ds th R 0)(h4:(zBs rs us ds th pl use day).2=0)=>hold_law (pl:=pl) (use:=use) (day:=day) h1 h2 h3 h4);have hrl:=shares_len rs us ds th pl use day;obtain⟨r1,hr1⟩:∃r,r=zBs rs us ds th pl use day:=⟨_,rfl⟩;rw[<-hr1]at HS1 HSE HLW hrl;clear hr1 hb1 hcase how har hrd HC HX HB;obtain⟨S0,g⟩:=r1;obtain⟨S,hS⟩:∃S,S=S0.map shO:=⟨_,rfl⟩;have hsl:S.length<=1000000:=by rw[hS,dE];exact hrl
 (go_upto_region 2 with fail);(iterate 2 go_step);refine eX _ _ zk w.heap.size 0 zk (tiC RA rc rs UA uc us DA dc ds).toList _ (rangeB HX1.o) Tryz.underlying26 rfl zb ?_;(go_wp2_with fail);(with_reducible refine HS1.o.mono ?_);rintro e w2⟨A1,c1,rfl,hs1,hb2⟩;have HB2:=zq (zAa HB1.o hb2);have HX2:=zq (HX1.o.below hb2);have HRD2:=zq (rdk_belH HRD.o hb2);have HARS2:Hid (∀h∈hs,Ars w2 h.A h.ar):=fun h hh=>(HARS.o h hh).below hb2
 have hs1':Shs w2 A1 S:=by rw[hS];exact hs1
 have HSS:=zq hs1';have hle:(S0.map shO).length=S.length:=by rw[hS]
 rw[hle];clear hs1 hs1' hb2 HX1 HB1 HS1 HRD HARS hrl
 by_cases hff:f=0/\g=0
 case neg =>
  have hl1:f≠0->hs.length=0:=fun hf=>by
   rcases HCA.o with ⟨_,_,rfl⟩|⟨_,_,_,rfl⟩|⟨_,_,h⟩
   ·rfl
   ·rfl
   ·obtain⟨_,_,_,_,_,_,h⟩:=h
    rcases h with ⟨h,_⟩|⟨_,h,_⟩
    ·exact absurd h hf
    ·simpa using bX List.length h
  have hl2:g≠0->S.length=0:=fun hg=>by
   have:=HSE.o hg;rw[hS,this];rfl
  have HL1:=zq hl1;have HL2:=zq hl2;clear HCA HLW HSE HRD2 HARS2 HSS hS hle hl1 hl2;have HFF:=zq hff;clear hff;have HAW:=zq (awake_c w2)
  by_cases hf:f=0
  ·subst hf
   have hg:g≠0:=fun h=>HFF.o ⟨rfl,h⟩
   have q2:(g != 0)=true:=by simpa using hg
   have q3:(g == 0)=false:=by simpa using hg
   have hs0:S.length=0:=HL2.o hg;rw[hs0];clear hg hs0 HL1 HL2 HFF;exact ta7
  ·have q1:(f != 0)=true:=by simpa using hf
   have q0:(f == 0)=false:=by simpa using hf
   have hs0:hs.length=0:=HL1.o hf;rw[hs0]
   by_cases hg:g=0
   ·subst hg
    clear hf hs0 HL1 HL2 HFF;exact ta7
   ·have q3:(g == 0)=false:=by simpa using hg
    have hs1:S.length=0:=HL2.o hg;rw[hs1];clear hf hs0 hg hs1 HL1 HL2 HFF;exact ta7
 obtain⟨rfl,rfl⟩:=hff
 obtain⟨hck,hnm,hres⟩:zBQ rs us ds=0/\(zBi th&&zBi party)=true/\HdRes (fun F=>F party) rs us ds th (hs.map plH) 0:=by
  rcases HCA.o with ⟨h1,h2,_⟩|⟨_,_,h2,_⟩|h
  ·exact absurd h2.symm h1
  ·cases h2
  ·exact h
 obtain⟨hpln,hlen,hheld,hfst⟩:=HLW.o (hs.map plH) hck (by rw[dN]at hnm;exact hnm.1) hres rfl;rw[dE]at hlen;have HG:=zq (zDt (zBM hck).1);have HCR:=zq (zBM hck).1;have HPLN:Hid (∀h∈hs,∃Sx,h.ar=zAN rs Sx):=fun h hh=>hpln (plH h) (List.mem_map.2 ⟨h,hh,rfl⟩)
 have HFST:Hid (∀k (h:k<hs.length),mtB rs use day pl (plH hs[k])=true->heldF rs use day pl ((hs.map plH).take k)=z01):=fun k h hm=>hfst k (by rw[dE];exact h) (by rw[eI];exact hm)
 have HSUC:Hid (∀k (h:k<hs.length),heldF rs use day pl ((hs.map plH).take (k+1))=if mtB rs use day pl (plH hs[k])=true then (hs[k].pn,hs[k].pd) else heldF rs use day pl ((hs.map plH).take k)):=fun k h=>by
  rw[heldF_succ (by rw[dE];exact h),eI]
 have HHELD:Hid (heldF rs use day pl (hs.map plH)=hasF party S):=by show _=_;rw[hS];exact hheld
 clear HCA HLW HSE hck hnm hres hpln hheld hfst hS hle;obtain⟨W5,hW5⟩:∃V,V=(w2.alloc (.cells #[.string ⟨#[48]⟩,.string ⟨#[49]⟩] 36)).alloc (.cells #[.string ⟨#[48]⟩,.string ⟨#[49]⟩] 36):=⟨_,rfl⟩;have y1:Bx W5 w2.heap.size (raB z01) 36:=by rw[hW5];exact(Bx.new _ _ _).alloc _
 have y2:Bx W5 (w2.heap.size+1) (raB z01) 36:=by rw[hW5];exact Bx.new1 _ _ _ _
 have hb5:Below w2.heap.size w2 W5:=by rw[hW5];exact((aJ _ _).alloc (aE _) _).alloc zd _
 have HY1:=zq y1;have HY2:=zq y2;have HB5:=zq hb5;clear y1 y2 hb5;(go_upto_region 6 with fail);rw[<-hW5];clear hW5;obtain⟨B,hBe⟩:∃B,B=w2.heap.size:=⟨_,rfl⟩;go_wp2_with fail
 go_loopg[19] S.length (LhR w2 party S)
 case atStart=>exact⟨0,za,rfl,HY1.o,HY2.o,HB5.o⟩
 clear HY1 HY2 HB5
 case round =>
  obtain⟨k,hk,rfl,hy1,hy2,hb⟩:=hrel;have HK:=zq hk;have HY1:=zq hy1;have HY2:=zq hy2;have HBW:=zq hb;clear hk hy1 hy2 hb
  by_cases hlt:k<S.length
  ·obtain⟨b,o,hA,_,hcl⟩:=(HSS.o.below HBW.o).at_ za
   subst hA;obtain⟨c0,c1',c2⟩:=hcl k hlt;have HT:=zq (hasF_succ (p:=party) hlt);obtain⟨s,hse⟩:∃s,s=S[k]:=⟨_,rfl⟩;rw[<-hse]at HT c0 c1' c2;clear hse hcl
   by_cases hp:s.pt=party
   ·have q1:=zBx hp
    have HT2:Hid (hasF party (S.take (k+1))=(s.nu,s.de)):=HT.o.trans (aD hp);have z0:=HY2.o.c 0 rfl;have z1:=HY2.o.c 1 rfl;have zl:=HY2.o.lt;have zf:=HY2.o.frozen;clear hp;go_wp2
    go_roundg (gk-1)
    case measure=>have:=HK.o;omega
    case rel=>exact⟨k+1,zh,zi,(HY1.o.far zd _).far zd _,by rw[HT2.o];exact(HY2.o.set 0 _).set 1 _,(HBW.o.setCell zd _).setCell zd _⟩
   ·have q1:=zBh hp
    have HT2:Hid (hasF party (S.take (k+1))=hasF party (S.take k)):=HT.o.trans (aW hp);clear hp;go_wp2
    go_roundg (gk-1)
    case measure=>have:=HK.o;omega
    case rel=>exact⟨k+1,zh,zi,HY1.o,by rw[HT2.o];exact HY2.o,HBW.o⟩
  ·obtain rfl:k=S.length:=by have:=HK.o;omega
   rw[aG]at HY2;obtain⟨xh,hxh⟩:∃xh,xh=hasF party S:=⟨_,rfl⟩;rw[<-hxh]at HHELD HY2;clear hxh HSS HK;go_wp2_with fail
   go_loopg[20] hs.length (LdR w2 rs use day pl hs xh)
   case atStart=>exact⟨0,za,rfl,HY1.o,HY2.o,HBW.o⟩
   clear HY1 HY2 HBW
   case round =>
    obtain⟨k,hk,rfl,hy1,hy2,hb⟩:=hrel;have HK:=zq hk;have HY1:=zq hy1;have HY2:=zq hy2;have HBW:=zq hb;have HBT:=zq (zAa HB2.o hb);clear hk hy1 hy2 hb
    by_cases hlt:k<hs.length
    ·obtain⟨b,o,hA,hcl⟩:=rdk_belH HRD2.o HBW.o za
     subst hA;have key:=flat_at (k:=6) (enc:=encH) (fun _=>rfl) hs k hlt;have c0:=hcl (k*6+0) _ (key 0 za);have c1':=hcl (k*6+1) _ (key 1 za);have c2:=hcl (k*6+2) _ (key 2 za);have c3:=hcl (k*6+3) _ (key 3 za);have c4:=hcl (k*6+4) _ (key 4 za);have c5:=hcl (k*6+5) _ (key 5 za);have HT:=zq (HSUC.o k hlt);have HF:=zq (HFST.o k hlt);have HPM:=zq (HPLN.o _ (bI hlt));have HAR:=zq ((HARS2.o _ (bI hlt)).below HBW.o);obtain⟨h,hhe⟩:∃h,h=hs[k]:=⟨_,rfl⟩;rw[<-hhe]at HT HF HPM HAR c0 c1' c2 c3 c4 c5;rw[<-Nat.add_assoc]at c0 c1' c2 c3 c4 c5;rw[cZ]at c0;clear hhe hcl key;have t0:=(HX2.o.below HBW.o).c 0 rfl;have HLV:=zq (fun(u:World)(hu:Below wr.heap.size wr u)=>Leaves_c RA h.A rc h.c rs h.ar u (HRw.o.below (zAa HBT.o hu)) (HAR.o.below hu) hz);have HDR:Hid (Below wr.heap.size wr wr.drew):=zAd (aJ _ _) 1;have HRL:Hid (leavesS rs h.ar=if zCX rs h.ar≠0 then ([],zCX rs h.ar) else (zAW rs h.ar,0)):=by show _=_;unfold leavesS;rw[aW (by rw[HCR.o];simp)]
     obtain⟨r,hr⟩:∃r,r=leavesS rs h.ar:=⟨_,rfl⟩;rw[<-hr]at HLV HRL;clear hr;go_upto_region 14 with fail
     go_region_held3 (fun w'=>w'.cell? ⟨w.heap.size,0,none⟩=some (.slice RA rs.length rc)/\w'.cell? ⟨b,o+k*6+3,none⟩=some (.slice h.A h.ar.length h.c))
      ((refine⟨?_,?_⟩<;>first|with_reducible assumption|go_simp))
      (first
       |((go_at_call 11;(with_reducible refine(HLV.o wr.drew HDR.o).mono ?_);rintro e w5⟨A5,c6,rfl,hs5,hb5⟩;have HB5:=zq (zAa HDR.o hb5);have HS5:=zq hs5;clear hb5 hs5;have y0:=zAe HB5.o t0;have y3:=zAe HB5.o c3)))
     have y0':=zAe HB5.o c0;have y1':=zAe HB5.o c1';have y2':=zAe HB5.o c2;have y4':=zAe HB5.o c4;have y5':=zAe HB5.o c5;have HB25:=zq (zAa HBT.o HB5.o);have HBW5:=zq (zAa HBW.o HB5.o);have HY15:=zq (HY1.o.below HB5.o);have HY25:=zq (HY2.o.below HB5.o);clear c0 c1' c2 c3 c4 c5 t0 HLV HDR HAR HY1 HY2 HBW HBT
     by_cases hca:zCX rs h.ar=0
     case neg =>
      have h100:100<h.ar.length:=by
       obtain⟨Sx,e⟩:=HPM.o;refine Nat.lt_of_not_le fun hle=>hca ?_
       rw[e];exact chkA_plain HG.o (by rw[<-e];exact hle)
      have hre:=HRL.o;rw[aD hca]at hre;subst hre;have q1:(zCX rs h.ar != 0)=true:=by simpa using hca
      have q2:decide (((h.ar.length:Nat):Int)>100)=true:=aT za;clear hca h100 HT HF HPM HRL y0 y0' y1' y2' y4' y5' HS5;go_wp2;go_ret
      exact zAg.mk rfl HB25.o
     have hre:=HRL.o;rw[aW (by rw[hca];simp)]at hre;subst hre
     have hll:(zAW rs h.ar).length<=1000000:=by
      unfold zAW;rw[dE];have h1:=dR (lies rs h.ar) (zAf rs);have h2:=leafIdx_le rs;have h3:=HG.o.len;omega
     have HCT:=zq (zDr A5 c6 (zAW rs h.ar) pl w5 hll HS5.o);clear hca HRL HPM y0 y3;obtain⟨LL,hLL⟩:∃LL,LL=zAW rs h.ar:=⟨_,rfl⟩;have HMT:Hid (mtB rs use day pl (plH h)=(decide (h.us=use)&&decide (h.bg<=day/\day<h.en)&&memS LL pl)):=by rw[hLL];rfl
     rw[<-hLL]at HCT hll HS5;rw[<-hLL];clear hLL;go_upto_region 17 with fail
     go_cut[139] (fun bv wx=>∃bb:Bool,.bool bb=bv/\bb=mtB rs use day pl (plH h)/\Below w5.heap.size w5 wx)
     case first =>
      clear HT HF y4' y5'
      by_cases e1:h.us=use
      case neg =>
       have q1:=zBh e1;have HE:Hid (false=mtB rs use day pl (plH h)):=by show _=_;rw[HMT.o,aU e1];rfl
       clear e1 HMT;exact tdb
      have q1:=zBx e1
      by_cases e2:h.bg<=day
      case neg =>
       have q2:decide (h.bg<=day)=false:=aU e2;have HE:Hid (false=mtB rs use day pl (plH h)):=by show _=_;rw[HMT.o,aU (fun hh:h.bg<=day/\day<h.en=>e2 hh.1)];simp
       clear e1 e2 HMT;exact tdb
      have q2:decide (h.bg<=day)=true:=aT e2
      by_cases e3:day<h.en
      case neg =>
       have q3:decide (day<h.en)=false:=aU e3;have HE:Hid (false=mtB rs use day pl (plH h)):=by show _=_;rw[HMT.o,aU (fun hh:h.bg<=day/\day<h.en=>e3 hh.2)];simp
       clear e1 e2 e3 HMT;exact tdb
      have q3:decide (day<h.en)=true:=aT e3;have HE:Hid (memS LL pl=mtB rs use day pl (plH h)):=by show _=_;rw[HMT.o,aT e1,aT (And.intro e2 e3)];rfl
      clear e1 e2 e3 HMT;(go_wp2_with fail);(with_reducible refine HCT.o.mono ?_);rintro e w6⟨rfl,rfl⟩;go_wp2;go_meet;exact⟨_,rfl,HE.o,aJ _ _⟩
     case rest =>
      obtain⟨bb,rfl,hbb,hbx⟩:=hcut;obtain⟨wx,rfl⟩:∃wx,wx=wc:=⟨_,rfl⟩;have HBX2:=zq (zAa HB25.o hbx);have HBWX:=zq (zAa HBW5.o hbx);have HY1:=zq (HY15.o.below hbx);have HY2:=zq (HY25.o.below hbx);have x4:=zAe hbx y4';have x5:=zAe hbx y5';have HBM:=zq hbb;clear hbb hbx HY15 HY25 y0' y1' y2' y4' y5' HCT HS5 HMT hll
      cases bb with
      |false =>
       have HT2:Hid (heldF rs use day pl ((hs.map plH).take (k+1))=heldF rs use day pl ((hs.map plH).take k)):=HT.o.trans (aW (by rw[<-HBM.o];simp));clear HT HF HBM;go_wp2
       go_roundg (gk-1)
       case measure=>have:=HK.o;omega
       case rel=>exact⟨k+1,zh,zi,by rw[HT2.o];exact HY1.o,HY2.o,HBWX.o⟩
      |true =>
       have HT2:Hid (heldF rs use day pl ((hs.map plH).take (k+1))=(h.pn,h.pd)):=HT.o.trans (aD HBM.o.symm);have hz1:=HY1.o;rw[HF.o HBM.o.symm]at hz1;have HZ1:=zq hz1;have z0:wx.cell? ⟨w2.heap.size,0,none⟩=some (.string ⟨#[48]⟩):=hz1.c 0 rfl;have z1:=hz1.c 1 rfl;have zl:=hz1.lt;have zf:=hz1.frozen;have zq:((⟨#[48]⟩:BA) != ⟨#[48]⟩)=false:=zc;clear HT HF HBM hz1 HY1;go_wp2
       go_roundg (gk-1)
       case measure=>have:=HK.o;omega
       case rel=>exact⟨k+1,zh,zi,by rw[HT2.o];exact(HZ1.o.set 0 _).set 1 _,(HY2.o.far zd _).far zd _,(HBWX.o.setCell zd _).setCell zd _⟩
    ·obtain rfl:k=hs.length:=by have:=HK.o;omega
     have h1:=HY1.o;rw[bC (by rw[dE];exact aE _),HHELD.o]at h1;have z0:=h1.c 0 rfl;have z1:=h1.c 1 rfl;have z2:=HY2.o.c 0 rfl;have z3:=HY2.o.c 1 rfl;have zl:=h1.lt;have zl2:=HY2.o.lt;have HAW:=zq (awake_c wr);clear h1 HY1 HK;(go_wp2_with fail);(with_reducible refine HAW.o.mono ?_);rintro e w6⟨rfl,hb6⟩;have HB6:=zq (zAa HBT.o hb6);clear hb6;go_wp2;go_ret
     exact zAg.mk rfl HB6.o
end Go.Proofs.YtbbchlpccgkikaaGreatDoor
