/- The reference's Read, of a text of at most 500000 bytes. -/
import Derived.Test.YtoaelidmmcbkfaaGreatDoorSr38
set_option maxRecDepth 100000
set_option maxHeartbeats 8000000
namespace Go.Proofs.YtoaelidmmcbkfaaGreatDoor
open Go.RowKit Dw
theorem ReadJ_s (s:BA) (w:World) (hG:GOK w) (hl:s.size≤500000) (L:List Ln) (ll:Ln) (hL:spl 10 s.data.toList=L++[ll]) :
  Calls Tryz.prog 6 #[.string s] w (zAN s.data.toList w):=by
 have HX:Hid (Bx (w.alloc (.cells #[.slice none 0 0,.slice none 0 0,.slice none 0 0] 26)) w.heap.size #[.slice none 0 0,.slice none 0 0,.slice none 0 0] 26):=Bx.new _ _ _;have HB:Hid (Below w.heap.size w (w.alloc (.cells #[.slice none 0 0,.slice none 0 0,.slice none 0 0] 26))):=(bS _ _).alloc (aB _) _;obtain ⟨W,hW⟩:∃ W,W=w.alloc (.cells #[.slice none 0 0,.slice none 0 0,.slice none 0 0] 26):=⟨_,rfl⟩;rw [←hW] at HX HB;obtain ⟨t,ht⟩:∃ t,t=s.data.toList:=⟨_,rfl⟩;have htl:t.length=s.size:=by rw [ht];rfl
 have HG:=zq (hG.below HB.o)
 have HGK:Hid (gkB<w.heap.size):=by
  obtain ⟨m,hm⟩:=hG;exact World.block_lt_of_cell? w _ hm
 rw [←ht] at hL ⊢;have HT:=zq ht;have hl1:¬ (500000:Int)<(s.size:Int):=za;have HSP:=zq (split_c 10 s W za HG.o);rw [←HT.o] at HSP;rw [hL] at HSP
 have hlen:L.length≤500001:=by
  have h1:=spl_len2 10 t;rw [hL,cY] at h1;simp at h1
  omega
 have HSH:Hid (Sht L):=⟨za,fun l hl2=>by
  have:=spl_mem 10 t l (by rw [hL];simp [hl2])
  omega⟩
 have HRF:Hid (zEp t=match zDg (zAQ [] zCr (zAT L).2).2.length (zAQ [] zCr (zAT L).2).2 with
  | .error e=>(([],[],[]),((L.length - e.length:Nat):Int)+1,10)
  | .ok ds=>if ll≠[] then (([],[],[]),(L.length:Int)+1,10)
   else if chkT (zAT L).1 (zAQ [] zCr (zAT L).2).1 ds≠0 then (([],[],[]),0,chkT (zAT L).1 (zAQ [] zCr (zAT L).2).1 ds)
   else (((zAT L).1,(zAQ [] zCr (zAT L).2).1,ds),0,0)):=by
  show _=_
  unfold zEp;rw [aC za,hL,List.dropLast_concat];simp only [List.getLast?_concat,ne_eq,dO]
  rfl
 obtain ⟨tb,htb⟩:∃ tb,tb=(ofL ll).toList.isEmpty:=⟨_,rfl⟩;have q2:(ofL ll).toList.isEmpty=tb:=htb.symm
 have HLL:Hid ((tb=true→ll=[])∧(tb=false→ll≠[])):=by
  rw [htb];refine ⟨fun h=>?_,fun h e=>?_⟩
  ·by_cases hz:ll=[]
   ·exact hz
   ·rw [zAk fun e=>hz (by rw [←zAj ll,e];rfl)] at h;cases h
  ·rw [e,zAm (show ofL []=emp from rfl)] at h;cases h
 clear hG ht hl htl hL htb
 go_enter Tryz.func6,Tryz.ntmps6
 go_upto_region 1 with fail
 rw [←hW];clear hW
 go_wp2_with fail
 with_reducible refine HSP.o.mono ?_
 rintro e w2 ⟨b,n,hn,rfl,hlo,hst,hb2⟩;rw [cY,dK] at hn;have hns:n=L.length+1:=hn;obtain ⟨b',o',hA,hc2⟩:=hst zd
 injection hA with hA
 injection hA with hA1 hA2 _
 subst hA1;subst hA2
 have c0:w2.cell? ⟨b,L.length,none⟩=some (.string (ofL ll)):=by
  have h1:=hc2 L.length zd;rw [bJ] at h1;rw [h1];simp
 have HST:Hid (Strs w2 (some ⟨b,0,none⟩) (L.map ofL)):=fun h0=>⟨b,0,rfl,fun i hi=>by
  rw [aK] at hi;rw [hc2 i zg];simp only [dV];rw [List.getElem_append_left jc]⟩
 have HB2:=zq (zAb HB.o hb2);have HX2:=zq (HX.o.below hb2);have HG2:=zq (HG.o.below hb2)
 have HLO:Hid (w.heap.size+1≤b):=by
  have h1:W.heap.size≤b:=hlo;have h2:=HX.o.lt
  show _≤_
  omega
 have HLT:Hid (b<w2.heap.size):=World.block_lt_of_cell? w2 _ c0;obtain ⟨m,hm⟩:∃ m,m=L.length:=⟨_,rfl⟩;have HM:=zq hm;rw [←hm] at c0 hns hlen;clear hst hc2 hb2 hlo hn HX HB HG HSP hm;have g1:(1:Int)≤(n:Int):=za;have g2:((n:Int) - 1)=(m:Int):=za;have g3:m<n:=za;have g4:n≤500002:=za;obtain ⟨r,hr⟩:∃ r,r=w2.heap.size:=⟨_,rfl⟩;have HLR:Hid (b<r):=by show _<_;rw [hr];exact HLT.o
 have hzr:w.heap.size<r:=by have:=HX2.o.lt;omega
 go_upto_if 32 with fail
 go_cut [5] (fun sv wx=>∃ n5,sv = .slice (some ⟨b,0,none⟩) n5 (m+1)∧(tb=true→n5=m)∧(tb=false→n5=m+1)∧wx=w2)
 case first =>
  cases tb with
  | true =>
   go_wp2_with fail
   go_meet;exact ⟨m,zk,(fun _=>rfl),(fun h=>zy),zk⟩
  | false =>
   go_wp2_with fail
   go_meet;exact ⟨m+1,zk,(fun h=>zy),(fun _=>rfl),zk⟩
 case rest =>
  obtain ⟨n5,rfl,h5t,h5f,rfl⟩:=hcut;have H5:=zq (And.intro h5t h5f);clear h5t h5f q2;go_upto_if 41 with fail
  obtain ⟨wa,hwa⟩:∃ wa,wa=wc.alloc (.cells #[.slice (some ⟨b,0,none⟩) n5 (m+1),.int .i64 0] 52):=⟨_,rfl⟩;have hba:Below wc.heap.size wc wa:=by rw [hwa];exact (bS _ _).alloc (aB _) _
  have hsa:wa.heap.size=r+1:=by rw [hwa,hr];simp
  have HXa:Hid (Bx wa r #[.slice (some ⟨b,0,none⟩) n5 (m+1),.int .i64 0] 52):=by show Bx _ _ _ _;rw [hwa,hr];exact Bx.new _ _ _
  have HBa:=zq hba;have HSa:=zq hsa;have HRr:=zq hr;rw [←hwa,←hr];clear hwa hba hsa hr
  go_cut [] (fun wx=>Below wc.heap.size wc wx∧wx.heap.size=r+1∧Bx wx r (rdjC (some ⟨b,0,none⟩) L.length (m+1) 0) 52)
  case first =>
   cases tb with
   | true =>
    have h5:=H5.o.1 rfl;subst h5
    go_wp2_with fail
    go_meet;exact ⟨HBa.o,HSa.o,by rw [←HM.o];exact HXa.o⟩
   | false =>
    have h5:=H5.o.2 rfl;subst h5;have ya:=HXa.o.c 0 rfl;have yb:=HXa.o.lt;have yc:=HXa.o.frozen;have HXz:=zq (HXa.o.set 0 (.slice (some ⟨b,0,none⟩) m (m+1)));have HBz:Hid (Below wc.heap.size wc (wa.setCell ⟨r,0,none⟩ (.slice (some ⟨b,0,none⟩) m (m+1)))):=dP HBa.o (by show wc.heap.size≤r;rw [HRr.o];exact aB _) _
    have HSz:Hid ((wa.setCell ⟨r,0,none⟩ (.slice (some ⟨b,0,none⟩) m (m+1))).heap.size=r+1):=by show _=_;rw [←HSa.o];simp
    go_wp2_with fail
    go_meet;exact ⟨HBz.o,HSz.o,by rw [←HM.o];exact HXz.o⟩
  case rest =>
   obtain ⟨hb3,hs3,hx3⟩:=hcut;obtain ⟨w3,rfl⟩:∃ w3,w3=wc:=⟨_,rfl⟩;have hr:=HRr.o;clear HXa HBa HSa HRr H5
   have HR3:Hid (RdJ w3 r (some ⟨b,0,none⟩) (m+1) L 0):=by
    refine ⟨hx3,HST.o.below hb3,fun b' o e=>?_,fun b' o e=>?_,aX _,HSH.o.1,HSH.o.2⟩
    ·have h1:=HLR.o
     have e2:b=b':=qk;omega
    ·have h1:=HLR.o
     have e2:b=b':=qk;omega
   have HB3:=zq (zAb HB2.o hb3);have HX3:=zq (HX2.o.below hb3);have HG3:=zq (HG2.o.below hb3);clear hx3 hb3 HST HB2 HX2 HG2 hr;obtain ⟨w4,hw4⟩:∃ w4,w4=w3.alloc (.cells #[.slice none 0 0,.slice none 0 0,.slice none 0 0] 26):=⟨_,rfl⟩;have hb4:Below w3.heap.size w3 w4:=vd;have hs4:w4.heap.size=r+2:=by rw [hw4];simp;omega
   have HQ4:Hid (Bx w4 (r+1) #[.slice none 0 0,.slice none 0 0,.slice none 0 0] 26):=vp;have HB4:=zq (zAb HB3.o hb4);have HX4:=zq (HX3.o.below hb4);have HR4:=zq (HR3.o.below hb4);have HG4:=zq (HG3.o.below hb4)
   have HDS:Hid (HdS w4 (w.heap.size+1) r (r+1) (some ⟨b,0,none⟩)):=by
    have h1:=HLR.o;refine ⟨za,za,za,za,za,fun b' o e=>?_⟩
    have e2:b=b':=qk;exact ⟨za,za⟩
   have HT0:Hid (TjM w4 (w.heap.size+1) r (r+1) (some ⟨b,0,none⟩) (m+1) L [] (.slice none 0 0) [] (.slice none 0 0) [] (.slice none 0 0) 0 false w4):=⟨HDS.o,HQ4.o,zAF.nil _ _ _ _ _,zAF.nil _ _ _ _ _,zAF.nil _ _ _ _ _,(fun _ d hd=>by cases hd),HR4.o,bS _ _⟩
   obtain ⟨rs,hrs⟩:∃ rs,rs=(zAT L).1:=⟨_,rfl⟩;obtain ⟨us,hus⟩:∃ us,us=(zAQ [] zCr (zAT L).2).1:=⟨_,rfl⟩
   have HM0:Hid ((zAQ [] zCr (zAT L).2).2=L.drop (rs.length+us.length)):=by
    show _=_
    rw [usesX_rest,←hus,zDp,←hrs,bY]
   have HSM:Hid ((rs.length≤600000∧us.length≤600000)∧(∀ i (h:i<rs.length),(rs[i]).nm.size≤600000)∧(∀ i (h:i<us.length),(us[i]).size≤600000)):=by
    obtain ⟨a1,a2,a3⟩:=regs_small HSH.o;obtain ⟨c1,c2,_⟩:=uses_sm (first:=zCr) true [] a3
    rw [←hrs] at a1 a2;have c1':us.length≤600000:=by rw [hus];exact c1
    have c2':∀ u∈us,u.size≤600000:=by rw [hus];exact c2
    exact ⟨⟨a1,c1'⟩,fun i h=>a2 _ (aI h),fun i h=>c2' _ (aI h)⟩
   have HRS:Hid (rs=(zAT L).1):=hrs
   have HUS:Hid (us=(zAQ [] zCr (L.drop rs.length)).1):=by
    show _=_
    rw [hus,hrs,←zDp]
   rw [←hrs,←hus,HM0.o] at HRF;obtain ⟨k0,hk0⟩:∃ k0,k0=rs.length+us.length:=⟨_,rfl⟩;rw [←hk0] at HRF;obtain ⟨P0,hP0⟩:∃ P0,P0=zDg (L.drop k0).length (L.drop k0):=⟨_,rfl⟩;rw [←hP0] at HRF;have HPL:Hid (PlX P0 L [] k0 false):=⟨(fun h=>zy),fun _=>⟨_,by rw [hP0,List.map_nil,conX_nil],aB _⟩⟩
   have HTK:Hid (∀ k,(L.drop k).length=L.length - k):=fun k=>bK
   have HK0:Hid (k0=rs.length+us.length):=hk0;have hLm:=HR4.o.many;clear hrs hus hk0 hP0 HM0 HR3 HR4 HQ4 HB3 HX3 HG3 c0;go_step
   go_wp2_with fail
   go_loopg [] (L.length+1) (Tj1 w4 (w.heap.size+1) r (r+1) (some ⟨b,0,none⟩) (m+1) L rs)
   case atStart=>rw [←hw4];exact ⟨[],_,HT0.o,HRS.o.symm,zd⟩
   clear hw4 hb4 HT0 HRS
   case round =>
    obtain ⟨T,v,hm,hal,hms⟩:=hrel;have HM1:=zq hm;have HA1:=zq hal;have HMS:=zq hms;have hTl:T.length≤600000:=j5;obtain ⟨k,hk⟩:∃ k,k=T.length:=⟨_,rfl⟩;have HKE:=zq hk;rw [←hk] at HM1 HA1;clear hm hal hms hk;have HW:=zq (zCD r (some ⟨b,0,none⟩) (m+1) L k ⟨#[114,101,103,105,111,110]⟩ 2 wr HM1.o.rd (HG4.o.belB HM1.o.bel qt) zc);have HW2:Hid (Calls Tryz.prog 14 #[.pointer (some ⟨r,0,none⟩),.string ⟨#[114,101,103,105,111,110]⟩,.int .i64 2] wr (zBN (nxF zBw 2 (L.drop k)) wr)):=HW.o;have HF1:=zq (rg1_nx (L.drop k));have HNO:Hid (rg1 (L.drop k)=none→T=rs):=fun h=>by rw [←HA1.o,zDq,h,aD]
    have HYES:Hid (∀ x,rg1 (L.drop k)=some x→(T++[x])++(zAT (L.drop (k+1))).1=rs):=fun x h=>by
     rw [←HA1.o,zDq (L.drop k),h];simp only [cC,dI,zAX]
    have HWT:Hid (∀ W,nxF zBw 2 (L.drop k)=some W→k<L.length∧∃ n p,W=[n,p]∧n.length≤600000∧p.length≤600000):=fun W hW=>by
     refine ⟨zBi (zDY vo),?_⟩
     have hl:=zDw hW
     match W,hl with
     | [n,p],_=>exact ⟨n,p,rfl,zAU HM1.o.rd.drops hW zd,zAU HM1.o.rd.drops hW zd⟩
    clear HW;generalize rg1 (L.drop k)=ans at *;generalize nxF zBw 2 (L.drop k)=res at *;clear HA1
    go_wp2_with fail
    with_reducible refine HW2.o.mono ?_
    rintro e w1 ⟨A,n1,c1,rfl,hst,hb1⟩;have HM2:=zq (HM1.o.below hb1);have HST:=zq hst;clear hst hb1 HW2 HM1;go_upto_region 12 with fail
    go_cut [76] (fun sv wx=>∃ b2,sv = .bool b2∧TjM w4 (w.heap.size+1) r (r+1) (some ⟨b,0,none⟩) (m+1) L T v [] (.slice none 0 0) [] (.slice none 0 0) k false wx∧(b2=true→ans=none) ∧
     (b2=false→k<L.length∧∃ bw ow n p,A=some ⟨bw,ow,none⟩∧ans=some ⟨ofL n,if p=[45] then emp else ofL p⟩∧wx.cell? ⟨bw,ow,none⟩=some (.string (ofL n))∧wx.cell? ⟨bw,ow+1,none⟩=some (.string (ofL p))∧n1=2))
    case first =>
     cases res with
     | none =>
      have HA:Hid (ans=none):=HF1.o;clear HNO HYES HWT HST HF1
      go_wp2_with fail
      go_meet;exact ⟨true,zk,HM2.o,(fun _=>HA.o),(fun h=>zy)⟩
     | some V =>
      obtain ⟨hkl,n,p,rfl,hnl,hpl⟩:=HWT.o V rfl;obtain ⟨rfl,hlo,hst⟩:=HST.o _ rfl;obtain ⟨bw,ow,hA2,hc2⟩:=hst zd;subst hA2;have c1':w1.cell? ⟨bw,ow,none⟩=some (.string (ofL n)):=hc2 0 zd;have c2':w1.cell? ⟨bw,ow+1,none⟩=some (.string (ofL p)):=hc2 1 zd;have HR:=zq (zCg (ofL n) w1 zr);have HRB:=zq (zCg (ofL p) w1 zr);rw [zAj] at HR HRB;have HF2:Hid (ans=if rowL n=true∧(rowL p=true∨p=[45]) then some ⟨ofL n,if p=[45] then emp else ofL p⟩ else none):=HF1.o
      have E1:=zq c1';have E2:=zq c2';generalize rowL n=b1 at *;generalize rowL p=b3 at *;clear hc2 hst hlo HST HWT HF1
      go_wp2_with fail
      with_reducible refine HR.o.mono ?_
      rintro e vv ⟨rfl,rfl⟩
      cases b1 with
      | false =>
       have HA:Hid (ans=none):=vl;clear HF2 HNO HYES
       go_wp2_with fail
       go_meet;exact ⟨true,zk,HM2.o,(fun _=>HA.o),(fun h=>zy)⟩
      | true =>
       by_cases hp:p=[45]
       ·have HA:Hid (ans=some ⟨ofL n,if p=[45] then emp else ofL p⟩):=by show _=_;rw [HF2.o,aE (by simp [hp])]
        have q1:((ofL p).toList == [45])=true:=lit_eq (by rw [zAj,hp])
        clear HF2 HNO HYES hp
        go_wp2_with fail
        go_meet;exact ⟨false,zk,HM2.o,(fun h=>zy),fun _=>⟨hkl,bw,ow,n,p,zk,HA.o,E1.out,E2.out,zk⟩⟩
       ·have q1:((ofL p).toList == [45])=false:=lit_ne (by rw [zAj];exact hp)
        have HP:=zq hp;clear hp
        go_wp2_with fail
        with_reducible refine HRB.o.mono ?_
        rintro e vv ⟨rfl,rfl⟩
        cases b3 with
        | false =>
         have HA:Hid (ans=none):=by
          show _=_
          rw [HF2.o,aC];rintro ⟨_,h | h⟩
          ·cases h
          ·exact HP.o h
         clear HF2 HNO HYES
         go_wp2_with fail
         go_meet;exact ⟨true,zk,HM2.o,(fun _=>HA.o),(fun h=>zy)⟩
        | true =>
         have HA:Hid (ans=some ⟨ofL n,if p=[45] then emp else ofL p⟩):=by show _=_;rw [HF2.o,aE zd]
         clear HF2 HNO HYES
         go_wp2_with fail
         go_meet;exact ⟨false,zk,HM2.o,(fun h=>zy),fun _=>⟨hkl,bw,ow,n,p,zk,HA.o,E1.out,E2.out,zk⟩⟩
    case rest =>
     obtain ⟨b2,rfl,hm,hbt,hbf⟩:=hcut;have HM:=zq hm;have HBT:=zq hbt;have HBF:=zq hbf;clear hm hbt hbf HWT HST HF1 HM2
     cases b2 with
     | false =>
      obtain ⟨hkl,bw,ow,n,p,rfl,hans,e1,e2,rfl⟩:=HBF.o rfl;have E1:=zq e1;have E2:=zq e2;have HANS:=zq hans;clear e1 e2 hans HBT HBF HNO
      by_cases hp:p=[45]
      ·have q1:((ofL p).toList == [45])=true:=lit_eq (by rw [zAj,hp])
       have HN:Hid ((T++[⟨ofL n,⟨#[]⟩⟩])++(zAT (L.drop (k+1))).1=rs):=HYES.o _ (by rw [HANS.o,aE hp];rfl)
       clear HYES HANS hp;have e1:=E1.out;have e2:=E2.out;obtain ⟨gx,hgx⟩:∃ gx,gx=wc.heap.size:=⟨_,rfl⟩;have HGX:=zq hgx;have hba:Below wc.heap.size wc (wc.alloc (.cells #[.string (ofL n),.string ⟨#[]⟩] 56)):=(bS _ _).alloc (aB _) _;obtain ⟨va,hva⟩:∃ va,va=wc.alloc (.cells #[.string (ofL n),.string ⟨#[]⟩] 56):=⟨_,rfl⟩;have HXa:Hid (Bx va gx #[.string (ofL n),.string ⟨#[]⟩] 56):=jk;rw [←hva] at hba;have HMa:=zq (HM.o.below hba);have d1:=zAh hba e1;have d2:=zAh hba e2;have hgl:w4.heap.size≤gx:=by rw [hgx];exact HM.o.size
       have D2:=zq d2;have HBA:=zq hba;clear hba hgx;go_upto_region 14 with fail
       rw [←hva,←HGX.o];clear hva e1 e2 d1 E1 E2;go_upto_region 16 with fail
       obtain ⟨vb,hvb⟩:∃ vb,vb=va:=⟨_,rfl⟩;rw [←hvb] at HXa HMa d2 ⊢;clear hvb d2 D2 q1;have HMb:=HMa;clear HM HGX HBA;have HXb:=HXa;have x0:=HMb.o.bx.c 0 rfl;have xs:=HMb.o.bx.lt;have y0:=HXb.o.c 0 rfl;have y1:=HXb.o.c 1 rfl;have ys:=HXb.o.lt;have HO:=zq HMb.o.o1;have HMc:Hid (TjM w4 (w.heap.size+1) r (r+1) (some ⟨b,0,none⟩) (m+1) L T v [] (.slice none 0 0) [] (.slice none 0 0) k false (vb.alloc (.cells #[.string (ofL n),.string (⟨#[]⟩)] 56))):=HMb.o.below ((bS _ _).alloc (aB _) _);have hsz:=HMc.o.size;go_upto_region 17 with (at_builtin;refine zAp _ _ _ elRg rfl rfl w4.heap.size v T rfl (HO.o.alloc _) vb.heap.size 1 (⟨ofL n,⟨#[]⟩⟩:Rg) rfl (cI _ _) rfl zu zt za hsz ?_;intro A9 c9 w9 hown9 hg9 hb9 hor9;obtain ⟨z0,zs,zf,hm9⟩:=HMc.o.push1 hown9 hg9;have HM9:=zq hm9;clear hown9 hg9 hb9 hor9 hm9)
       obtain ⟨w10,hw10⟩:∃ w10,w10=w9.setCell ⟨r+1,0,none⟩ (.slice A9 (T.length+1) c9):=⟨_,rfl⟩;rw [←hw10] at HM9 ⊢;clear hw10 z0 zs zf HMc HMb HXb HO x0 xs y0 y1 ys;have y1:w10.cell? ⟨r,1,none⟩=some (.int .i64 (k:Int)):=HM9.o.rd.bx.c 1 rfl;have ys:=HM9.o.rd.bx.lt;have yf:=HM9.o.rd.bx.frozen;have HM10:=zq (HM9.o.read (HM9.o.rd.setk (k':=k+1) hkl) (zAn _ _ _));clear HM9
       go_wp2_with fail
       have ek:((k:Int)+1)=((k+1:Nat):Int):=za;rw [ek]
       go_roundg (gk - 1)
       case measure=>have:=HMS.o;have:=HKE.o;omega
       case rel=>exact ⟨T++[⟨ofL n,⟨#[]⟩⟩],_,jl,jr,jg⟩
      ·have q1:((ofL p).toList == [45])=false:=lit_ne (by rw [zAj];exact hp)
       have HN:Hid ((T++[⟨ofL n,ofL p⟩])++(zAT (L.drop (k+1))).1=rs):=HYES.o _ (by rw [HANS.o,aC hp])
       clear HYES HANS hp;have e1:=E1.out;have e2:=E2.out;obtain ⟨gx,hgx⟩:∃ gx,gx=wc.heap.size:=⟨_,rfl⟩;have HGX:=zq hgx;have hba:Below wc.heap.size wc (wc.alloc (.cells #[.string (ofL n),.string ⟨#[]⟩] 56)):=(bS _ _).alloc (aB _) _;obtain ⟨va,hva⟩:∃ va,va=wc.alloc (.cells #[.string (ofL n),.string ⟨#[]⟩] 56):=⟨_,rfl⟩;have HXa:Hid (Bx va gx #[.string (ofL n),.string ⟨#[]⟩] 56):=jk;rw [←hva] at hba;have HMa:=zq (HM.o.below hba);have d1:=zAh hba e1;have d2:=zAh hba e2;have hgl:w4.heap.size≤gx:=by rw [hgx];exact HM.o.size
       have D2:=zq d2;have HBA:=zq hba;clear hba hgx;go_upto_region 14 with fail
       rw [←hva,←HGX.o];clear hva e1 e2 d1 E1 E2;have xa0:=HXa.o.c 1 rfl;have xas:=HXa.o.lt;have xaf:=HXa.o.frozen;obtain ⟨vb,hvb⟩:∃ vb,vb=va.setCell ⟨gx,1,none⟩ (.string (ofL p)):=⟨_,rfl⟩;have HXb:Hid (Bx vb gx #[.string (ofL n),.string (ofL p)] 56):=by show Bx _ _ _ _;rw [hvb];exact HXa.o.set 1 _
       have hbb:Below wc.heap.size wc vb:=jm;have HMb:=zq (HM.o.below hbb);clear hbb HM HGX HBA;go_upto_region 16 with fail
       rw [←hvb];clear hvb d2 D2 q1 xa0 xas xaf HXa HMa;have x0:=HMb.o.bx.c 0 rfl;have xs:=HMb.o.bx.lt;have y0:=HXb.o.c 0 rfl;have y1:=HXb.o.c 1 rfl;have ys:=HXb.o.lt;have HO:=zq HMb.o.o1;have HMc:Hid (TjM w4 (w.heap.size+1) r (r+1) (some ⟨b,0,none⟩) (m+1) L T v [] (.slice none 0 0) [] (.slice none 0 0) k false (vb.alloc (.cells #[.string (ofL n),.string (ofL p)] 56))):=HMb.o.below ((bS _ _).alloc (aB _) _);have hsz:=HMc.o.size;go_upto_region 17 with (at_builtin;refine zAp _ _ _ elRg rfl rfl w4.heap.size v T rfl (HO.o.alloc _) vb.heap.size 1 (⟨ofL n,ofL p⟩:Rg) rfl (cI _ _) rfl zu zt za hsz ?_;intro A9 c9 w9 hown9 hg9 hb9 hor9;obtain ⟨z0,zs,zf,hm9⟩:=HMc.o.push1 hown9 hg9;have HM9:=zq hm9;clear hown9 hg9 hb9 hor9 hm9)
       obtain ⟨w10,hw10⟩:∃ w10,w10=w9.setCell ⟨r+1,0,none⟩ (.slice A9 (T.length+1) c9):=⟨_,rfl⟩;rw [←hw10] at HM9 ⊢;clear hw10 z0 zs zf HMc HMb HXb HO x0 xs y0 y1 ys;have y1:w10.cell? ⟨r,1,none⟩=some (.int .i64 (k:Int)):=HM9.o.rd.bx.c 1 rfl;have ys:=HM9.o.rd.bx.lt;have yf:=HM9.o.rd.bx.frozen;have HM10:=zq (HM9.o.read (HM9.o.rd.setk (k':=k+1) hkl) (zAn _ _ _));clear HM9
       go_wp2_with fail
       have ek:((k:Int)+1)=((k+1:Nat):Int):=za;rw [ek]
       go_roundg (gk - 1)
       case measure=>have:=HMS.o;have:=HKE.o;omega
       case rel=>exact ⟨T++[⟨ofL n,ofL p⟩],_,jl,jr,jg⟩
     | true =>
      have hT:=HNO.o (HBT.o rfl);subst hT;clear HBT HBF HNO HYES HMS;rw [←HKE.o] at HUS HK0
      go_wp2_with fail
      go_loopg [] (L.length+1 - k) (Tj2 w4 (w.heap.size+1) r (r+1) (some ⟨b,0,none⟩) (m+1) L T v k us)
      case atStart=>exact ⟨[],_,HM.o,HUS.o.symm,by have:=HM.o.rd.le;simp;omega⟩
      clear HM
      case round =>
       obtain ⟨U,vu,hm,hal,hms⟩:=hrel;have HM:=zq hm;have HA1:=zq hal;have HMS:=zq hms;have hTl2:k+U.length≤600000:=j5;have hUl:U.length≤600000:=za;obtain ⟨kk,hkk⟩:∃ kk,kk=k+U.length:=⟨_,rfl⟩;have HKK:=zq hkk;rw [←hkk] at HM HA1;clear hm hal hms hkk;have HW:=zq (use_word r (some ⟨b,0,none⟩) (m+1) L kk wr HM.o.rd (HG4.o.belB HM.o.bel qt));have HST:=zq (usesX_step (L.drop kk));have HP1:Hid (∀ n,zDk [] zCr (L.drop kk)=some n→kk<L.length):=fun n h=>tryX_pos h
       rw [zAX] at HST;generalize zDk [] zCr (L.drop kk)=a1 at *
       go_wp2_with fail
       with_reducible refine HW.o.mono ?_
       rintro e w1 ⟨rfl,hi1,hg1⟩;have HM1:=zq (HM.o.read hi1 hg1);clear hi1 hg1 HM HW
       cases a1 with
       | some n =>
        have hkl1:=HP1.o n rfl;have HTN:Hid ((U++[ofL n])++(zAQ [] zCr (L.drop (kk+1))).1=us):=yg;clear HA1 HST HP1;have HM2:Hid (TjM w4 (w.heap.size+1) r (r+1) (some ⟨b,0,none⟩) (m+1) L T v U vu [] (.slice none 0 0) (kk+1) false w1):=HM1.o;clear HM1;have x1:=HM2.o.bx.c 1 rfl;have xs:=HM2.o.bx.lt;have HO:=zq HM2.o.o2;obtain ⟨sn,hsn⟩:∃ sn,sn=ofL n:=⟨_,rfl⟩;have HSN:=zq hsn;rw [show ((some n).getD []:Ln)=n from rfl,←hsn]
        clear hsn;have HMc:Hid (TjM w4 (w.heap.size+1) r (r+1) (some ⟨b,0,none⟩) (m+1) L T v U vu [] (.slice none 0 0) (kk+1) false (w1.alloc (.cells #[.string sn] 9))):=HM2.o.below ((bS _ _).alloc (aB _) _);have hsz:=HMc.o.size
        go_wp2_with (at_builtin;refine zAp _ _ _ elStr rfl rfl w4.heap.size vu U rfl (HO.o.alloc _) w1.heap.size 1 (sn:BA) rfl (cI _ _) rfl zu zt za hsz ?_;intro A9 c9 w9 hown9 hg9 hb9 hor9;obtain ⟨z0,zs,zf,hm9⟩:=HMc.o.push2 hown9 hg9;have HM9:=zq hm9;clear hown9 hg9 hb9 hor9 hm9)
        go_roundg (gk - 1)
        case measure=>have:=HMS.o;have:=HKK.o;omega
        case rel=>exact ⟨U++[sn],_,by rw [cY,←bZ,←HKK.o];exact HM9.o,yh,yu⟩
       | none =>
        have hTa:U=us:=qw;subst hTa;have hk00:k0=kk:=by have:=HK0.o;have:=HKK.o;omega
        subst hk00;have HM8:Hid (TjM w4 (w.heap.size+1) r (r+1) (some ⟨b,0,none⟩) (m+1) L T v U vu [] (.slice none 0 0) k0 false w1):=HM1.o;clear HM1 HA1 HST HP1 HMS HKK HUS HKE
        go_wp2_with fail
        go_loopg [14] (L.length+2) (Tj3 w4 (w.heap.size+1) r (r+1) (some ⟨b,0,none⟩) (m+1) L T v U vu P0)
        case atStart=>exact ⟨[],_,k0,true,zk,HM8.o,HPL.o,(fun _=>⟨aX _,by have:=HTK.o k0;omega⟩),zd,za⟩
        clear HM8 HPL
        case round =>
         obtain ⟨D,v3,k,good,rfl,hm5,hp,hlt,hDl,hgk⟩:=hrel;have HMr:=zq hm5;have HPr:=zq hp;have HLr:=zq hlt;have HZ:Hid (∀ w',Below (w.heap.size+1) w4 w'→Bx w' w.heap.size #[.slice none 0 0,.slice none 0 0,.slice none 0 0] 26∧Below w.heap.size w w'):=fun w' hb=>⟨(hb.block w.heap.size (bW _)).trans HX4.o,HB4.o.trans (hb.mono (Nat.le_succ _))⟩
         have x0:wr.cell? ⟨r,0,none⟩=some (.slice (some ⟨b,0,none⟩) L.length (m+1)):=hm5.rd.bx.c 0 rfl;have x1:wr.cell? ⟨r,1,none⟩=some (.int .i64 (k:Int)):=hm5.rd.bx.c 1 rfl;have xs:=hm5.rd.bx.lt;have hkL:=hm5.rd.le;clear hm5 hp hlt;have hkw:IntKind.i64.wrap ((k:Int)+1)=(k:Int)+1:=IntWalk.i64_in _ za
         cases good with
         | false =>
          have HERR:Hid (zEp t=(([],[],[]),(k:Int)+1,10)):=by
           show _=_
           rw [HRF.o,HPr.o.1 rfl];have e1:L.length - (L.drop k).length=k:=by rw [HTK.o k];omega
           simp only [e1]
          clear HRF;go_upto_region 22 with fail
          go_quiet (fail)
          have HM6:=zq (HMr.o.below (zAc (bS _ _) nq));clear x0 x1 xs HMr;generalize wr.drewN nq=w6 at *;go_upto_region 27 with fail
          obtain ⟨w7,hw7⟩:∃ w7,w7=w6.drew:=⟨_,rfl⟩;have HM7:Hid (TjM w4 (w.heap.size+1) r (r+1) (some ⟨b,0,none⟩) (m+1) L T v U vu D v3 k (!false) w7):=qi;have HZ7:Hid (Bx w7 w.heap.size #[.slice none 0 0,.slice none 0 0,.slice none 0 0] 26∧Below w.heap.size w w7):=HZ.o w7 HM7.o.bel;obtain ⟨z0,z1,z2⟩:=HZ7.o.1.t;have f0:=HZ7.o.1.frozen 0;have f1:=HZ7.o.1.frozen 1;have f2:=HZ7.o.1.frozen 2;have hsz:=HZ7.o.1.lt;have HS1:Hid (w7.cell? ⟨r,1,none⟩=some (.int .i64 (k:Int))):=HM7.o.rd.bx.c 1 rfl;clear HM6 HM7;refine dW (S:=(fun w'=>w'.cell? ⟨r,1,none⟩=some (.int .i64 (k:Int)))) zb ?_ (fun hHeld=>?_)
          ·first | exact HS1.o | (rw [←hw7];exact HS1.o) | exact HS8.o
          rw [←hw7];clear hw7;refine Dw.tk 0 ?_ rfl ?_ zh ?_
          rotate_left 1
          ·(intro w _;go_simp;try with_reducible rfl)
          simp only [eB,cN,Act.put,cF,dY,bV];refine Dw.tk 1 ?_ rfl ?_ zh ?_
          rotate_left 1
          ·(intro w _;go_simp;try with_reducible rfl)
          simp only [Dw.lay,Act.put];refine Dw.tk 2 ?_ rfl ?_ zh ?_
          rotate_left 1
          ·(intro w _;go_simp;try with_reducible rfl)
          simp only [Dw.lay,Act.put];refine Dw.tk 3 ?_ rfl ?_ zh ?_
          rotate_left 1
          ·(intro w _;go_simp;try with_reducible rfl)
          simp only [Dw.lay,Act.put];refine Dw.tk 4 ?_ rfl ?_ zh ?_
          rotate_left 1
          ·(intro w hSw;(try dsimp only at hSw);go_simp;try with_reducible rfl)
          simp only [Dw.lay,Act.put];refine Dw.tk 5 ?_ rfl ?_ zh ?_
          rotate_left 1
          ·(intro w _;go_simp;try with_reducible rfl)
          simp only [Dw.lay,Act.put];refine Dw.rd1 6 rfl (fun K hK=>?_)
          clear hHeld
          go_simp
          have HS8:Hid ((((w7.setCell ⟨w.heap.size,0,none⟩ (.slice none 0 0)).setCell ⟨w.heap.size,1,none⟩ (.slice none 0 0)).setCell ⟨w.heap.size,2,none⟩ (.slice none 0 0)).cell? ⟨r,1,none⟩=some (.int .i64 (k:Int))):=by
           show _=_
           unfold World.cell?;rw [cH _ _ _ _ yy,cH _ _ _ _ yy,cH _ _ _ _ yy];exact HS1.o
          refine hK.out _ _ ?_ (fun hHeld=>?_)
          ·first | exact HS1.o | (rw [←hw7];exact HS1.o) | exact HS8.o
          clear hK K
          try simp only [Dw.lay,Act.put]
          refine Dw.rd1 7 rfl (fun K hK=>?_)
          clear hHeld
          go_simp
          refine hK.out _ _ ?_ (fun hHeld=>?_)
          ·first | exact HS1.o | (rw [←hw7];exact HS1.o) | exact HS8.o
          clear hK K
          try simp only [Dw.lay,Act.put]
          refine Dw.rd1 8 rfl (fun K hK=>?_)
          clear hHeld
          go_simp
          refine hK.out _ _ ?_ (fun hHeld=>?_)
          ·first | exact HS1.o | (rw [←hw7];exact HS1.o) | exact HS8.o
          clear hK K
          try simp only [Dw.lay,Act.put]
          refine dZ zb ?_ _
          clear hHeld;have HE:Hid (zAN t w (.returned (.tuple #[.agg #[.slice none 0 0,.slice none 0 0,.slice none 0 0],.int .i64 ((k:Int)+1),.int .i64 10])) (((w7.setCell ⟨w.heap.size,0,none⟩ (.slice none 0 0)).setCell ⟨w.heap.size,1,none⟩ (.slice none 0 0)).setCell ⟨w.heap.size,2,none⟩ (.slice none 0 0))):=zAN.no HERR.o (zBE HZ7.o.2 (aB _) _ _ _);go_wp2;refine dD (v:=.tuple #[.agg #[.slice none 0 0,.slice none 0 0,.slice none 0 0],.int .i64 ((k:Int)+1),.int .i64 10]) ?_ rfl HE.o
          simp [results,Tryz.results6,go_sem,z0,z1,z2]
         | true =>
          by_cases hk:k<L.length
          case neg =>
           have q1:decide ((k:Int)<(L.length:Int))=false:=cQ za
           have HP:Hid (P0 = .ok (D.map zBr)):=by
            obtain ⟨f,h1,h2⟩:=HPr.o.2 rfl
            show _=_
            rw [h1,dN za,deedsX_nil];simp [conX]
           go_upto_region 22 with fail
           go_quiet (fail)
           have HM6:=zq (HMr.o.below (zAc (bS _ _) nq));clear x0 x1 xs HMr;generalize wr.drewN nq=w6 at *
           cases tb with
           | false =>
            have HERR:Hid (zEp t=(([],[],[]),(k:Int)+1,10)):=by
             show _=_
             rw [HRF.o,HP.o];simp only [aE (HLL.o.2 rfl)];rw [show L.length=k by omega]
            clear HRF HP q1;go_upto_region 27 with fail
            obtain ⟨w7,hw7⟩:∃ w7,w7=w6.drew:=⟨_,rfl⟩;have HM7:Hid (TjM w4 (w.heap.size+1) r (r+1) (some ⟨b,0,none⟩) (m+1) L T v U vu D v3 k (!true) w7):=qi;have HZ7:Hid (Bx w7 w.heap.size #[.slice none 0 0,.slice none 0 0,.slice none 0 0] 26∧Below w.heap.size w w7):=HZ.o w7 HM7.o.bel;obtain ⟨z0,z1,z2⟩:=HZ7.o.1.t;have f0:=HZ7.o.1.frozen 0;have f1:=HZ7.o.1.frozen 1;have f2:=HZ7.o.1.frozen 2;have hsz:=HZ7.o.1.lt;have HS1:Hid (w7.cell? ⟨r,1,none⟩=some (.int .i64 (k:Int))):=HM7.o.rd.bx.c 1 rfl;clear HM6 HM7;refine dW (S:=(fun w'=>w'.cell? ⟨r,1,none⟩=some (.int .i64 (k:Int)))) zb ?_ (fun hHeld=>?_)
            ·first | exact HS1.o | (rw [←hw7];exact HS1.o) | exact HS8.o
            rw [←hw7];clear hw7;refine Dw.tk 0 ?_ rfl ?_ zh ?_
            rotate_left 1
            ·(intro w _;go_simp;try with_reducible rfl)
            simp only [eB,cN,Act.put,cF,dY,bV];refine Dw.tk 1 ?_ rfl ?_ zh ?_
            rotate_left 1
            ·(intro w _;go_simp;try with_reducible rfl)
            simp only [Dw.lay,Act.put];refine Dw.tk 2 ?_ rfl ?_ zh ?_
            rotate_left 1
            ·(intro w _;go_simp;try with_reducible rfl)
            simp only [Dw.lay,Act.put];refine Dw.tk 3 ?_ rfl ?_ zh ?_
            rotate_left 1
            ·(intro w _;go_simp;try with_reducible rfl)
            simp only [Dw.lay,Act.put];refine Dw.tk 4 ?_ rfl ?_ zh ?_
            rotate_left 1
            ·(intro w hSw;(try dsimp only at hSw);go_simp;try with_reducible rfl)
            simp only [Dw.lay,Act.put];refine Dw.tk 5 ?_ rfl ?_ zh ?_
            rotate_left 1
            ·(intro w _;go_simp;try with_reducible rfl)
            simp only [Dw.lay,Act.put];refine Dw.rd1 6 rfl (fun K hK=>?_)
            clear hHeld
            go_simp
            have HS8:Hid ((((w7.setCell ⟨w.heap.size,0,none⟩ (.slice none 0 0)).setCell ⟨w.heap.size,1,none⟩ (.slice none 0 0)).setCell ⟨w.heap.size,2,none⟩ (.slice none 0 0)).cell? ⟨r,1,none⟩=some (.int .i64 (k:Int))):=by
             show _=_
             unfold World.cell?;rw [cH _ _ _ _ yy,cH _ _ _ _ yy,cH _ _ _ _ yy];exact HS1.o
            refine hK.out _ _ ?_ (fun hHeld=>?_)
            ·first | exact HS1.o | (rw [←hw7];exact HS1.o) | exact HS8.o
            clear hK K
            try simp only [Dw.lay,Act.put]
            refine Dw.rd1 7 rfl (fun K hK=>?_)
            clear hHeld
            go_simp
            refine hK.out _ _ ?_ (fun hHeld=>?_)
            ·first | exact HS1.o | (rw [←hw7];exact HS1.o) | exact HS8.o
            clear hK K
            try simp only [Dw.lay,Act.put]
            refine Dw.rd1 8 rfl (fun K hK=>?_)
            clear hHeld
            go_simp
            refine hK.out _ _ ?_ (fun hHeld=>?_)
            ·first | exact HS1.o | (rw [←hw7];exact HS1.o) | exact HS8.o
            clear hK K
            try simp only [Dw.lay,Act.put]
            refine dZ zb ?_ _
            clear hHeld;have HE:Hid (zAN t w (.returned (.tuple #[.agg #[.slice none 0 0,.slice none 0 0,.slice none 0 0],.int .i64 ((k:Int)+1),.int .i64 10])) (((w7.setCell ⟨w.heap.size,0,none⟩ (.slice none 0 0)).setCell ⟨w.heap.size,1,none⟩ (.slice none 0 0)).setCell ⟨w.heap.size,2,none⟩ (.slice none 0 0))):=zAN.no HERR.o (zBE HZ7.o.2 (aB _) _ _ _);go_wp2;refine dD (v:=.tuple #[.agg #[.slice none 0 0,.slice none 0 0,.slice none 0 0],.int .i64 ((k:Int)+1),.int .i64 10]) ?_ rfl HE.o
            simp [results,Tryz.results6,go_sem,z0,z1,z2]
           | true =>
            obtain ⟨A1,c1,hv1,hr1⟩:=HM6.o.o1.rd2;obtain ⟨A2,c2,hv2,hr2⟩:=HM6.o.o2.rd1;obtain ⟨A3,c3,hv3,hr3⟩:=des_own HM6.o.o3 (fun d hd=>(HM6.o.ds rfl d hd).ok)
            have HR1:=zq hr1;have HO1:=zq HM6.o.o1;have HO2:=zq HM6.o.o2;have HO3:=zq HM6.o.o3;have HDD:=zq (HM6.o.ds rfl);have HR2:=zq hr2;have HR3:=zq hr3;subst hv1;subst hv2;subst hv3
            have HEND:Hid (zEp t=if chkT T U D=0 then ((T,U,D.map zBr),0,0) else (([],[],[]),0,chkT T U D)):=by
             show _=_
             rw [HRF.o,HP.o];simp only [HLL.o.1 rfl,chkT_plain]
             by_cases hz:chkT T U D=0<;>simp [hz]
            clear HRF HP q1 hr1 hr2 hr3;have y0:w6.cell? ⟨r+1,0,none⟩=some (.slice A1 T.length c1):=HM6.o.bx.c 0 rfl;have y1:w6.cell? ⟨r+1,1,none⟩=some (.slice A2 U.length c2):=HM6.o.bx.c 1 rfl;have y2:w6.cell? ⟨r+1,2,none⟩=some (.slice A3 D.length c3):=HM6.o.bx.c 2 rfl;have ys:=HM6.o.bx.lt;have HCK:=zq (CheckTR_c A1 c1 T A2 c2 U A3 c3 D w6 HR1.o HR2.o HR3.o (fun i h=>by have:=HSM.o.2.1 i h;omega) (fun i h=>by have:=HSM.o.2.2 i h;omega))
            go_wp2_with fail
            with_reducible refine HCK.o.mono ?_
            rintro e w7 ⟨rfl,hb7⟩;have HB7:=zq hb7;have HX7:=zq (HM6.o.bx.below hb7);have HZ6:=HZ.o w6 HM6.o.bel;have HZ7:Hid (Bx w7 w.heap.size #[.slice none 0 0,.slice none 0 0,.slice none 0 0] 26∧Below w.heap.size w w7):=⟨HZ6.1.below hb7,HZ6.2.trans (hb7.mono (by have:=HZ6.1.lt;omega))⟩
            have hlt2:=HLr.o zk;clear y0 y1 y2 ys hb7 HCK HM6 HZ6;obtain ⟨z0,z1,z2⟩:=HZ7.o.1.t;have f0:=HZ7.o.1.frozen 0;have f1:=HZ7.o.1.frozen 1;have f2:=HZ7.o.1.frozen 2;have hsz:=HZ7.o.1.lt
            by_cases hcz:chkT T U D=0
            case neg =>
             have hcb:(chkT T U D != 0)=true:=by simpa using hcz
             have HE:Hid (zAN t w (.returned (.tuple #[.agg #[.slice none 0 0,.slice none 0 0,.slice none 0 0],.int .i64 0,.int .i64 (chkT T U D)])) (((w7.setCell ⟨w.heap.size,0,none⟩ (.slice none 0 0)).setCell ⟨w.heap.size,1,none⟩ (.slice none 0 0)).setCell ⟨w.heap.size,2,none⟩ (.slice none 0 0))):=zAN.no (by rw [HEND.o,aC hcz]) (zBE HZ7.o.2 (aB _) _ _ _)
             clear hcz hlt2;go_wp2;refine dD (v:=.tuple #[.agg #[.slice none 0 0,.slice none 0 0,.slice none 0 0],.int .i64 0,.int .i64 (chkT T U D)]) ?_ rfl HE.o
             simp [results,Tryz.results6,go_sem,z0,z1,z2]
            case pos =>
             have hbs:=zBE HZ7.o.2 (aB _) (.slice A1 T.length c1) (.slice A2 U.length c2) (.slice A3 D.length c3)
             have HE:Hid (zAN t w (.returned (.tuple #[.agg #[.slice A1 T.length c1,.slice A2 U.length c2,.slice A3 D.length c3],.int .i64 0,.int .i64 0])) (((w7.setCell ⟨w.heap.size,0,none⟩ (.slice A1 T.length c1)).setCell ⟨w.heap.size,1,none⟩ (.slice A2 U.length c2)).setCell ⟨w.heap.size,2,none⟩ (.slice A3 D.length c3))) :=
              ⟨A1,c1,T,A2,c2,U,A3,c3,D,0,0,rfl,by rw [HEND.o,aE hcz],fin_rows za _ _ _ (HO1.o.below HB7.o) (HO2.o.below HB7.o) (HO3.o.below HB7.o) (fun d h=>(HDD.o d h).below HB7.o),⟨HSM.o.1.1,HSM.o.1.2,za⟩,HSM.o.2.1,HSM.o.2.2,hbs⟩
             rw [hcz];clear hcz hlt2 hbs;obtain ⟨g0,g1,g2⟩:=HX7.o.t;have gs:=HX7.o.lt;go_wp2;refine dD (v:=.tuple #[.agg #[.slice A1 T.length c1,.slice A2 U.length c2,.slice A3 D.length c3],.int .i64 0,.int .i64 0]) ?_ rfl HE.o
             simp [results,Tryz.results6,go_sem,z0,z1,z2]
          case pos =>
           have q1:decide ((k:Int)<(L.length:Int))=true:=cP za;go_upto_region 22 with fail
           go_quiet (fail)
           have HM6:Hid (TjM w4 (w.heap.size+1) r (r+1) (some ⟨b,0,none⟩) (m+1) L T v U vu D v3 k false (wr.drewN nq)):=HMr.o.below (zAc (bS _ _) nq);clear x0 x1 xs HMr q1 hkw;generalize wr.drewN nq=w6 at *;have HDE:=zq (deedJ_c r (some ⟨b,0,none⟩) (m+1) L k w6 HM6.o.rd (HG4.o.belB HM6.o.bel qt) qt);have hlt2:=HLr.o zk
           go_wp2_with fail
           with_reducible refine HDE.o.mono ?_
           rintro e w7 ⟨d,k',ok,rfl,hi,hgr,hy,hn⟩;have HM7:=zq (HM6.o.read hi hgr)
           have HQ7:Hid ((!ok)=false→false=false∧DsQ w4.heap.size v3 w7 d):=fun hb=>by
            obtain ⟨qd,hqd,hde,hdx⟩:=hy (by cases ok with | true=>rfl | false=>cases hb)
            have h1:=(deedX_sm (HSH.o.dropk k) hdx).1;exact ⟨rfl,dsQ_ofJ hde (by have:=HM6.o.size;omega) ⟨h1.strs,h1.lens,h1.shz⟩ HM6.o.o3 (bG hqd)⟩
           have HYN:Hid ((ok=true→zAG (L.drop k) = .ok (plD d,L.drop k'))∧(ok=false→zAG (L.drop k) = .error (L.drop k'))):=⟨fun e=>by
            obtain ⟨_,_,_,h⟩:=hy e;exact h,hn⟩
           obtain ⟨gd,hgd⟩:∃ gd,gd=w7.heap.size:=⟨_,rfl⟩;have HGD:=zq hgd;obtain ⟨w8,hw8⟩:∃ w8,w8=w7.alloc (.cells (deC d) 47):=⟨_,rfl⟩;have hb8:Below w7.heap.size w7 w8:=by rw [hw8];exact (bS _ _).alloc (aB _) _
           have HX8:Hid (Bx w8 gd (deC d) 47):=by show Bx _ _ _ _;rw [hw8,hgd];exact Bx.new _ _ _
           have HM8:=zq (HM7.o.below hb8);have HQ8:Hid ((!ok)=false→false=false∧DsQ w4.heap.size v3 w8 d):=fun hb=>⟨rfl,(HQ7.o hb).2.below hb8⟩
           clear hi hgr hy hn hgd hb8 HM6 HM7 HQ7 HDE;go_upto_region 25 with fail
           rw [←hw8,←HGD.o];clear hw8 HGD;have x2:=HM8.o.bx.c 2 rfl;have xs:=HM8.o.bx.lt;have HO:=zq HM8.o.o3;have HMc:Hid (TjM w4 (w.heap.size+1) r (r+1) (some ⟨b,0,none⟩) (m+1) L T v U vu D v3 k' false (w8.alloc (.cells (deC d) 47))):=HM8.o.below ((bS _ _).alloc (aB _) _);have HQc:Hid ((!ok)=false→false=false∧DsQ w4.heap.size v3 (w8.alloc (.cells (deC d) 47)) d):=fun hb=>⟨rfl,(HQ8.o hb).2.below ((bS _ _).alloc (aB _) _)⟩
           have hsz:=HMc.o.size
           iterate 8 go_step
           refine eA _ _ zo gd 0 zo (deC d).toList _ (zBu HX8.o) Tryz.underlying47 rfl zb ?_
           go_wp2_with (at_builtin;refine zAp (k:=16) (enc:=eDq) _ _ _ elDq rfl rfl w4.heap.size v3 D rfl (HO.o.alloc _) w8.heap.size 1 d rfl (cI _ _) rfl (oneDq _) zt za hsz ?_;intro A9 c9 w9 hown9 hg9 hb9 hor9;obtain ⟨z0,zs,zf,hm9⟩:=HMc.o.push3 HQc.o hown9 hg9 (hor9.imp id fun e=>⟨_,e,zd⟩);have HM9:=zq hm9;clear hown9 hg9 hb9 hor9 hm9)
           obtain ⟨hp1,hp2⟩:=HPr.o.stepJ hk HYN.o.1 HYN.o.2;have HP1:=zq hp1;have HP2:=zq hp2;have HL1:=HTK.o k;have HL2:=HTK.o k'
           go_roundg (gk - 1)
           case measure=>omega
           case rel=>exact ⟨D++[d],_,k',ok,zk,HM9.o,HP1.o,(fun hb=>by have:=HP2.o (by rw [hb];rfl);rw [cY,dK];omega),vm,za⟩
end Go.Proofs.YtoaelidmmcbkfaaGreatDoor
