/- Parts of the proof, joined: DERIVED: THE SHELF's CONTRACTS AT THIS DUMP, IN PLAIN WORDS (tools/lay. -/
import Derived.Test.YtoaelidmmcbkfaaGreatDoorSr08
import Derived.Orders
import Derived.RegionTactic
set_option maxRecDepth 100000
set_option maxHeartbeats 8000000
namespace Go.Proofs
open Go.Shelf
def Tryz.lays99_ren:Go.Shelf.Ren:=⟨fun | 99=>45 | 206=>77 | n=>n,fun | 9=>9 | 4=>4 | 3=>3 | n=>n,fun | n=>n⟩
theorem Tryz.lays99:Go.Proofs.Lays.n99 Tryz.prog Tryz.lays99_ren:={
 mixed:=zb
 f99:=Tryz.func45.trans (aY some zb)
 f206:=Tryz.func77.trans (aY some zb)
 t3:=Tryz.underlying3
 a3:=Tryz.isAgg3
 z3:=Tryz.sizeOf3
 v3:=Tryz.zeroValue3
 t4:=Tryz.underlying4
 a4:=Tryz.isAgg4
 z4:=Tryz.sizeOf4
 v4:=Tryz.zeroValue4
 t9:=Tryz.underlying9
 a9:=Tryz.isAgg9
 z9:=Tryz.sizeOf9
 v9:=Tryz.zeroValue9 }
end Go.Proofs
namespace Go.Proofs.YtoaelidmmcbkfaaGreatDoor
open Go.Shelf Go.RowKit Dw
def nxF (beg:Ln) (many:Nat):List Ln→Option (List Ln)
 | []=>none
 | l::_=>if beg.isPrefixOf l=true then (if many=0 then (if l.drop beg.length=[] then some [] else none) else if (l.drop beg.length).head?=some 32∧(spl 32 (l.drop beg.length).tail).length=many then some (spl 32 (l.drop beg.length).tail) else none) else none
theorem nxF_cons (beg:Ln) (many:Nat) (l:Ln) (r:List Ln):nxF beg many (l::r)=if beg.isPrefixOf l=true then (if many=0 then (if l.drop beg.length=[] then some [] else none) else if (l.drop beg.length).head?=some 32∧(spl 32 (l.drop beg.length).tail).length=many then some (spl 32 (l.drop beg.length).tail) else none) else none:=rfl
theorem spl_first {first l:Ln} (h:(32:UInt8)∉first):(spl 32 l).head?=some first↔l=first∨∃ r,l=first++32::r:=by
 constructor
 ·intro hh
  cases hs:spl 32 l with
  | nil=>exact absurd hs (spl_ne l)
  | cons a t =>
   rw [hs] at hh;have ha:a=first:=by simpa using hh
   have hj:=joi_spl (c:=32) l;rw [hs,ha] at hj
   cases t with
   | nil=>exact .inl hj.symm
   | cons b t=>exact .inr ⟨_,by rw [←hj,joi_cons zd]⟩
 ·rintro (rfl | ⟨r,rfl⟩)
  ·rw [spl_one h];rfl
  ·rw [spl_app r h];rfl
theorem wd_nx {pre first:Ln} (h:(32:UInt8)∉first) (many:Nat) (M:List Ln):wdF pre first (many+1) M=(nxF (pre++first) many M).map (first::·):=by
 cases M with
 | nil=>rfl
 | cons l r =>
  rw [wdF_cons,nxF_cons]
  by_cases hp:pre.isPrefixOf l=true
  ·obtain ⟨t,rfl⟩:=List.isPrefixOf_iff_prefix.1 hp
   have e1:(pre++t).drop pre.length=t:=zd;rw [e1]
   by_cases hf:(pre++first).isPrefixOf (pre++t)=true
   ·obtain ⟨q,hq⟩:=List.isPrefixOf_iff_prefix.1 hf
    have ht:t=first++q:=by rw [cC] at hq;exact (List.append_cancel_left hq).symm
    subst ht;have e2:(pre++(first++q)).drop (pre++first).length=q:=by rw [←cC];simp
    rw [aE hf,e2]
    cases q with
    | nil =>
     rw [aD,spl_one h]
     by_cases hm:many=0
     ·subst hm
      simp
     ·simp [hm]
    | cons b q =>
     by_cases hb:b=32
     ·subst hb
      rw [spl_app q h]
      by_cases hm:many=0
      ·subst hm
       simp [hp,spl_ne]
      ·by_cases hl:(spl 32 q).length=many
       ·simp [hp,hl,hm]
       ·simp [hp,hl,hm]
     ·have hn:¬ (spl 32 (first++b::q)).head?=some first:=fun hh=>by
       rcases (spl_first h).1 hh with e | ⟨r,e⟩
       ·have:=aY List.length e;simp at this
       ·have:=List.append_cancel_left e
        injection this with this _
        exact hb this
      rw [aC (fun hh=>hn hh.2.1)]
      by_cases hm:many=0
      ·simp [hm]
      ·simp [hm,hb]
   ·rw [aC hf]
    have hn:¬ (spl 32 t).head?=some first:=fun hh=>by
     apply hf
     rw [List.isPrefixOf_iff_prefix]
     rcases (spl_first h).1 hh with rfl | ⟨r,rfl⟩
     ·exact List.prefix_refl _
     ·exact ⟨32::r,zd⟩
    rw [aC (fun hh=>hn hh.2.1)];rfl
  ·have hf:¬ (pre++first).isPrefixOf l=true:=fun hh=>hp (by
    rw [List.isPrefixOf_iff_prefix] at hh ⊢;exact (List.prefix_append _ _).trans hh)
   rw [aC hf,aC (fun hh=>hp hh.1)];rfl
abbrev rdjC (LA:Option Addr) (n c:Nat) (k:Nat):Array Value:=#[.slice LA n c,.int .i64 (k:Int)]
structure RdJ (w:World) (r:Nat) (LA:Option Addr) (c:Nat) (L:List Ln) (k:Nat):Prop where
 bx:Bx w r (rdjC LA L.length c k) 52
 ls:Strs w LA (L.map ofL)
 ne:∀ b o,LA=some ⟨b,o,none⟩→b≠r
 la:∀ b o,LA=some ⟨b,o,none⟩→b<w.heap.size
 le:k≤L.length
 many:L.length≤600000
 short:∀ l∈L,l.length≤600000
section
variable {w w':World} {r:Nat} {LA:Option Addr} {c:Nat} {L:List Ln} {k B:Nat}
theorem RdJ.below (h:RdJ w r LA c L k) (hb:Below w.heap.size w w'):RdJ w' r LA c L k:=⟨h.bx.below hb,h.ls.below hb,h.ne,fun b o e=>cX (h.la b o e) hb.size,h.le,h.many,h.short⟩
theorem RdJ.grown {q:Nat} (h:RdJ w r LA c L k) (hg:w.grownBy w' (some q)) (h1:r≠q) (h2:∀ b o,LA=some ⟨b,o,none⟩→b≠q):RdJ w' r LA c L k:=by
 refine ⟨(hg.block r h.bx.lt fun e=>h1 xd).trans h.bx,fun h0=>?_,h.ne,fun b o e=>cX (h.la b o e) hg.size,h.le,h.many,h.short⟩
 obtain ⟨b,o,hA,hc⟩:=h.ls h0;exact ⟨b,o,hA,fun i hi=>hg.cell (hc i hi) fun e=>h2 b o hA xd⟩
theorem RdJ.setk {k':Nat} (h:RdJ w r LA c L k) (hk:k'≤L.length):RdJ (w.setCell ⟨r,1,none⟩ (.int .i64 (k':Int))) r LA c L k':=by
 refine ⟨h.bx.set 1 _,fun h0=>?_,h.ne,fun b o e=>by simpa using h.la b o e,hk,h.many,h.short⟩
 obtain ⟨b,o,hA,hc⟩:=h.ls h0;exact ⟨b,o,hA,fun i hi=>qq⟩
theorem RdJ.taken (h:RdJ w r LA c L k) (hb:Below B w w') (hr:r<B) (hL:∀ b o,LA=some ⟨b,o,none⟩→b<B):RdJ w' r LA c L k:=by
 refine ⟨(hb.block r hr).trans h.bx,fun h0=>?_,h.ne,fun b o e=>cX (h.la b o e) hb.size,h.le,h.many,h.short⟩
 obtain ⟨b,o,hA,hc⟩:=h.ls h0;exact ⟨b,o,hA,fun i hi=>by unfold World.cell?;rw [hb.block b (hL b o hA)];exact hc i hi⟩
theorem RdJ.drops (h:RdJ w r LA c L k):∀ l∈L.drop k,l.length≤600000:=fun l hl=>h.short l (bX hl)
end
def zBN (res:Option (List Ln)) (w:World) (e:Ending) (w':World):Prop :=
 ∃ A n c,e = .returned (.tuple #[.slice A n c,.bool res.isSome])∧(∀ W,res=some W→n=W.length∧(∀ b o,A=some ⟨b,o,none⟩→w.heap.size≤b)∧Strs w' A (W.map ofL))∧Below w.heap.size w w'
theorem zBN.no {w w':World} (hb:Below w.heap.size w w'):zBN none w (.returned (.tuple #[.slice none 0 0,.bool false])) w':=⟨none,0,0,rfl,(fun _ h=>zy),hb⟩
theorem hasPre_c (s p:BA) (w:World):Calls Tryz.prog 45 #[.string s,.string p] w (fun e w'=>e = .returned (.bool (p.data.toList.isPrefixOf s.data.toList))∧w'=w):=by
 have h:=Any.strings_HasPrefix Tryz.lays99 s p w
 change Calls Tryz.prog 45 _ _ _ at h
 exact h
theorem zCD (r:Nat) (LA:Option Addr) (c:Nat) (L:List Ln) (k:Nat) (beg:BA) (many:Nat) (w:World) (h:RdJ w r LA c L k) (hG:GOK w) (hm:many≤10) :
  Calls Tryz.prog 14 #[.pointer (some ⟨r,0,none⟩),.string beg,.int .i64 (many:Int)] w (zBN (nxF beg.data.toList many (L.drop k)) w):=by
 have HI:=zq h;have hle:=h.le;have hmany:=h.many;have x0:w.cell? ⟨r,0,none⟩=some (.slice LA L.length c):=h.bx.c 0 rfl;have x1:w.cell? ⟨r,1,none⟩=some (.int .i64 (k:Int)):=h.bx.c 1 rfl;have hr:=h.bx.lt
 by_cases hk:k<L.length
 case neg =>
  have q1:((k:Int) == (L.length:Int))=true:=by rw [beq_iff_eq];omega
  have HV:Hid (nxF beg.data.toList many (L.drop k)=none):=by
   show _=_
   rw [dN za];rfl
  clear h
  go_enter Tryz.func14,Tryz.ntmps14
  go_upto_region 1 with fail
  go_quiet (fail)
  go_wp2;go_ret2
  rw [HV.o];exact zBN.no (zAc (bS _ _) _)
 have q1:((k:Int) == (L.length:Int))=false:=ja;obtain ⟨b,o,hA,hc⟩:=h.ls (by rw [aK];omega)
 subst hA;have hc0:=hc k (by rw [aK];exact hk)
 rw [aL] at hc0;have HD:Hid (L.drop k=L[k]::L.drop (k+1)):=aF hk;have hll:=h.short _ (aI hk);generalize L[k]=l at *;have HP:=zq (fun u=>hasPre_c (ofL l) beg u)
 simp only [zAj] at HP;obtain ⟨pf,hpf⟩:∃ pf,pf=beg.data.toList.isPrefixOf l:=⟨_,rfl⟩;rw [←hpf] at HP;have HPF:=zq hpf;have HG:=zq hG;obtain ⟨ql,hql⟩:∃ x,x=ofL l:=⟨_,rfl⟩;rw [←hql] at HP hc0;have HQL:=zq hql;clear hc hG hql hpf h
 go_enter Tryz.func14,Tryz.ntmps14
 go_upto_region 1 with fail
 go_quiet ((go_at_call 45;exact Calls.quiet_of_same (HP.o _)))
 have HB1:Hid (Below w.heap.size w (w.drewN nq)):=zAc (bS _ _) nq;have HI1:=zq (HI.o.below HB1.o);have HG1:=zq (HG.o.below HB1.o);have hc1:=zAh HB1.o hc0;clear x0 x1 hr hc0;generalize w.drewN nq=w1 at *
 cases pf with
 | false =>
  have HV:Hid (nxF beg.data.toList many (L.drop k)=none):=by
   show _=_
   rw [HD.o,nxF_cons,←HPF.o,aC zd]
  go_wp2;go_ret2
  rw [HV.o];exact zBN.no HB1.o
 | true =>
  have x0:w1.cell? ⟨r,0,none⟩=some (.slice (some ⟨b,o,none⟩) L.length c):=HI1.o.bx.c 0 rfl;have x1:w1.cell? ⟨r,1,none⟩=some (.int .i64 (k:Int)):=HI1.o.bx.c 1 rfl;have hr:=HI1.o.bx.lt
  have hpl:beg.size≤ql.size:=by
   obtain ⟨t,ht⟩:=List.isPrefixOf_iff_prefix.1 HPF.o.symm;have:=aY List.length ht;rw [cY] at this;rw [HQL.o,ofL_size];have e:beg.data.toList.length=beg.size:=rfl;omega
  have hqs:ql.size≤600000:=by rw [HQL.o,ofL_size];exact hll
  go_upto_region 3 with fail
  go_quiet (fail)
  have HB2:Hid (Below w.heap.size w (w1.drewN nq)):=zAc HB1.o nq;have HG2:=zq (HG1.o.below (zAc (bS _ _) nq));clear x0 x1 hr hc1 HI1 HG1 HB1;generalize w1.drewN nq=w2 at *
  have HQS:Hid ((ql.extract beg.size ql.size).data.toList=l.drop beg.data.toList.length):=by
   show _=_
   rw [Lib.extract_data,HQL.o,zAj,cS (by rw [bK,ofL_size];exact aB _)]
   rfl
  have hqz:(ql.extract beg.size ql.size).size≤600000:=by
   have e:(ql.extract beg.size ql.size).size=(ql.extract beg.size ql.size).data.toList.length:=rfl;rw [e,HQS.o,bK];omega
  generalize ql.extract beg.size ql.size=qs at *
  have HV0:Hid (nxF beg.data.toList many (L.drop k)=if many=0 then (if qs.data.toList=[] then some [] else none) else if qs.data.toList.head?=some 32∧(spl 32 qs.data.toList.tail).length=many then some (spl 32 qs.data.toList.tail) else none):=by
   show _=_
   rw [HD.o,nxF_cons,←HPF.o,aE rfl,HQS.o]
  clear HP HQL HPF HQS HD hpl hqs hll
  by_cases hm0:many=0
  case pos =>
   subst hm0
   by_cases hq:qs=emp
   ·have q2:=zAm hq
    have HV:Hid (nxF beg.data.toList 0 (L.drop k)=some []):=by show _=_;rw [HV0.o,aE rfl,aE (zCo.1 hq)]
    clear hq;go_wp2;go_ret2
    rw [HV.o];exact ⟨none,0,0,rfl,(fun W hW=>by injection hW with hW;subst hW;exact ⟨rfl,(fun _ _ e=>vz),fun h=>absurd h zd⟩),HB2.o⟩
   ·have q2:=zAk hq
    have HV:Hid (nxF beg.data.toList 0 (L.drop k)=none):=by show _=_;rw [HV0.o,aE rfl,aC (fun e=>hq (zCo.2 e))]
    clear hq;go_wp2;go_ret2
    rw [HV.o];exact zBN.no HB2.o
  case neg =>
   have q3:((many:Int) == 0)=false:=ja;have HM0:=zq hm0;have HP2:=zq (hasPre_c qs ⟨#[32]⟩ w2);obtain ⟨pf,hpf⟩:∃ pf,pf=([32]:Ln).isPrefixOf qs.data.toList:=⟨_,rfl⟩;have hpf2:((⟨#[32]⟩:BA).data.toList.isPrefixOf qs.data.toList)=pf:=hpf.symm;rw [hpf2] at HP2;have HPF:=zq hpf;clear hpf hpf2 hm0
   go_wp2_with fail
   with_reducible refine HP2.o.mono ?_
   rintro e w3 ⟨rfl,rfl⟩;clear HP2
   cases pf with
   | false =>
    have HV:Hid (nxF beg.data.toList many (L.drop k)=none):=by
     show _=_
     rw [HV0.o,aC HM0.o,aC];rintro ⟨h1,_⟩;have h2:=HPF.o
     cases hq:qs.data.toList with
     | nil=>rw [hq] at h1;cases h1
     | cons a t =>
      rw [hq] at h1 h2;have ha:a=32:=by simpa using h1
      subst ha;simp [List.isPrefixOf] at h2
    go_wp2;go_ret2
    rw [HV.o];exact zBN.no HB2.o
   | true =>
    obtain ⟨q,hq⟩:∃ q,qs.data.toList=32::q:=by
     have h2:=HPF.o
     cases hq:qs.data.toList with
     | nil=>rw [hq] at h2;cases h2
     | cons a t =>
      rw [hq] at h2
      have ha:a=32:=by
       have:(32 == a)=true:=by simpa [List.isPrefixOf] using h2.symm
       exact (beq_iff_eq.1 this).symm
      exact ⟨t,by rw [ha]⟩
    have hq1:1≤qs.size:=by
     have e:qs.size=qs.data.toList.length:=rfl;rw [e,hq];simp
    have HX:Hid (qs.extract 1 qs.size=ofL q):=by
     show _=_
     rw [←zDJ (qs.extract 1 qs.size),Lib.extract_data,hq]
     congr 1
     rw [List.drop_one,List.tail_cons,cS];have e:qs.size=qs.data.toList.length:=rfl;rw [e,hq];simp
    have hql2:q.length≤600000:=by
     have e:qs.size=qs.data.toList.length:=rfl;rw [e,hq] at hqz;simp at hqz;omega
    have HV:Hid (nxF beg.data.toList many (L.drop k)=if (spl 32 q).length=many then some (spl 32 q) else none):=by
     show _=_
     rw [HV0.o,aC HM0.o,hq]
     by_cases hs:(spl 32 q).length=many<;>simp [hs]
    have HSP:=zq (split_c 32 (ofL q) w3 zr HG2.o);rw [zAj] at HSP;have hsl:=spl_len 32 q;clear hq HV0 HPF;rw [←HX.o] at HSP;clear HX
    go_wp2_with fail
    with_reducible refine HSP.o.mono ?_
    rintro e w4 ⟨b4,n4,hn4,rfl,hlo,hst,hb4⟩;have HLO:Hid (w.heap.size≤b4):=cV HB2.o.size hlo;have HB4:=zq (zAb HB2.o hb4);have HST:=zq hst;have hn5:n4≤600001:=za
    by_cases hl:n4=many
    ·have q4:((n4:Int) == (many:Int))=true:=by rw [beq_iff_eq];omega
     have HW:Hid (nxF beg.data.toList many (L.drop k)=some (spl 32 q)):=by show _=_;rw [HV.o,aE za]
     have HN4:=zq hn4;clear hl hn4 hst hb4 hlo;go_wp2;go_ret2
     rw [HW.o];refine ⟨_,n4,n4,rfl,fun W hW=>?_,HB4.o⟩
     injection hW with hW
     subst hW;exact ⟨HN4.o,(fun b o e=>by injection e with e;injection e with e _ _;rw [←e];exact HLO.o),HST.o⟩
    ·have q4:((n4:Int) == (many:Int))=false:=by rw [aG];omega
     have HW:Hid (nxF beg.data.toList many (L.drop k)=none):=by show _=_;rw [HV.o,aC za]
     clear hl hn4 hst hb4 hlo;go_wp2;go_ret2
     rw [HW.o];exact ⟨_,n4,n4,rfl,(fun W hW=>by cases hW),HB4.o⟩
theorem numS_no {s:Ln} (h:s=[]∨9<s.length∨s.all dgB=false∨(s.length≠1∧(s.headD 0).toNat=48)):zDv s=none:=by
 unfold zDv;rw [aC];rintro ⟨h1,h2,h3,h4⟩
 rcases h with h | h | h | ⟨h,h'⟩
 ·exact h1 h
 ·omega
 ·rw [h] at h2;cases h2
 ·rcases h4 with h4 | h4
  ·exact h h4
  ·exact h4 h'
theorem rsNum_c (s:BA) (w:World) (hs:s.size≤9223372036854775807):Calls Tryz.prog 46 #[.string s] w (zAd (.tuple #[.int .i64 (((zDv s.data.toList).getD 0:Nat):Int),.bool (zDv s.data.toList).isSome]) w):=by
 have hsz:s.data.toList.length=s.size:=Array.length_toList;obtain ⟨res,hres⟩:∃ res,res=zDv s.data.toList:=⟨_,rfl⟩;have HR:=zq hres;rw [←hres];have HNO:Hid (res=none→∀ w',Below w.heap.size w w'→zAd (.tuple #[.int .i64 ((res.getD 0:Nat):Int),.bool res.isSome]) w (.returned (.tuple #[.int .i64 0,.bool false])) w'):=fun h w' hb=>by rw [h];exact zAd.mk rfl hb
 clear hres
 by_cases h1:s=emp
 ·have q1:=zAm h1
  have HV:=zq (HNO.o (HR.o.trans (numS_no (.inl (zCo.1 h1)))) w (bS _ _));clear h1
  go_enter Tryz.func46,Tryz.ntmps46
  go_wp2_with fail
  go_ret2
  exact HV.o
 have q1:=zAk h1
 have hpos:0<s.size:=by
  rcases bH s.size with h | h
  ·exact absurd (zCo.2 (cZ (hsz.trans h))) h1
  ·exact h
 have hh:s.data.toList.headD 0=s[0]'hpos:=zCB s hpos;clear h1
 by_cases h9:9<s.size
 ·have q2:(9:Int)<(s.size:Int):=by omega
  have HV:=zq (HNO.o (HR.o.trans (numS_no (.inr (.inl za)))) w (bS _ _));clear h9 hh
  go_enter Tryz.func46,Tryz.ntmps46
  go_wp2_with fail
  go_ret2
  exact HV.o
 have q2:¬ (9:Int)<(s.size:Int):=za;obtain ⟨z,hz⟩:∃ z,z=decide (1<s.size∧(s[0]'hpos).toNat=48):=⟨_,rfl⟩
 by_cases h48:1<s.size∧(s[0]'hpos).toNat=48
 ·have q3:(1:Int)<(s.size:Int):=by omega
  have q4:(((s[0]'hpos).toNat:Int) == 48)=true:=by rw [beq_iff_eq];omega
  have HV:=zq (HNO.o (HR.o.trans (numS_no (.inr (.inr (.inr ⟨za,by rw [hh];exact h48.2⟩))))) w (bS _ _))
  clear h9 hh h48 hz z
  go_enter Tryz.func46,Tryz.ntmps46
  go_wp2_with fail
  go_ret2
  exact HV.o
 have HON:Hid (s.data.toList.length=1∨(s.data.toList.headD 0).toNat≠48):=by
  rw [hh]
  by_cases h2:1<s.size
  ·exact .inr fun e=>h48 ⟨h2,e⟩
  ·exact .inl za
 have HAT:=zq (fun (u:World) h=>atoi_c s u hpos za h)
 clear hz z hh
 go_enter Tryz.func46,Tryz.ntmps46
 go_upto_region 1 with fail
 go_cut [23] (fun bv wx=>bv = .bool false∧wx=w)
 case first =>
  by_cases h2:1<s.size
  ·have q3:(1:Int)<(s.size:Int):=by omega
   have q4:(((s[0]'hpos).toNat:Int) == 48)=false:=by rw [aG];exact fun e=>h48 ⟨h2,za⟩
   clear h48 h2 h9
   go_wp2_with fail
   go_meet;exact ⟨zk,zk⟩
  ·have q3:¬ (1:Int)<(s.size:Int):=by omega
   clear h48 h2 h9
   go_wp2_with fail
   go_meet;exact ⟨zk,zk⟩
 case rest =>
  obtain ⟨rfl,rfl⟩:=hcut;clear h48 q2 q1
  go_wp2_with fail
  go_loopg [4] s.size (ByRel dgB wc s)
  case atStart=>exact ⟨rfl,0,za,rfl,rfl⟩
  case round =>
   obtain ⟨hw,k,hkm,rfl,hall⟩:=hrel;subst hw;have HM:=zq hkm;have HA:=zq hall;clear hkm hall
   by_cases hlt:k<s.size
   ·by_cases h1:s[k].toNat<48
    ·have HV:=zq (HNO.o (HR.o.trans (numS_no (.inr (.inr (.inl (zDX hlt (show dgB s[k]=false by unfold dgB;simp;omega))))))) wr (bS _ _))
     go_wp2;go_ret2
     exact HV.o
    ·have h1b:(48:Int)≤(s[k].toNat:Int):=by omega
     by_cases h2:57<s[k].toNat
     ·have HV:=zq (HNO.o (HR.o.trans (numS_no (.inr (.inr (.inl (zDX hlt (show dgB s[k]=false by unfold dgB;simp;omega))))))) wr (bS _ _))
      go_wp2;go_ret2
      exact HV.o
     ·have HD:=zq (zEf hlt HA.o (show dgB s[k]=true by unfold dgB;simp;omega))
      have h2b:(s[k].toNat:Int)≤57:=za;go_wp2
      go_roundg (gk - 1)
      case measure=>have:=HM.o;omega
      case rel=>exact ⟨rfl,k+1,yp,zn,HD.o⟩
   ·have hks:k=s.size:=by have:=HM.o;omega
    subst hks
    have HALL:Hid (s.data.toList.all dgB=true):=by
     show _=_
     have:=HA.o
     rwa [cS zd] at this
    have HRS:Hid (res=some (zBQ s.data.toList)):=by
     show _=_
     rw [HR.o];unfold zDv;rw [aE ⟨fun e=>by rw [e] at hsz;simp at hsz;omega,HALL.o,za,HON.o⟩]
    have HA1:=zq (HAT.o wr HALL.o);obtain ⟨n,hn⟩:∃ n,n=zBQ s.data.toList:=⟨_,rfl⟩;rw [←hn] at HA1 HRS;have HV2:Hid ((.tuple #[.int .i64 ((res.getD 0:Nat):Int),.bool res.isSome]:Value) = .tuple #[.int .i64 (n:Int),.bool true]):=by show _=_;rw [HRS.o];rfl
    clear hn HRS HALL HA HM HON HAT HR
    go_wp2_with fail
    refine HA1.o.mono ?_
    rintro e w2 ⟨rfl,hB2⟩;have HB2:=zq hB2;clear hB2;go_wp2;go_ret2
    exact zAd.mk HV2.o.symm HB2.o
def rpV (s:BA):Value:=.tuple #[.agg #[.string (ofL ((zDP s.data.toList).getD ([],[])).1),.string (ofL ((zDP s.data.toList).getD ([],[])).2)],.bool (zDP s.data.toList).isSome]
theorem rpV_of {s:BA} {n d:Ln} {ok:Bool} (h:slaW s.data.toList=(n,d,ok)):rpV s=if (ok&&(zCv (zEn n)&&zCv d))=true then .tuple #[.agg #[.string (ofL n),.string (ofL d)],.bool true] else .tuple #[.agg #[.string ⟨#[]⟩,.string ⟨#[]⟩],.bool false]:=by
 unfold rpV;rw [ratX_cut,h];simp only
 cases ok<;>cases zCv (zEn n)<;>cases zCv d<;>rfl
theorem rsPart_c (s:BA) (w:World) (hs:s.size≤1000000) (hG:GOK w):Calls Tryz.prog 50 #[.string s] w (zAd (rpV s) w):=by
 have hsz:s.data.toList.length=s.size:=Array.length_toList;obtain ⟨z1,z2,z3⟩:=slaW_len s.data.toList;have HB:Hid (Below w.heap.size w (w.alloc (.cells #[.string ⟨#[]⟩,.string ⟨#[]⟩] 43))):=(bS _ _).alloc (aB _) _;have HX:Hid (Bx (w.alloc (.cells #[.string ⟨#[]⟩,.string ⟨#[]⟩] 43)) w.heap.size #[.string ⟨#[]⟩,.string ⟨#[]⟩] 43):=Bx.new _ _ _;obtain ⟨W,hW⟩:∃ W,W=w.alloc (.cells #[.string ⟨#[]⟩,.string ⟨#[]⟩] 43):=⟨_,rfl⟩;rw [←hW] at HX HB;have HC:=zq (slash_c s W za (hG.below HB.o));obtain ⟨p,hp⟩:∃ p,p=slaW s.data.toList:=⟨_,rfl⟩;rw [←hp] at z1 z2 z3 HC;obtain ⟨n,d,ok⟩:=p;have HV:=zq (rpV_of hp.symm);simp only at z1 z2 z3 HC;have HT:=zq (fun u=>trimP_c (ofL n) u)
 have HD1:=zq (fun u=>rsDig_c (ofL (zEn n)) u zr)
 have HD2:=zq (fun u=>rsDig_c (ofL d) u zr)
 simp only [zAj] at HT HD1 HD2;generalize zCv (zEn n)=b1 at *;generalize zCv d=b2 at *;obtain ⟨sn,hsn⟩:∃ x,x=ofL n:=⟨_,rfl⟩;obtain ⟨sd,hsd⟩:∃ x,x=ofL d:=⟨_,rfl⟩;obtain ⟨sm,hsm⟩:∃ x,x=ofL (zEn n):=⟨_,rfl⟩;rw [←hsn,←hsd] at HC HV;rw [←hsn,←hsm] at HT;rw [←hsm] at HD1;rw [←hsd] at HD2;clear hG hp hsn hsd hsm z1 z2 z3 hsz hs
 go_enter Tryz.func50,Tryz.ntmps50
 go_upto_region 1 with fail
 rw [←hW];clear hW
 go_wp2_with fail
 refine HC.o.mono ?_
 rintro e w1 ⟨rfl,hB1⟩;have HB1:=zq (zAb HB.o hB1);have HX1:=zq (HX.o.below hB1);clear hB1 HC HX HB
 cases ok with
 | false =>
  have HV2:Hid (rpV s = .tuple #[.agg #[.string ⟨#[]⟩,.string ⟨#[]⟩],.bool false]):=HV.o;have f1:=HX1.o.frozen;have l1:=HX1.o.lt;have x0:=HX1.o.c 0 rfl;have x1:=HX1.o.c 1 rfl;go_wp2;refine dD (v:=.tuple #[.agg #[.string ⟨#[]⟩,.string ⟨#[]⟩],.bool false]) j7 rfl ?_
  exact zAd.mk HV2.o.symm ((HB1.o.setCell (aB _) _).setCell (aB _) _)
 | true =>
  go_wp2_with fail
  refine (HT.o _).mono ?_
  rintro e w2 ⟨rfl,hB2⟩;have HB2:=zq (zAb HB1.o hB2);have HX2:=zq (HX1.o.below hB2);clear hB2 HX1 HB1
  go_wp2_with fail
  refine (HD1.o _).mono ?_
  rintro e w3 ⟨rfl,rfl⟩
  cases b1 with
  | false =>
   have HV2:Hid (rpV s = .tuple #[.agg #[.string ⟨#[]⟩,.string ⟨#[]⟩],.bool false]):=HV.o;have f1:=HX2.o.frozen;have l1:=HX2.o.lt;have x0:=HX2.o.c 0 rfl;have x1:=HX2.o.c 1 rfl;go_wp2;refine dD (v:=.tuple #[.agg #[.string ⟨#[]⟩,.string ⟨#[]⟩],.bool false]) j7 rfl ?_
   exact zAd.mk HV2.o.symm ((HB2.o.setCell (aB _) _).setCell (aB _) _)
  | true =>
   go_wp2_with fail
   refine (HD2.o _).mono ?_
   rintro e w4 ⟨rfl,rfl⟩;have f1:=HX2.o.frozen;have l1:=HX2.o.lt;have x0:=HX2.o.c 0 rfl;have x1:=HX2.o.c 1 rfl
   cases b2 with
   | false =>
    have HV2:Hid (rpV s = .tuple #[.agg #[.string ⟨#[]⟩,.string ⟨#[]⟩],.bool false]):=HV.o;go_wp2;refine dD (v:=.tuple #[.agg #[.string ⟨#[]⟩,.string ⟨#[]⟩],.bool false]) j7 rfl ?_
    exact zAd.mk HV2.o.symm ((HB2.o.setCell (aB _) _).setCell (aB _) _)
   | true =>
    have HV2:Hid (rpV s = .tuple #[.agg #[.string sn,.string sd],.bool true]):=HV.o;go_wp2;refine dD (v:=.tuple #[.agg #[.string sn,.string sd],.bool true]) j7 rfl ?_
    exact zAd.mk HV2.o.symm ((HB2.o.setCell (aB _) _).setCell (aB _) _)
def zBj (v:Value) (r:Nat) (LA:Option Addr) (c:Nat) (L:List Ln) (k:Nat) (w:World) (e:Ending) (w':World):Prop :=
 e = .returned v∧RdJ w' r LA c L k∧w.grownBy w' (some r)
theorem zDY {beg:Ln} {m:Nat} {M:List Ln} (h:(nxF beg m M).isSome=true):M≠[]:=by
 rintro rfl
 cases h
theorem zDw {beg:Ln} {M W:List Ln} {m:Nat} (h:nxF beg m M=some W):W.length=m:=by
 cases M with
 | nil=>cases h
 | cons l r =>
  rw [nxF_cons] at h
  split at h
  ·split at h
   ·split at h
    ·next hm _=>injection h with h;rw [←h,hm];rfl
    ·cases h
   ·split at h
    ·next hc=>injection h with h;rw [←h];exact hc.2
    ·cases h
  ·cases h
theorem zAU {L:List Ln} {beg n:Ln} {m:Nat} {W:List Ln} (hs:∀ l∈L,l.length≤600000) (h:nxF beg m L=some W) (hn:n∈W):n.length≤600000:=by
 cases L with
 | nil=>cases h
 | cons l r =>
  have h1:=hs l aO;rw [nxF_cons] at h
  split at h
  ·split at h
   ·split at h
    ·injection h with h;rw [←h] at hn;cases hn
    ·cases h
   ·split at h
    ·injection h with h
     rw [←h] at hn
     have key:∀ (l p:Ln),p∈spl 32 l→p.length≤l.length:=fun l p hp=>by
      have h2:=joi_spl (c:=32) l
      have h3:p.length≤(joi 32 (spl 32 l)).length:=by
       clear h2;generalize spl 32 l=ws at hp
       induction ws with
       | nil=>cases hp
       | cons a t ih =>
        cases t with
        | nil=>rw [List.mem_singleton.1 hp];exact aB _
        | cons b t =>
         rw [joi_cons zd,cY,aQ]
         rcases List.mem_cons.1 hp with rfl | hp
         ·omega
         ·have:=ih hp;omega
      rw [h2] at h3;exact h3
     have h2:=key _ _ hn;rw [List.length_tail,bK] at h2;omega
    ·cases h
  ·cases h
def nmJ (beg:Ln) (M:List Ln):Option Ln:=match nxF beg 1 M with
 | some [n]=>if rowL n=true then some n else none
 | _=>none
theorem nmJ_try {pre first:Ln} (h:(32:UInt8)∉first) (M:List Ln):nmJ (pre++first) M=zDk pre first M:=by
 unfold nmJ zDk;rw [wd_nx h 1 M]
 cases hn:nxF (pre++first) 1 M with
 | none=>rfl
 | some W =>
  have hl:=zDw hn
  match W,hl with
  | [n],_=>rfl
def nuJ (beg:Ln) (M:List Ln):Option Nat:=match nxF beg 1 M with
 | some [s]=>zDv s
 | _=>none
theorem nuJ_nu {first:Ln} (h:(32:UInt8)∉first) (M:List Ln):nuJ (sp2++first) M=nuO false first M:=by
 unfold nuJ nuO wdO;simp only [dL,dG];rw [wd_nx h 1 M]
 cases hn:nxF (sp2++first) 1 M with
 | none=>rfl
 | some W =>
  have hl:=zDw hn
  match W,hl with
  | [n],_=>rfl
def flJ (beg:Ln) (M:List Ln):Bool:=(nxF beg 0 M).isSome
theorem flJ_fl {first:Ln} (h:(32:UInt8)∉first) (M:List Ln):flJ (sp2++first) M=flB false first M:=by
 unfold flJ flB wdO;simp only [dL,dG];rw [wd_nx h 0 M]
 cases nxF (sp2++first) 0 M<;>rfl
theorem wordJ_c (r:Nat) (LA:Option Addr) (c:Nat) (L:List Ln) (k:Nat) (beg:BA) (w:World) (h:RdJ w r LA c L k) (hG:GOK w) :
  Calls Tryz.prog 16 #[.pointer (some ⟨r,0,none⟩),.string beg] w
   (zBj (.tuple #[.string (ofL ((nmJ beg.data.toList (L.drop k)).getD [])),.bool (nmJ beg.data.toList (L.drop k)).isSome]) r LA c L (nxk k (nmJ beg.data.toList (L.drop k)).isSome) w):=by
 have HI:=zq h;have hrw:=h.bx.lt;have HW:Hid (Calls Tryz.prog 14 #[.pointer (some ⟨r,0,none⟩),.string beg,.int .i64 1] w (zBN (nxF beg.data.toList 1 (L.drop k)) w)):=zCD r LA c L k beg 1 w h hG zc
 have HF:Hid (nmJ beg.data.toList (L.drop k)=match nxF beg.data.toList 1 (L.drop k) with
  | some [n]=>if rowL n=true then some n else none
  | _=>none):=rfl
 have HT:Hid (∀ W,nxF beg.data.toList 1 (L.drop k)=some W→k<L.length∧∃ n,W=[n]∧n.length≤600000):=fun W hW=>by
  refine ⟨zBi (zDY vo),?_⟩
  have hl:=zDw hW
  match W,hl with
  | [n],_=>exact ⟨n,rfl,zAU h.drops hW zd⟩
 generalize nxF beg.data.toList 1 (L.drop k)=res at *;generalize nmJ beg.data.toList (L.drop k)=ans at *;clear h hG
 go_enter Tryz.func16,Tryz.ntmps16
 go_wp2_with fail
 with_reducible refine HW.o.mono ?_
 rintro e w1 ⟨A,n1,c1,rfl,hst,hb1⟩;have HI1:=zq (HI.o.below hb1);have HB1:=zq hb1;have HST:=zq hst;clear hb1 HI HW hst
 cases res with
 | none =>
  obtain rfl:ans=none:=HF.o;clear HT HST HF;go_wp2;go_ret2
  exact ⟨rfl,HI1.o,zAA HB1.o r⟩
 | some W =>
  obtain ⟨hkl,n,rfl,hnl⟩:=HT.o W rfl;obtain ⟨rfl,hlo,hst⟩:=HST.o _ rfl;obtain ⟨bw,ow,hA2,hc2⟩:=hst zd;subst hA2;have hlb:w.heap.size≤bw:=hlo bw ow rfl;have c0:w1.cell? ⟨bw,ow,none⟩=some (.string (ofL n)):=hc2 0 zd;have HR:=zq (zCg (ofL n) w1 zr);rw [zAj] at HR;have HF2:Hid (ans=if rowL n=true then some n else none):=HF.o
  generalize rowL n=b1 at *;clear hc2 hst hlo HST HT HF
  go_wp2_with fail
  with_reducible refine HR.o.mono ?_
  rintro e w2 ⟨rfl,rfl⟩
  cases b1 with
  | false =>
   obtain rfl:ans=none:=by rw [HF2.o];rfl
   clear HF2;go_wp2;go_ret2
   exact ⟨rfl,HI1.o,zAA HB1.o r⟩
  | true =>
   obtain rfl:ans=some n:=by rw [HF2.o];rfl
   have hmany:=HI1.o.many;have x1:w1.cell? ⟨r,1,none⟩=some (.int .i64 (k:Int)):=HI1.o.bx.c 1 rfl;have hr:=HI1.o.bx.lt;have hf:=HI1.o.bx.frozen;have HK:=zq (HI1.o.setk (k':=k+1) hkl);have hrb:bw≠r:=za;clear HF2;go_wp2;go_ret2
   have e1:((k:Int)+1)=((k+1:Nat):Int):=za;rw [e1];exact ⟨rfl,HK.o,(zAA HB1.o r).trans (zAn _ _ _)⟩
theorem countJ_c (r:Nat) (LA:Option Addr) (c:Nat) (L:List Ln) (k:Nat) (beg:BA) (w:World) (h:RdJ w r LA c L k) (hG:GOK w) :
  Calls Tryz.prog 52 #[.pointer (some ⟨r,0,none⟩),.string beg] w
   (zBj (.tuple #[.int .i64 (((nuJ beg.data.toList (L.drop k)).getD 0:Nat):Int),.bool (nuJ beg.data.toList (L.drop k)).isSome]) r LA c L (nxk k (nuJ beg.data.toList (L.drop k)).isSome) w):=by
 have HI:=zq h;have hrw:=h.bx.lt;have HW:Hid (Calls Tryz.prog 14 #[.pointer (some ⟨r,0,none⟩),.string beg,.int .i64 1] w (zBN (nxF beg.data.toList 1 (L.drop k)) w)):=zCD r LA c L k beg 1 w h hG zc
 have HF:Hid (nuJ beg.data.toList (L.drop k)=match nxF beg.data.toList 1 (L.drop k) with
  | some [n]=>zDv n
  | _=>none):=rfl
 have HT:Hid (∀ W,nxF beg.data.toList 1 (L.drop k)=some W→k<L.length∧∃ n,W=[n]∧n.length≤600000):=fun W hW=>by
  refine ⟨zBi (zDY vo),?_⟩
  have hl:=zDw hW
  match W,hl with
  | [n],_=>exact ⟨n,rfl,zAU h.drops hW zd⟩
 generalize nxF beg.data.toList 1 (L.drop k)=res at *;generalize nuJ beg.data.toList (L.drop k)=ans at *;clear h hG
 go_enter Tryz.func52,Tryz.ntmps52
 go_wp2_with fail
 with_reducible refine HW.o.mono ?_
 rintro e w1 ⟨A,n1,c1,rfl,hst,hb1⟩;have HI1:=zq (HI.o.below hb1);have HB1:=zq hb1;have HST:=zq hst;clear hb1 HI HW hst
 cases res with
 | none =>
  obtain rfl:ans=none:=HF.o;clear HT HST HF;go_wp2;go_ret2
  exact ⟨rfl,HI1.o,zAA HB1.o r⟩
 | some W =>
  obtain ⟨hkl,n,rfl,hnl⟩:=HT.o W rfl;obtain ⟨rfl,hlo,hst⟩:=HST.o _ rfl;obtain ⟨bw,ow,hA2,hc2⟩:=hst zd;subst hA2;have hlb:w.heap.size≤bw:=hlo bw ow rfl;have c0:w1.cell? ⟨bw,ow,none⟩=some (.string (ofL n)):=hc2 0 zd;have HR:=zq (rsNum_c (ofL n) w1 zr);rw [zAj] at HR;have HF2:Hid (ans=zDv n):=HF.o;rw [←HF2.o] at HR;obtain ⟨nv,hnv⟩:∃ nv,nv=ans.getD 0:=⟨_,rfl⟩;obtain ⟨ok,hok⟩:∃ ok,ok=ans.isSome:=⟨_,rfl⟩;rw [←hnv,←hok] at HR
  have HGO:Hid (∀ w',w.grownBy w' (some r)→RdJ w' r LA c L (if ok=true then k+1 else k)→zBj (.tuple #[.int .i64 ((ans.getD 0:Nat):Int),.bool ans.isSome]) r LA c L (nxk k ans.isSome) w (.returned (.tuple #[.int .i64 (nv:Int),.bool ok])) w'):=fun w' hg hi=>by
   rw [←hnv,←hok];exact ⟨rfl,hi,hg⟩
  clear hc2 hst hlo HST HT HF HF2 hnv hok
  go_wp2_with fail
  with_reducible refine HR.o.mono ?_
  rintro e w2 ⟨rfl,hb2⟩;have HI2:=zq (HI1.o.below hb2);have HB2:=zq (zAb HB1.o hb2);clear HI1 HB1 HR hb2 c0
  cases ok with
  | false =>
   go_wp2;go_ret2
   exact HGO.o _ (zAA HB2.o r) HI2.o
  | true =>
   have hmany:=HI2.o.many;have x1:w2.cell? ⟨r,1,none⟩=some (.int .i64 (k:Int)):=HI2.o.bx.c 1 rfl;have hr:=HI2.o.bx.lt;have hf:=HI2.o.bx.frozen;have HK:=zq (HI2.o.setk (k':=k+1) hkl);go_wp2;go_ret2
   have e1:((k:Int)+1)=((k+1:Nat):Int):=za;rw [e1];exact HGO.o _ ((zAA HB2.o r).trans (zAn _ _ _)) HK.o
theorem flagJ_c (r:Nat) (LA:Option Addr) (c:Nat) (L:List Ln) (k:Nat) (beg:BA) (w:World) (h:RdJ w r LA c L k) (hG:GOK w) :
  Calls Tryz.prog 51 #[.pointer (some ⟨r,0,none⟩),.string beg] w (zBj (.bool (flJ beg.data.toList (L.drop k))) r LA c L (nxk k (flJ beg.data.toList (L.drop k))) w):=by
 have HI:=zq h;have HW:Hid (Calls Tryz.prog 14 #[.pointer (some ⟨r,0,none⟩),.string beg,.int .i64 0] w (zBN (nxF beg.data.toList 0 (L.drop k)) w)):=zCD r LA c L k beg 0 w h hG zc;have HF:Hid ((nxF beg.data.toList 0 (L.drop k)).isSome=flJ beg.data.toList (L.drop k)):=rfl;have HP:Hid (flJ beg.data.toList (L.drop k)=true→k<L.length):=fun hb=>zBi (zDY hb)
 generalize nxF beg.data.toList 0 (L.drop k)=res at *;generalize flJ beg.data.toList (L.drop k)=b at *;clear h hG
 go_enter Tryz.func51,Tryz.ntmps51
 go_wp2_with fail
 with_reducible refine HW.o.mono ?_
 rintro e w1 ⟨A,n1,c1,rfl,_,hb1⟩;rw [HF.o];have HI1:=zq (HI.o.below hb1);have HB1:=zq (zAA hb1 r);clear hb1 HI HW HF
 cases b with
 | false =>
  go_wp2;go_ret
  exact ⟨rfl,HI1.o,HB1.o⟩
 | true =>
  have hk1:=HP.o rfl;have hmany:=HI1.o.many;have x1:w1.cell? ⟨r,1,none⟩=some (.int .i64 (k:Int)):=HI1.o.bx.c 1 rfl;have hr:=HI1.o.bx.lt;have hf:=HI1.o.bx.frozen;have HK:=zq (HI1.o.setk (k':=k+1) hk1);go_wp2;go_ret
  have e1:((k:Int)+1)=((k+1:Nat):Int):=za;rw [e1];exact ⟨rfl,HK.o,HB1.o.trans (zAn _ _ _)⟩
end Go.Proofs.YtoaelidmmcbkfaaGreatDoor
namespace Dw
open Go Go.RowKit
structure KeyT (P:Program) (K:TypeId) {κ:Type} [DecidableEq κ] (mk:κ→Value):Prop where
 same:∃ d,P.underlying K=some d∧∀ a b,Instr.sameNow d (mk a) (mk b)=some (decide (a=b))
 bits:∀ a,Instr.sameBits 10000 (mk a) (mk a)=true
 chk:∀ (b:Bool) (a:κ) (w:World),(Instr.checkKey b 10000 K (mk a)).run P w = .ok () w
def lookE {κ:Type} [DecidableEq κ] (es:List (κ×Value)) (k:κ):Option Value:=(es.find? fun e=>decide (k=e.1)).map (·.2)
def zAO {κ:Type} [DecidableEq κ] (mk:κ→Value) (w:World) (r:Nat) (f:κ→Option Value):Prop :=
 ∃ (es:Array MapEntry) (clk:Nat) (L:List (κ×Value)),w.heap[r]?=some (.map es clk)∧es.toList.map (fun e=>(e.key,e.val))=L.map (fun p=>(mk p.1,p.2))∧∀ k,lookE L k=f k
section
variable {κ:Type} [DecidableEq κ] {mk:κ→Value} {w w':World} {r:Nat} {f:κ→Option Value}
theorem zAO.lt (h:zAO mk w r f):r<w.heap.size:=by
 obtain ⟨es,clk,L,hr,_⟩:=h;exact (Array.getElem?_eq_some_iff.1 hr).1
theorem zAO.keep (h:zAO mk w r f) (hk:w'.heap[r]?=w.heap[r]?):zAO mk w' r f:=by
 obtain ⟨es,clk,L,hr,rest⟩:=h;exact ⟨es,clk,L,hk.trans hr,rest⟩
theorem zAO.below (h:zAO mk w r f) (hb:Below w.heap.size w w'):zAO mk w' r f:=h.keep (hb.block r h.lt)
theorem zAO.alloc (h:zAO mk w r f) (o:Obj):zAO mk (w.alloc o) r f:=h.keep (dF w o r h.lt)
theorem zAO.drewN (h:zAO mk w r f) (n:Nat):zAO mk (w.drewN n) r f:=h
theorem zAO.new (mk:κ→Value) (w:World):zAO mk (w.alloc (.map #[] 0)) w.heap.size (fun _=>none) :=
 ⟨#[],0,[],cI w _,rfl,fun _=>rfl⟩
theorem zAO.setCell (h:zAO mk w r f) {a:Addr} (ha:r≠a.block) (u:Value):zAO mk (w.setCell a u) r f:=h.keep (dS w a r u ha)
end
theorem findNow_go {κ:Type} [DecidableEq κ] {mk:κ→Value} {d:TypeDesc} (hs:∀ a b,Instr.sameNow d (mk a) (mk b)=some (decide (a=b))) (k:κ) :
  ∀ (es:List MapEntry) (L:List (κ×Value)) (i:Nat),es.map (fun e=>(e.key,e.val))=L.map (fun p=>(mk p.1,p.2)) →
   ∃ o,Instr.findNow d (mk k) es i=some o∧o.map (·.2)=lookE L k ∧
    (∀ j v,o=some (j,v)→i≤j∧j - i<L.length∧(L[j - i]?).map (·.1)=some k∧∀ t,t<j - i→(L[t]?).map (·.1)≠some k):=by
 intro es
 induction es with
 | nil =>
  intro L i h
  cases L with
  | nil=>exact ⟨none,rfl,rfl,fun j v h=>zy⟩
  | cons a t=>simp at h
 | cons e es ih =>
  intro L i h
  cases L with
  | nil=>simp at h
  | cons a t =>
   simp only [dJ,List.cons.injEq,Prod.mk.injEq] at h;obtain ⟨⟨hk,hv⟩,ht⟩:=h;unfold Instr.findNow;rw [hk,hs]
   by_cases he:k=a.1
   ·refine ⟨some (i,e.val),by simp [he],?_,?_⟩
    ·simp [lookE,he,hv]
    ·intro j v hj
     simp only [dO,Prod.mk.injEq] at hj;obtain ⟨rfl,rfl⟩:=hj;simp [he]
   ·obtain ⟨o,h1,h2,h3⟩:=ih t (i+1) ht
    refine ⟨o,by simpa [he] using h1,?_,?_⟩
    ·rw [h2];simp [lookE,he]
    ·intro j v hj
     obtain ⟨h4,h5,h6,h7⟩:=h3 j v hj;have e1:j - i=(j - (i+1))+1:=za;refine ⟨za,zg,by rw [e1];simpa using h6,fun s hs=>?_⟩
     cases s with
     | zero=>simp;exact fun hh=>he hh.symm
     | succ s=>simpa using h7 s za
section
variable {P:Program} {κ:Type} [DecidableEq κ] {mk:κ→Value} {T K E:TypeId}
theorem zBa (hT:P.underlying T=some (.map K E)) (hK:KeyT P K mk) {z:Value} (hz:∀ w,(zeroValue E).run P w = .ok z w) {w:World} {r:Nat} {f:κ→Option Value} (h:zAO mk w r f) (k:κ) (ok:Bool) :
  (Instr.lookup T (.map (some r)) (mk k) ok).run P w = .ok (if ok then .tuple #[(f k).getD z,.bool (f k).isSome] else (f k).getD z) w:=by
 obtain ⟨es,clk,L,hr,hL,hf⟩:=h;obtain ⟨d,hd,hs⟩:=hK.same;obtain ⟨o,h1,h2,_⟩:=findNow_go hs k es.toList L 0 hL;have hg:(getObj r).run P w = .ok (.map es clk) w:=by simp [getObj,Sem.run,hr]
 have hfk:(Instr.findKey K (mk k) es.toList).run P w = .ok o w:=by
  simp [Instr.findKey,run_underlying hd,h1]
 rw [hf] at h2
 cases o with
 | none =>
  have:f k=none:=by simpa using h2.symm
  simp [Instr.lookup,run_underlying hT,hg,hK.chk,hfk,hz,this]
 | some p =>
  obtain ⟨i,v⟩:=p;have:f k=some v:=by simpa using h2.symm
  simp [Instr.lookup,run_underlying hT,hg,hK.chk,hfk,this]
theorem chk_string (hK:P.underlying K=some .string) (b:Bool) (a:BA) (w:World) (n:Nat):(Instr.checkKey b (n+1) K (.string a)).run P w = .ok () w:=by
 simp [Instr.checkKey,run_underlying hK]
theorem chk_int (hK:P.underlying K=some (.int .i64)) (b:Bool) (a:Int) (w:World) (n:Nat):(Instr.checkKey b (n+1) K (.int .i64 a)).run P w = .ok () w:=by
 simp [Instr.checkKey,run_underlying hK]
theorem zBO (hK:P.underlying K=some .string):KeyT P K Value.string where
 same:=⟨_,hK,fun a b=>by
  simp only [Instr.sameNow,dO];rw [beq_toListBytes,Bool.eq_iff_iff]
  constructor
  ·intro h
   have h':a.toList=b.toList:=qj;rw [ByteArray.toList_eq,ByteArray.toList_eq] at h'
   simpa using ByteArray.ext (Array.toList_inj.1 h')
  ·intro h
   have:a=b:=qj;subst this;simp⟩
 bits a:=by
  simp only [Instr.sameBits];rw [beq_toListBytes];simp
 chk b a w:=chk_string hK b a w 9999
theorem keyT_int (hK:P.underlying K=some (.int .i64)):KeyT P K (fun n:Int=>Value.int .i64 n) where
 same:=⟨_,hK,fun a b=>by simp only [Instr.sameNow,if_true,dO];rfl⟩
 bits a:=by simp [Instr.sameBits]
 chk b a w:=chk_int hK b a w 9999
theorem lookE_set {L:List (κ×Value)} {j:Nat} {k:κ} {v:Value} (hj:j<L.length) (hk:(L[j]?).map (·.1)=some k) (hmin:∀ t,t<j→(L[t]?).map (·.1)≠some k) :
  ∀ k',lookE (L.modify j fun _=>(k,v)) k'=if k'=k then some v else lookE L k':=by
 induction L generalizing j with
 | nil=>simp at hj
 | cons a t ih =>
  intro k'
  cases j with
  | zero =>
   have ha:a.1=k:=by simpa using hk
   by_cases h:k'=k
   ·subst h;simp [lookE]
   ·simp [lookE,h,ha]
  | succ j =>
   have ha:a.1≠k:=by
    have:=hmin 0 za
    simpa using this
   have:=ih (j:=j) xg (by simpa using hk) (fun s hs=>by simpa using hmin (s+1) za) k'
   by_cases h:k'=a.1
   ·subst h;simp [lookE,ha]
   ·simp only [List.modify_succ_cons]
    unfold lookE at this ⊢;rw [List.find?_cons_of_neg qj,List.find?_cons_of_neg qj];exact this
theorem lookE_push {L:List (κ×Value)} {k:κ} {v:Value} (h:lookE L k=none):∀ k',lookE (L++[(k,v)]) k'=if k'=k then some v else lookE L k':=by
 intro k';unfold lookE at *;rw [List.find?_append]
 by_cases hk:k'=k
 ·subst hk
  have:L.find? (fun e=>decide (k'=e.1))=none:=qj
  simp [this]
 ·simp only [List.find?_cons,hk,decide_false,List.find?_nil,dG]
  cases L.find? (fun e=>decide (k'=e.1))<;>rfl
theorem zBD (hT:P.underlying T=some (.map K E)) (hK:KeyT P K mk) {w:World} {r:Nat} {f:κ→Option Value} (h:zAO mk w r f) (k:κ) (v:Value) :
  ∃ w',(Instr.mapUpdate T (.map (some r)) (mk k) v).run P w = .ok () w'∧zAO mk w' r (fun k'=>if k'=k then some v else f k')∧w.grownBy w' (some r)∧w'.heap.size=w.heap.size:=by
 obtain ⟨es,clk,L,hr,hL,hf⟩:=h;have hrl:r<w.heap.size:=(Array.getElem?_eq_some_iff.1 hr).1;obtain ⟨d,hd,hs⟩:=hK.same;obtain ⟨o,h1,h2,h3⟩:=findNow_go hs k es.toList L 0 hL;have hg:(getObj r).run P w = .ok (.map es clk) w:=by simp [getObj,Sem.run,hr]
 have hset:∀ (es':Array MapEntry) (c':Nat),(setObj r (.map es' c')).run P w = .ok () { w with heap:=w.heap.setIfInBounds r (.map es' c') }:=fun es' c'=>by simp [setObj,Sem.run,hr]
 have hfk:(Instr.findKey K (mk k) es.toList).run P w = .ok o w:=by
  simp [Instr.findKey,run_underlying hd,h1]
 have hgrow:∀ (es':Array MapEntry) (c':Nat),w.grownBy { w with heap:=w.heap.setIfInBounds r (.map es' c') } (some r):=fun es' c' =>
  ⟨rfl,rfl,rfl,zd,fun i hi hne=>by simp only [Array.getElem?_setIfInBounds];rw [aC (fun e=>hne (by rw [e]))]⟩
 have hget:∀ (es':Array MapEntry) (c':Nat),({ w with heap:=w.heap.setIfInBounds r (.map es' c') }:World).heap[r]?=some (.map es' c'):=fun es' c'=>by
  simp [hrl]
 rw [hf] at h2;have hlen:es.size=L.length:=by have:=aY List.length hL;simpa using this
 cases o with
 | none =>
  have hn:f k=none:=by simpa using h2.symm
  refine ⟨_,?_,⟨_,_,L++[(k,v)],hget (es.push { key:=mk k,val:=v,born:=clk }) (clk+1),?_,?_⟩,hgrow _ _,zd⟩
  ·simp [Instr.mapUpdate,run_underlying hT,hg,hK.chk,hfk,hset]
  ·simp [hL]
  ·intro k'
   rw [lookE_push (by rw [hf];exact hn),hf]
 | some p =>
  obtain ⟨i,v0⟩:=p;obtain ⟨_,h5,h6,h7⟩:=h3 i v0 rfl;simp only [Nat.sub_zero] at h5 h6 h7;have hi:i<es.size:=za
  have hkey:es[i].key=mk k:=by
   have e1:(es.toList.map fun e=>(e.key,e.val))[i]?=(L.map fun p=>(mk p.1,p.2))[i]?:=by rw [hL]
   rw [List.getElem?_map,List.getElem?_map,List.getElem?_eq_getElem h5,List.getElem?_eq_getElem jc] at e1;rw [List.getElem?_eq_getElem h5] at h6;simp only [dT,dO,Prod.mk.injEq] at e1 h6;rw [←h6];simpa using e1.1
  have hstay:∀ x,(Instr.keyThatStays (mk k) (mk k)).run P x = .ok (mk k) x:=fun x=>by
   simp [Instr.keyThatStays,hK.bits]
  refine ⟨_,?_,⟨_,_,L.modify i fun _=>(k,v),hget (es.modify i fun e=>{ e with key:=mk k,val:=v }) clk,?_,?_⟩,hgrow _ _,zd⟩
  ·simp [Instr.mapUpdate,run_underlying hT,hg,hK.chk,hfk,hi,hkey,hstay,hset]
  ·apply List.ext_getElem?
   intro n;have e1:(es.toList.map fun e=>(e.key,e.val))[n]?=(L.map fun p=>(mk p.1,p.2))[n]?:=by rw [hL]
   rw [List.getElem?_map,List.getElem?_map] at e1;rw [List.getElem?_map,List.getElem?_map,List.getElem?_modify,Array.toList_modify,List.getElem?_modify]
   by_cases hn:i=n
   ·subst hn
    rw [List.getElem?_eq_getElem h5,List.getElem?_eq_getElem jc];simp
   ·simp only [hn,dG]
    cases hx:es.toList[n]?<;>cases hy:L[n]?<;>simp_all
  ·intro k'
   rw [lookE_set h5 h6 h7,hf]
end
end Dw
namespace Go.Proofs.YtoaelidmmcbkfaaGreatDoor
open Go.RowKit Dw
def mp (l:List Rg):Nat→BA→Option Value
 | 0,_=>none
 | k+1,s=>if s=nmAt l k then some (.int .i64 (k:Int)) else mp l k s
theorem mp_none {l:List Rg} {s:BA}:∀ {k:Nat},k≤l.length→(∀ j (h:j<l.length),j<k→(l[j]).nm≠s)→mp l k s=none
 | 0,_,_=>rfl
 | k+1,hk,h=>by
  rw [mp,aC,mp_none za (fun j hj hjk=>h j hj za)]
  rw [zBF za];exact fun e=>h k za za e.symm
theorem mp_some {l:List Rg} (hi:Inc l) {x:Nat} (hx:x<l.length):∀ {k:Nat},x<k→k≤l.length→mp l k (l[x]).nm=some (.int .i64 (x:Int))
 | 0,h,_=>za
 | k+1,h,hk=>by
  rw [mp]
  by_cases e:x=k
  ·subst e;rw [aE (zBF hx).symm]
  ·rw [aC,mp_some hi hx za za]
   rw [zBF za];exact fun e'=>e (hi.inj hx za e')
theorem mp_idx {l:List Rg} (hi:Inc l) (s:BA):mp l l.length s=(idx l s).map fun x=>.int .i64 (x:Int):=by
 cases h:idx l s with
 | none=>exact mp_none (aB _) fun j hj _=>idx_none h hj
 | some x =>
  obtain ⟨hx,rfl⟩:=idx_some h;exact mp_some hi hx hx (aB _)
theorem kStr:KeyT Tryz.prog 9 Value.string:=zBO Tryz.underlying9
theorem tMap:Tryz.prog.underlying 93=some (.map 9 3):=Tryz.underlying93
theorem zInt (w:World):(zeroValue 3).run Tryz.prog w = .ok (.int .i64 0) w:=zb
def ChkP1 (w:World) (l:List Rg) (m:Nat) (i:Value) (wr:World):Prop :=
 ∃ k:Nat,k+m=l.length∧i = .int .i64 k∧(∀ j,j<k→zBd l j=none)∧zAO Value.string wr w.heap.size (mp l k)∧Below w.heap.size w wr
def ChkP2 (w:World) (l:List Rg) (m:Nat) (i:Value) (wr:World):Prop :=
 ∃ k:Nat,k+m=l.length∧i = .int .i64 k∧(∀ j (h:j<l.length),j<k→zBX l l[j]=false)∧zAO Value.string wr w.heap.size (mp l l.length)∧Below w.heap.size w wr
def ChkP3 (w:World) (l:List Rg) (m:Nat) (i:Value) (wr:World):Prop :=
 ∃ k:Nat,k+m=l.length∧i = .int .i64 k∧(∀ j,j<k→upN l (l.length+2) j=none)∧zAO Value.string wr w.heap.size (mp l l.length)∧Below w.heap.size w wr
def ChkP4 (w:World) (l:List Rg) (i R:Nat) (m:Nat) (n:Value) (wr:World):Prop :=
 ∃ k:Nat,k+m=l.length+1∧n = .int .i64 k∧∃ j,∃ hj:j<l.length,upN l k i=some j∧wr.heap[R]?=some (.cells #[.string (l[j]).nm,.string (l[j]).par] 56 (0,0)) ∧
  zAO Value.string wr w.heap.size (mp l l.length)∧Below w.heap.size w wr
theorem box2 {wr w2:World} {v0 v1:Value} {t:TypeId} (hb:Below (wr.alloc (.cells #[v0,v1] t)).heap.size (wr.alloc (.cells #[v0,v1] t)) w2) :
  w2.heap[wr.heap.size]?=some (.cells #[v0,v1] t (0,0)):=by
 rw [hb.block _ zd];exact cI _ _
theorem box2_0 {w:World} {g:Nat} {v0 v1:Value} {t:TypeId} (h:w.heap[g]?=some (.cells #[v0,v1] t (0,0))):w.cell? ⟨g,0,none⟩=some v0:=by
 rw [bQ w g 0 _ t (0,0) h];rfl
theorem box2_1 {w:World} {g:Nat} {v0 v1:Value} {t:TypeId} (h:w.heap[g]?=some (.cells #[v0,v1] t (0,0))):w.cell? ⟨g,1,none⟩=some v1:=by
 rw [bQ w g 1 _ t (0,0) h];rfl
theorem box2_f {w:World} {g:Nat} {v0 v1:Value} {t:TypeId} (h:w.heap[g]?=some (.cells #[v0,v1] t (0,0))) (i:Nat):w.frozen? ⟨g,i,none⟩=false :=
 cD w g i _ t h
theorem box2_set {w:World} {g:Nat} {v0 v1 u0 u1:Value} {t:TypeId} (h:w.heap[g]?=some (.cells #[v0,v1] t (0,0))) :
  ((w.setCell ⟨g,0,none⟩ u0).setCell ⟨g,1,none⟩ u1).heap[g]?=some (.cells #[u0,u1] t (0,0)):=by
 have h1:=dU w g 0 _ t u0 h;exact dU _ g 1 _ t u1 h1
theorem below_map {B r:Nat} {a w w':World} (h:Below B a w) (hg:w.grownBy w' (some r)) (hr:B≤r) (hB:B≤w.heap.size):Below B a w' :=
 h.grown hg hB fun k hk=>by injection hk with hk;omega
theorem CheckRegions_c (A:Option Addr) (c:Nat) (l:List Rg) (w:World) (h:Rgs w A l) (hz:∀ i (h:i<l.length),(l[i]).nm.size≤9223372036854775807) :
  Calls Tryz.prog 41 #[.slice A l.length c] w (zAd (.int .i64 (zEd l)) w):=by
 generalize hres:zEd l=res;have HR:=zq hres;clear hres
 by_cases h1:l=[]
 ·subst h1
  go_enter Tryz.func41,Tryz.ntmps41
  go_wp2;go_ret
  refine zAd.mk (zAC ?_) (bS _ _)
  rw [←HR.o];rfl
 have h1':0<l.length:=List.length_pos_iff.2 h1;have hl0:((l.length:Int) == 0)=false:=ja
 by_cases hlen:200<l.length
 ·go_enter Tryz.func41,Tryz.ntmps41
  go_wp2;go_ret
  refine zAd.mk (zAC ?_) (bS _ _)
  rw [←HR.o];unfold zEd;rw [aC h1,aE hlen]
 have hn:l.length≤200:=za;obtain ⟨b,o,rfl,hb,hc⟩:=h.at_ h1';have HC:=zq hc;have HZ:=zq hz;have H1:=zq h1;clear hc hz h1;have hmm:=@run_makeMap Tryz.prog
 go_enter Tryz.func41,Tryz.ntmps41
 go_wp2;clear hmm
 go_loopg [22] l.length (ChkP1 w l)
 case atStart=>exact ⟨0,za,rfl,fun j hj=>absurd hj za,zAO.new _ _,(bS _ _).alloc (aB _) _⟩
 case round =>
  obtain ⟨k,hk,rfl,hpre,hmap,hbel⟩:=hrel;have HK:=zq hk;have HP:=zq hpre;have HM:=zq hmap;have HB:=zq hbel;have hk1:k≤l.length:=za;have hwr:w.heap.size<wr.heap.size:=hmap.lt;have hbr:b<wr.heap.size:=za;clear hk hpre hmap hbel
  by_cases hlt:k<l.length
  ·have hc0:wr.cell? ⟨b,o+k*2,none⟩=some (.string (l[k]).nm):=(HB.o.cell hb).trans (HC.o k hlt).1
   have hc1:wr.cell? ⟨b,o+k*2+1,none⟩=some (.string (l[k]).par):=(HB.o.cell hb).trans (HC.o k hlt).2;have hr0:=zBF hlt;have hzk:=HZ.o k hlt
   have hcp:0<k→wr.cell? ⟨b,o+(k - 1)*2,none⟩=some (.string (nmAt l (k - 1))):=fun hk0=>by
    rw [zBF za];exact (HB.o.cell hb).trans (HC.o (k - 1) za).1
   go_wp2_with fail
   refine (zCp _ _ hzk).mono ?_
   rintro e w2 ⟨rfl,hb2⟩;have hR:=box2 hb2;have hR0:=box2_0 hR;have hmap2:=(HM.o.alloc _).below hb2;have hbel2:Below w.heap.size w w2:=(HB.o.alloc za _).trans (hb2.mono zg)
   have hcp2:0<k→w2.cell? ⟨b,o+(k - 1)*2,none⟩=some (.string (nmAt l (k - 1))):=fun hk0=>by
    rw [←hcp hk0];exact (hb2.cell zg).trans (World.cell?_alloc_lt _ _ _ hbr)
   clear hcp hc0 hc1 HM HB hR hb2
   cases hq:zBA (l[k]).nm with
   | false =>
    have hres:res=5:=by
     rw [←HR.o,chkR_first H1.o hlen hlt HP.o (x:=5) (by unfold zBd;rw [hr0,aE hq])]
    have HS:=zq hres;have HB2:=zq hbel2;clear hres hq hr0 hbel2 hmap2 hcp2;go_wp2;go_ret
    exact zAd.mk (zAC HS.o.symm) HB2.o
   | true =>
    by_cases hk0:0<k
    ·have hd:decide ((0:Int)<(k:Int))=true:=by simp;omega
     have hcpk:=hcp2 hk0;clear hcp2
     cases hle:sle (l[k]).nm (nmAt l (k - 1)) with
     | true =>
      have hleb:=hle;unfold sle at hleb
      have hres:res=8:=by
       rw [←HR.o,chkR_first H1.o hlen hlt HP.o (x:=8) (by unfold zBd;rw [hr0,aC (by rw [hq];simp),aE ⟨hk0,hle⟩])]
      have HS:=zq hres;have HB2:=zq hbel2;clear hres hq hr0 hle hbel2 hmap2;go_wp2
      go_quiet (fail)
      go_wp2;go_ret
      exact zAd.mk (zAC HS.o.symm) (zAc HB2.o _)
     | false =>
      have hleb:=hle;unfold sle at hleb
      have HF:Hid (zBd l k=none):=by
       show zBd l k=none
       unfold zBd;rw [hr0,aC (by rw [hq];simp),aC (by rw [hle];simp)]
      have HM2:=zq hmap2;have HB2:=zq hbel2;clear hq hle hmap2 hbel2;go_wp2
      go_quiet (fail)
      obtain ⟨w3,hrun,hm3,hg3,hs3⟩:=zBD tMap kStr (HM2.o.drewN nq) (l[k]).nm (.int .i64 (k:Int));have HM3:=zq hm3;have HB3:=zq (below_map (zAc HB2.o nq) hg3 (aB _) (by have:=HB2.o.size;simpa using this))
      have HR0:=zq hr0;clear hm3 hg3 hs3 HM2 HB2 hr0;go_wp2
      go_roundg (gk - 1)
      case measure=>have:=HK.o;omega
      case rel =>
       refine ⟨k+1,zl,zn,fun j hj=>?_,?_,HB3.o⟩
       ·rcases bO j k with h1 | h1
        ·exact HP.o j h1
        ·obtain rfl:j=k:=by omega
         exact HF.o
       ·have:=HM3.o
        rw [←HR0.o] at this;exact this
    ·have hd:decide ((0:Int)<(k:Int))=false:=by simp;omega
     have HF:Hid (zBd l k=none):=by
      show zBd l k=none
      unfold zBd;rw [hr0,aC (by rw [hq];simp),aC za]
     have HM2:=zq hmap2;have HB2:=zq hbel2;clear hq hmap2 hbel2 hcp2;go_wp2
     go_quiet (fail)
     obtain ⟨w3,hrun,hm3,hg3,hs3⟩:=zBD tMap kStr (HM2.o.drewN nq) (l[k]).nm (.int .i64 (k:Int));have HM3:=zq hm3;have HB3:=zq (below_map (zAc HB2.o nq) hg3 (aB _) (by have:=HB2.o.size;simpa using this))
     have HR0:=zq hr0;clear hm3 hg3 hs3 HM2 HB2 hr0;go_wp2
     go_roundg (gk - 1)
     case measure=>have:=HK.o;omega
     case rel =>
      refine ⟨k+1,zl,zn,fun j hj=>?_,?_,HB3.o⟩
      ·rcases bO j k with h1 | h1
       ·exact HP.o j h1
       ·obtain rfl:j=k:=by omega
        exact HF.o
      ·have:=HM3.o
       rw [←HR0.o] at this;exact this
  ·have hF0:∀ j,j<l.length→zBd l j=none:=fun j hj=>HP.o j za
   have HF0:=zq hF0;have HI:=zq (inc_of_fault hF0).2;obtain rfl:k=l.length:=za;clear hF0 HP HK hk1 hlt;go_wp2
   go_loopg [51] l.length (ChkP2 w l)
   case atStart=>exact ⟨0,za,rfl,fun j _ hj=>absurd hj za,HM.o,HB.o⟩
   clear HM HB hwr hbr
   case round =>
    obtain ⟨k,hk,rfl,hpre,hmap,hbel⟩:=hrel;have HK:=zq hk;have HP:=zq hpre;have HM:=zq hmap;have HB:=zq hbel;have hk1:k≤l.length:=za;have hwr:w.heap.size<wr.heap.size:=hmap.lt;have hbr:b<wr.heap.size:=za;clear hk hpre hmap hbel
    by_cases hlt:k<l.length
    ·have hc0:wr.cell? ⟨b,o+k*2,none⟩=some (.string (l[k]).nm):=(HB.o.cell hb).trans (HC.o k hlt).1
     have hc1:wr.cell? ⟨b,o+k*2+1,none⟩=some (.string (l[k]).par):=(HB.o.cell hb).trans (HC.o k hlt).2;have hlk:=zBa tMap kStr zInt (HM.o.alloc (.cells #[.string (l[k]).nm,.string (l[k]).par] 56)) (l[k]).par true;have HM2:=zq (HM.o.alloc (.cells #[.string (l[k]).nm,.string (l[k]).par] 56));have HB2:=zq (HB.o.alloc (bG hwr) (.cells #[.string (l[k]).nm,.string (l[k]).par] 56));clear HM HB
     by_cases hp:(l[k]).par=emp
     ·have he:=zAm hp
      have HF:Hid (zBX l l[k]=false):=by
       show zBX l l[k]=false
       simp [zBX,hp]
      generalize (mp l l.length (l[k]).par).getD (.int .i64 0)=v at hlk;generalize (mp l l.length (l[k]).par).isSome=bl at hlk;simp only [if_true] at hlk;clear hp;go_wp2
      go_roundg (gk - 1)
      case measure=>have:=HK.o;omega
      case rel =>
       refine ⟨k+1,zl,zn,fun j hj hjk=>?_,HM2.o,HB2.o⟩
       rcases bO j k with h1 | h1
       ·exact HP.o j hj h1
       ·obtain rfl:j=k:=by omega
        exact HF.o
     ·have he:=zAk hp
      cases hix:idx l (l[k]).par with
      | none =>
       rw [mp_idx HI.o,hix] at hlk;simp only [if_true,Option.map_none,Option.getD_none,Option.isSome_none] at hlk
       have hres:res=5:=by
        rw [←HR.o];exact chkR_par H1.o hlen HF0.o hlt (by simp [zBX,hp,hix])
       have HS:=zq hres;clear hres hix hp;go_wp2;go_ret
       exact zAd.mk (zAC HS.o.symm) HB2.o
      | some x =>
       rw [mp_idx HI.o,hix] at hlk;simp only [if_true,dT,aM,Option.isSome_some] at hlk
       have HF:Hid (zBX l l[k]=false):=by
        show zBX l l[k]=false
        simp [zBX,hix]
       clear hix hp;go_wp2
       go_roundg (gk - 1)
       case measure=>have:=HK.o;omega
       case rel =>
        refine ⟨k+1,zl,zn,fun j hj hjk=>?_,HM2.o,HB2.o⟩
        rcases bO j k with h1 | h1
        ·exact HP.o j hj h1
        ·obtain rfl:j=k:=by omega
         exact HF.o
    ·have hP0:∀ j (h:j<l.length),zBX l l[j]=false:=fun j hj=>HP.o j hj za
     have HP0:=zq hP0;clear hP0;go_wp2;clear HK HP hk1 hlt
     go_loopg [72] l.length (ChkP3 w l)
     case atStart=>exact ⟨0,za,rfl,fun j hj=>absurd hj za,HM.o,HB.o⟩
     clear HM HB hwr hbr
     case round =>
      obtain ⟨i,hk,rfl,hpre,hmap,hbel⟩:=hrel;have HK:=zq hk;have HP:=zq hpre;have HM:=zq hmap;have HB:=zq hbel;have hk1:i≤l.length:=za;have hwr:w.heap.size<wr.heap.size:=hmap.lt;have hbr:b<wr.heap.size:=za;clear hk hpre hmap hbel;obtain ⟨g1,hg1⟩:∃ g1,g1=gk:=⟨_,rfl⟩;subst hg1;obtain ⟨w0,hw0⟩:∃ w0:World,w0=wr:=⟨_,rfl⟩;subst hw0
      by_cases hlt:i<l.length
      ·have hc0:w0.cell? ⟨b,o+i*2,none⟩=some (.string (l[i]).nm):=(HB.o.cell hb).trans (HC.o i hlt).1
       have hc1:w0.cell? ⟨b,o+i*2+1,none⟩=some (.string (l[i]).par):=(HB.o.cell hb).trans (HC.o i hlt).2;have HM2:=zq (HM.o.alloc (.cells #[.string (l[i]).nm,.string (l[i]).par] 56));have HB2:=zq (HB.o.alloc (bG hwr) (.cells #[.string (l[i]).nm,.string (l[i]).par] 56));go_wp2;clear hc0 hc1
       go_loopg [12] (l.length+1) (ChkP4 w l i w0.heap.size)
       case atStart=>exact ⟨0,za,rfl,i,hlt,rfl,cI _ _,HM2.o,HB2.o⟩
       clear HM2 HB2
       case round =>
        obtain ⟨k,hk,rfl,j,hj,hup,hRj,hmap,hbel⟩:=hrel;have HK4:=zq hk;have HU:=zq hup;have hk2:k≤l.length+1:=za;have hR0:=box2_0 hRj;have hR1:=box2_1 hRj;have hf0:=box2_f hRj 0;have hf1:=box2_f hRj 1;have HRJ:=zq hRj;have HM4:=zq hmap;have HB4:=zq hbel;have hwi:w.heap.size<wr.heap.size:=hmap.lt;clear hk hup hRj hmap hbel
        by_cases hp:(l[j]).par=emp
        ·have he:=zAm hp
         have hend:upN l (l.length+2) i=none:=by
          have:upN l (k+1) i=none:=by rw [zEr,HU.o];simp [upN,up_none hj hp]
          exact zBW this za
         have HE:=zq hend;clear hend hp;go_wp2
         go_roundg (g1 - 1)
         case measure=>have:=HK.o;omega
         case rel =>
          refine ⟨i+1,zl,zn,fun t ht=>?_,HM4.o,HB4.o⟩
          rcases bO t i with h3 | h3
          ·exact HP.o t h3
          ·obtain rfl:t=i:=by omega
           exact HE.o
        ·have he:=zAk hp
         obtain ⟨j',hx⟩:=parBad_false HP0.o hj hp;obtain ⟨hj',hnm⟩:=idx_some hx
         have hup':upN l (k+1) i=some j':=by
          rw [zEr,HU.o];simp [upN,up_of hj,hp,hx]
         have HU':=zq hup'
         by_cases hbig:l.length<k
         ·have hres:res=14:=by
           rw [←HR.o,chkR_last H1.o hlen HF0.o HP0.o,aC];intro hE;have h2:=hE i hlt;rw [show l.length+2=k+1 from by omega,HU'.o] at h2
           cases h2
          have HS:=zq hres;clear hres hup' hx hnm hp;go_wp2;go_ret
          exact zAd.mk (zAC HS.o.symm) HB4.o
         ·have hlk:=zBa tMap kStr zInt HM4.o (l[j]).par false
          rw [mp_idx HI.o,hx] at hlk;simp only [dL,dG,dT,aM] at hlk;have hc0:wr.cell? ⟨b,o+j'*2,none⟩=some (.string (l[j']).nm):=(HB4.o.cell hb).trans (HC.o j' hj').1;have hc1:wr.cell? ⟨b,o+j'*2+1,none⟩=some (.string (l[j']).par):=(HB4.o.cell hb).trans (HC.o j' hj').2;clear hup' hx hnm hp;go_wp2
          go_roundg (gk - 1)
          case measure=>have:=HK4.o;omega
          case rel =>
           refine ⟨k+1,by have:=HK4.o;omega,zn,j',hj',HU'.o,box2_set HRJ.o,?_,?_⟩
           ·exact (HM4.o.setCell (a:=⟨w0.heap.size,0,none⟩) (by show w.heap.size≠w0.heap.size;omega) _).setCell (a:=⟨w0.heap.size,1,none⟩) (by show w.heap.size≠w0.heap.size;omega) _
           ·exact (HB4.o.setCell (p:=⟨w0.heap.size,0,none⟩) (by show w.heap.size≤w0.heap.size;omega) _).setCell (p:=⟨w0.heap.size,1,none⟩) (by show w.heap.size≤w0.heap.size;omega) _
      ·have hres:res=0:=by
        rw [←HR.o,chkR_last H1.o hlen HF0.o HP0.o,aE];exact fun t ht=>HP.o t za
       have HS:=zq hres;clear hres;go_wp2;go_ret
       exact zAd.mk (zAC HS.o.symm) HB.o
end Go.Proofs.YtoaelidmmcbkfaaGreatDoor
namespace Dw
open Go
def zAt (ops:Array Oper) (vals:Nat→Value):List Nat→Act→Act
 | [],a=>a
 | i::L,a=>zAt ops vals L (a.put ((ops[i]?).bind (·.dst)) (vals i))
def zAS (n:Nat) (done:Nat→Bool):List Nat:=(List.range n).filter done
def zBZ {α:Type} (f:Nat→α) (i:Nat) (v:α):Nat→α:=fun j=>if j=i then v else f j
def Apart (ops:Array Oper):Prop:=∀ i j:Nat,i<ops.size→j<ops.size→i≠j→∀ d,(ops[i]?).bind (·.dst)=some d→(ops[j]?).bind (·.dst)≠some d
def apartB (ops:Array Oper):Bool:=(List.range ops.size).all fun i=>(List.range ops.size).all fun j=>i == j || ((ops[i]?).bind (·.dst)).isNone || (ops[i]?).bind (·.dst) != (ops[j]?).bind (·.dst)
theorem apart_of {ops:Array Oper} (h:apartB ops=true):Apart ops:=fun i j hi hj hne d hd he=>by
 unfold apartB at h;have h1:=List.all_eq_true.1 h i (List.mem_range.2 hi);have h2:=List.all_eq_true.1 h1 j (List.mem_range.2 hj);rw [hd,he] at h2;simp [hne] at h2
def backB (ops:Array Oper):Bool:=(List.range ops.size).all fun i=>((ops[i]?).map fun o=>o.after.all fun e=>!Region.binds .any e || decide (e.on<i)).getD true
theorem zEo (ops:Array Oper) (vals:Nat→Value):∀ (L M:List Nat) (a:Act),zAt ops vals (L++M) a=zAt ops vals M (zAt ops vals L a)
 | [],_,_=>rfl
 | i::L,M,a=>by rw [aP,zAt,zAt,zEo ops vals L M]
theorem putAll_congr {ops:Array Oper} {vals vals':Nat→Value}:∀ {L:List Nat} {a:Act},(∀ i∈L,vals i=vals' i)→zAt ops vals L a=zAt ops vals' L a
 | [],_,_=>rfl
 | i::L,a,h=>by
  rw [zAt,zAt,h i zd];exact putAll_congr fun j hj=>h j (by simp [hj])
theorem doneL_succ (n:Nat) (done:Nat→Bool):zAS (n+1) done=zAS n done++(if done n then [n] else []):=by
 unfold zAS;rw [List.range_succ,List.filter_append]
 cases h:done n<;>simp [h]
theorem doneL_congr {n:Nat} {d d':Nat→Bool} (h:∀ j,j<n→d j=d' j):zAS n d=zAS n d':=List.filter_congr fun x hx=>h x (List.mem_range.1 hx)
theorem mem_doneL {n i:Nat} {done:Nat→Bool}:i∈zAS n done↔i<n∧done i=true:=by
 unfold zAS;rw [List.mem_filter,List.mem_range]
theorem putAll_ins {ops:Array Oper} (hap:Apart ops) {vals:Nat→Value} {done:Nat→Bool} {i:Nat} {v:Value} {a:Act} (hi:done i=false) :
  ∀ n,i<n→n≤ops.size→zAt ops (zBZ vals i v) (zAS n (zBZ done i true)) a=(zAt ops vals (zAS n done) a).put ((ops[i]?).bind (·.dst)) v
 | 0,h,_=>za
 | n+1,h,hn=>by
  rw [doneL_succ,doneL_succ,zEo,zEo]
  by_cases e:i=n
  ·subst e
   have e1:zAS i (zBZ done i true)=zAS i done:=doneL_congr fun j hj=>by simp [zBZ];omega
   rw [e1,hi]
   have e2:zAt ops (zBZ vals i v) (zAS i done) a=zAt ops vals (zAS i done) a:=putAll_congr fun j hj=>by
    have:=(mem_doneL.1 hj).1;simp [zBZ];omega
   simp [zBZ,zAt,e2]
  ·have ih:=putAll_ins hap (vals:=vals) (v:=v) (a:=a) hi n za za
   have e1:zBZ done i true n=done n:=by simp [zBZ];omega
   rw [e1,ih]
   cases hd:done n with
   | false=>simp [zAt]
   | true =>
    have e2:zBZ vals i v n=vals n:=by simp [zBZ];omega
    simp only [if_true,zAt,e2];exact Act.put_comm _ _ _ fun d hd'=>hap i n za za e d hd'
theorem eval_put_same {a:Act} {d:Tmp} {v:Value} (h:d<a.tmps.size):(a.put (some d) v).eval (.tmp d)=v:=by
 simp [Act.put,Act.eval,h]
theorem size_put (a:Act) (d:Option Tmp) (v:Value):(a.put d v).tmps.size=a.tmps.size:=by
 cases d<;>simp [Act.put]
theorem zCL {ops:Array Oper} {vals:Nat→Value} {x:Operand}:∀ {L:List Nat} {a:Act},(∀ i∈L,∀ d,(ops[i]?).bind (·.dst)=some d→x≠.tmp d)→(zAt ops vals L a).eval x=a.eval x
 | [],_,_=>rfl
 | i::L,a,h=>by
  rw [zAt,zCL fun j hj=>h j (by simp [hj])]
  exact Act.eval_put fun d hd=>h i zd d hd
theorem eval_putAll_done {ops:Array Oper} (hap:Apart ops) {vals:Nat→Value} {d:Tmp} {j:Nat} (hj:j<ops.size) (hd:(ops[j]?).bind (·.dst)=some d) :
  ∀ {L:List Nat} {a:Act},j∈L→L.Nodup→(∀ i∈L,i<ops.size)→d<a.tmps.size→(zAt ops vals L a).eval (.tmp d)=vals j
 | [],_,h,_,_,_=>by simp at h
 | i::L,a,h,hnd,hlt,hs=>by
  rw [zAt];rw [List.nodup_cons] at hnd
  rcases List.mem_cons.1 h with e | h'
  ·subst e
   rw [zCL,hd,eval_put_same hs];intro k hk d' hd' e
   injection e with e
   subst e;have hne:j≠k:=fun e=>hnd.1 (e▸hk)
   exact hap j k hj (hlt k (by simp [hk])) hne d hd hd'
  ·exact eval_putAll_done hap hj hd h' hnd.2 (fun k hk=>hlt k (by simp [hk])) (by rw [size_put];exact hs)
section
variable {P:Program} {ops:Array Oper} {Q:Exit→Act→World→Prop}
theorem ready_none {listed:Array Bool} {done:Nat→Bool} (hb:backB ops=true) (hls:listed.size=ops.size) (hl:∀ j,j<ops.size→listed.getD j false=done j) (hr:Region.ready .any ops listed=[]):∀ j,j<ops.size→done j=true:=by
 intro j
 induction j using Nat.strongRecOn with
 | _ j ih =>
  intro hj
  cases hd:done j with
  | true=>rfl
  | false =>
   exfalso
   have hmem:j∈Region.ready .any ops listed:=by
    unfold Region.ready;rw [List.mem_filter,List.mem_range];refine ⟨hj,?_⟩
    have h1:=hl j hj;have hjs:j<listed.size:=za
    have h2:listed.getD j true=false:=by
     rw [hd] at h1;simp [Array.getD,hjs] at h1 ⊢
     exact h1
    rw [h2];have h3:=List.all_eq_true.1 hb j (List.mem_range.2 hj);rw [Array.getElem?_eq_getElem hj] at h3 ⊢;simp only [dT,aM,Bool.not_false,Bool.true_and] at h3 ⊢;rw [Array.all_eq_true'] at h3 ⊢;intro e he;have h4:=h3 e he
    cases hb2:Region.binds .any e with
    | false=>simp
    | true =>
     rw [hb2] at h4;have h5:e.on<j:=by simpa using h4
     rw [hl e.on za,ih e.on h5 za];simp
   rw [hr] at hmem;simp at hmem
theorem count_set {n i:Nat} {done:Nat→Bool} (hi:i<n) (hd:done i=false):(zAS n fun j=>!zBZ done i true j).length+1=(zAS n fun j=>!done j).length:=by
 induction n with
 | zero=>omega
 | succ n ih =>
  rw [doneL_succ,doneL_succ,cY,cY]
  by_cases e:i=n
  ·subst e
   have e1:zAS i (fun j=>!zBZ done i true j)=zAS i fun j=>!done j:=doneL_congr fun j hj=>by simp [zBZ];omega
   rw [e1];simp [zBZ,hd]
  ·have e1:zBZ done i true n=done n:=by simp [zBZ];omega
   rw [e1,←ih za];omega
theorem wpAny_inv (hap:Apart ops) (hb:backB ops=true) (a0:Act) (J:(Nat→Bool)→(Nat→Value)→World→Prop)
  (hstep:∀ (i:Nat) (done:Nat→Bool) (vals:Nat→Value) (w:World),i<ops.size→J done vals w→done i=false→(∀ o,ops[i]?=some o→∀ e∈o.after,Region.binds .any e=true→done e.on=true) →
   wpOp P ops Q i (fun a' w'=>∃ v,a'=(zAt ops vals (zAS ops.size done) a0).put ((ops[i]?).bind (·.dst)) v∧J (zBZ done i true) (zBZ vals i v) w') (zAt ops vals (zAS ops.size done) a0) w)
  (hend:∀ (done:Nat→Bool) (vals:Nat→Value) (w:World),(∀ j,j<ops.size→done j=true)→J done vals w→Q .normal (zAt ops vals (List.range ops.size) a0) w) :
  ∀ (fuel:Nat) (listed:Array Bool) (done:Nat→Bool) (vals:Nat→Value) (w:World),listed.size=ops.size→(∀ j,j<ops.size→listed.getD j false=done j)→(zAS ops.size fun j=>!done j).length≤fuel→J done vals w →
   wpAny P .any ops Q fuel listed (zAt ops vals (zAS ops.size done) a0) w:=by
 intro fuel
 have hfin:∀ (done:Nat→Bool) (vals:Nat→Value) (w:World),(∀ j,j<ops.size→done j=true)→J done vals w→Q .normal (zAt ops vals (zAS ops.size done) a0) w:=fun done vals w hd hJ=>by
  have:=hend done vals w hd hJ
  have e:zAS ops.size done=List.range ops.size:=by
   unfold zAS;rw [List.filter_eq_self];exact fun x hx=>hd x (List.mem_range.1 hx)
  rw [e];exact this
 induction fuel with
 | zero =>
  intro listed done vals w hls hl hc hJ
  have hall:∀ j,j<ops.size→done j=true:=fun j hj=>by
   cases hd:done j with
   | true=>rfl
   | false =>
    have:j∈zAS ops.size fun j=>!done j:=mem_doneL.2 ⟨hj,by simp [hd]⟩
    rw [cZ (l:=zAS ops.size fun j=>!done j) za] at this
    simp at this
  refine ⟨?_,hfin done vals w hall hJ⟩
  unfold Region.ready;rw [List.filter_eq_nil_iff];intro j hj;have hj':=List.mem_range.1 hj;have h1:=hl j hj';rw [hall j hj'] at h1;have hjs:j<listed.size:=za;have h2:listed.getD j true=true:=by simp [Array.getD,hjs] at h1 ⊢;exact h1
  simp [h2]
 | succ fuel ih =>
  intro listed done vals w hls hl hc hJ;refine ⟨fun hr=>hfin done vals w (ready_none hb hls hl hr) hJ,fun i hi=>?_⟩
  unfold Region.ready at hi;rw [List.mem_filter,List.mem_range] at hi;obtain ⟨hin,hrd⟩:=hi;rw [dA] at hrd;have hjs:i<listed.size:=za
  have hdi:done i=false:=by
   rw [←hl i hin];have:=hrd.1;simp [Array.getD,hjs] at this ⊢
   exact this
  have hdeps:∀ o,ops[i]?=some o→∀ e∈o.after,Region.binds .any e=true→done e.on=true:=fun o ho e he hbd=>by
   have h3:=hrd.2;rw [ho] at h3;simp only [dT,aM] at h3;rw [Array.all_eq_true'] at h3;have h4:=h3 e he;rw [hbd] at h4;have h5:listed.getD e.on false=true:=by simpa using h4
   have hlt:e.on<ops.size:=by
    refine Nat.lt_of_not_ge fun hge=>?_
    have:¬ e.on<listed.size:=za;simp [Array.getD,this] at h5
   rw [←hl _ hlt];exact h5
  refine wpOp_mono ?_ (hstep i done vals w hin hJ hdi hdeps)
  rintro a' w' ⟨v,rfl,hJ'⟩;rw [←putAll_ins hap hdi ops.size hin (aB _)];refine ih (listed.setIfInBounds i true) (zBZ done i true) (zBZ vals i v) w' (by simp [hls]) (fun j hj=>?_) ?_ hJ'
  ·have hjs':j<listed.size:=by omega
   by_cases e:j=i
   ·subst e;simp [zBZ,Array.getD,hjs']
   ·have:=hl j hj
    simp [zBZ,e,Array.getD,hjs'] at this ⊢
    rw [Array.getElem_setIfInBounds_ne za za];exact this
  ·have:=count_set hin hdi
   omega
theorem zEu {id:Nat} {a0:Act} {w:World} (hm:P.follows .mixedOrders=true) (hap:Apart ops) (hb:backB ops=true) (vals0:Nat→Value) (J:(Nat→Bool)→(Nat→Value)→World→Prop)
  (h0:J (fun _=>false) vals0 w.drew)
  (hstep:∀ (i:Nat) (done:Nat→Bool) (vals:Nat→Value) (w:World),i<ops.size→J done vals w→done i=false→(∀ o,ops[i]?=some o→∀ e∈o.after,Region.binds .any e=true→done e.on=true) →
   wpOp P ops Q i (fun a' w'=>∃ v,a'=(zAt ops vals (zAS ops.size done) a0).put ((ops[i]?).bind (·.dst)) v∧J (zBZ done i true) (zBZ vals i v) w') (zAt ops vals (zAS ops.size done) a0) w)
  (hend:∀ (done:Nat→Bool) (vals:Nat→Value) (w:World),(∀ j,j<ops.size→done j=true)→J done vals w→Q .normal (zAt ops vals (List.range ops.size) a0) w) :
  (Code.region id ops true).wp P Q a0 w:=by
 refine wp_region_any hm ?_
 have e:zAS ops.size (fun _=>false)=[]:=by
  unfold zAS;rw [List.filter_eq_nil_iff];simp
 have:=wpAny_inv (P:=P) (Q:=Q) hap hb a0 J hstep hend ops.size (Array.replicate ops.size false) (fun _=>false) vals0 w.drew zd (fun j hj=>by simp [Array.getD,hj]) (by
  refine cV (dC _ _) ?_
  simp) h0
 rw [e] at this;exact this
end
end Dw
