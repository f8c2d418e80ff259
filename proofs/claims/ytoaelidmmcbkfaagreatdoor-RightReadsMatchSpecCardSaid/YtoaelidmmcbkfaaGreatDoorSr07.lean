/- Parts of the proof, joined: Package right: small readers (isRow, isDigits, readNumber, readRatio).. -/
import Derived.Test.YtoaelidmmcbkfaaGreatDoorSr06
set_option maxRecDepth 100000
set_option maxHeartbeats 8000000
namespace Go.Proofs.YtoaelidmmcbkfaaGreatDoor
open Go.Shelf Go.RowKit Dw
theorem trim_gen {p:UInt8→Bool} {cs:List UInt8} (hp:∀ c,cs.contains c=p c) (l:List UInt8):(Lib.trimS l cs).isEmpty=l.all p:=by
 have hp:(fun b=>cs.contains b)=p:=funext hp
 cases ha:l.all p with
 | true =>
  have:Lib.trimS l cs=[]:=by
   unfold Lib.trimS Lib.trimLeftS Lib.trimRightS;rw [hp,zEj (l:=l.reverse) (by rw [List.all_reverse];exact ha)]
   rfl
  rw [this];rfl
 | false =>
  obtain ⟨b,hb,hn⟩:=List.all_eq_false.1 ha;have hn':p b=false:=by simpa using hn
  have:b∈Lib.trimS l cs:=by
   unfold Lib.trimS Lib.trimLeftS Lib.trimRightS;rw [hp];exact zCz (List.mem_reverse.2 (zCz (List.mem_reverse.2 hb) hn')) hn'
  cases hs:Lib.trimS l cs with
  | nil=>rw [hs] at this;simp at this
  | cons a t=>rfl
def dgset:BA:=⟨#[48,49,50,51,52,53,54,55,56,57]⟩
theorem dg_cut (c:UInt8):dgset.data.toList.contains c=dgB c:=by
 have h:∀ n:Nat,n<256→dgset.data.toList.contains (UInt8.ofNat n)=dgB (UInt8.ofNat n):=qx;have:=h c.toNat c.toNat_lt
 simpa using this
theorem trimD_c (s:BA) (w:World) (hs:s.size≤9223372036854775807) :
  Calls Tryz.prog 67 #[.string s,.string dgset] w (zAd (.string ⟨(Lib.trimS s.data.toList dgset.data.toList).toArray⟩) w) :=
 Any.strings_Trim_laid Tryz.lays160 zb s dgset w hs zc (ascii_of_all qx)
theorem lit_eq {s:BA} {l:List UInt8} (h:s.data.toList=l):(s.toList == l)=true:=by rw [Dw.toList_eq,h];simp
theorem lit_ne {s:BA} {l:List UInt8} (h:s.data.toList≠l):(s.toList == l)=false:=by rw [Dw.toList_eq,aG];exact h
theorem zCo {s:BA}:s=emp↔s.data.toList=[]:=by
 constructor
 ·rintro rfl;rfl
 ·intro h
  rw [←zDJ s,h];rfl
theorem zCV {s:BA}:s=⟨#[45]⟩↔s.data.toList=[45]:=by
 constructor
 ·rintro rfl;rfl
 ·intro h
  rw [←zDJ s,h];rfl
theorem trim_emp (s:BA) (cs:List UInt8) (p:UInt8→Bool) (hp:∀ c,cs.contains c=p c):(⟨(Lib.trimS s.data.toList cs).toArray⟩:BA).toList.isEmpty=s.data.toList.all p:=by
 rw [Dw.toList_eq,←trim_gen hp]
theorem isRow_c (s:BA) (w:World) (hs:s.size≤9223372036854775807):Calls Tryz.prog 28 #[.string s] w (zAd (.bool (rowL s.data.toList)) w):=by
 generalize hres:rowL s.data.toList=res;have HR:=zq hres;clear hres
 by_cases h1:s=emp
 ·have q1:=zAm h1
  have HV:Hid (res=false):=by show _=_;rw [←HR.o,zCo.1 h1];rfl
  clear h1
  go_enter Tryz.func28,Tryz.ntmps28
  go_wp2_with fail
  go_ret
  exact zAd.mk (zAu HV.o.symm) (bS _ _)
 have q1:=zAk h1
 by_cases h2:s=⟨#[45]⟩
 ·have q2:=lit_eq (zCV.1 h2)
  have HV:Hid (res=false):=by show _=_;rw [←HR.o,zCV.1 h2];rfl
  clear h1 h2
  go_enter Tryz.func28,Tryz.ntmps28
  go_wp2_with fail
  go_ret
  exact zAd.mk (zAu HV.o.symm) (bS _ _)
 have q2:=lit_ne fun e=>h2 (zCV.2 e)
 have HV:Hid ((⟨(Lib.trimS s.data.toList zDG.data.toList).toArray⟩:BA).toList.isEmpty=res):=by
  show _=_
  rw [trim_emp s _ okB cut_okB,←HR.o];unfold rowL;rw [cP (p:=s.data.toList≠[]) (fun e=>h1 (zCo.2 e)),cP (p:=s.data.toList≠[45]) (fun e=>h2 (zCV.2 e))];rfl
 have HC:=zq (trimS_c s w hs);generalize (⟨(Lib.trimS s.data.toList zDG.data.toList).toArray⟩:BA)=r at HV HC;clear h1 h2
 go_enter Tryz.func28,Tryz.ntmps28
 go_wp2_with fail
 refine HC.o.mono ?_
 rintro e w' ⟨rfl,hB⟩;go_wp2;go_ret
 exact zAd.mk (zAu HV.o) hB
theorem isDigits_c (s:BA) (w:World) (hs:s.size≤9223372036854775807):Calls Tryz.prog 68 #[.string s] w (zAd (.bool (zCv s.data.toList)) w):=by
 generalize hres:zCv s.data.toList=res;have HR:=zq hres;clear hres
 by_cases h1:s=emp
 ·have q1:=zAm h1
  have HV:Hid (res=false):=by show _=_;rw [←HR.o,zCo.1 h1];rfl
  clear h1
  go_enter Tryz.func68,Tryz.ntmps68
  go_wp2_with fail
  go_ret
  exact zAd.mk (zAu HV.o.symm) (bS _ _)
 have q1:=zAk h1
 have HV:Hid ((⟨(Lib.trimS s.data.toList dgset.data.toList).toArray⟩:BA).toList.isEmpty=res):=by
  show _=_
  rw [trim_emp s _ dgB dg_cut,←HR.o];unfold zCv;rw [cP (p:=s.data.toList≠[]) (fun e=>h1 (zCo.2 e))];rfl
 have HC:=zq (trimD_c s w hs);generalize (⟨(Lib.trimS s.data.toList dgset.data.toList).toArray⟩:BA)=r at HV HC;clear h1
 go_enter Tryz.func68,Tryz.ntmps68
 go_wp2_with fail
 refine HC.o.mono ?_
 rintro e w' ⟨rfl,hB⟩;go_wp2;go_ret
 exact zAd.mk (zAu HV.o) hB
def numV (s:BA):Value:=match zDv s.data.toList with
 | some n=>.tuple #[.int .i64 (n:Int),.bool true]
 | none=>.tuple #[.int .i64 0,.bool false]
theorem numV_none {s:BA} (h:zDv s.data.toList=none):numV s = .tuple #[.int .i64 0,.bool false]:=by unfold numV;rw [h]
theorem nul_list {s:BA}:s=⟨#[48]⟩↔s.data.toList=[48]:=by
 constructor
 ·rintro rfl;rfl
 ·intro h
  rw [←zDJ s,h];rfl
theorem readNumber_c (s:BA) (w:World) (hs:s.size≤9223372036854775807):Calls Tryz.prog 29 #[.string s] w (zAd (numV s) w):=by
 have hsz:s.data.toList.length=s.size:=Array.length_toList;have HD:=zq (isDigits_c s w hs);have HDE:Hid (zCv s.data.toList=(decide (s.data.toList≠[])&&s.data.toList.all dgB)):=rfl
 cases hd:zCv s.data.toList with
 | false =>
  have HV:Hid (numV s = .tuple #[.int .i64 0,.bool false]):=numV_none (by
   unfold zDv;rw [aC];rintro ⟨h1,h2,_⟩;rw [HDE.o,cP h1,h2] at hd;cases hd)
  rw [hd] at HD;clear hd HDE
  go_enter Tryz.func29,Tryz.ntmps29
  go_wp2_with fail
  refine HD.o.mono ?_
  rintro e w' ⟨rfl,hB⟩;go_wp2;go_ret2
  exact zAd.mk HV.o.symm hB
 | true =>
  rw [hd] at HD;rw [HDE.o,dA,decide_eq_true_iff] at hd;obtain ⟨hne,hall⟩:=hd;have hpos:0<s.size:=by rw [←hsz];exact List.length_pos_iff.2 hne
  clear HDE
  by_cases h9:s.size≤9
  case neg =>
   have HV:Hid (numV s = .tuple #[.int .i64 0,.bool false]):=numV_none (by
    unfold zDv;rw [aC];rintro ⟨_,_,h3,_⟩;omega)
   go_enter Tryz.func29,Tryz.ntmps29
   go_wp2_with fail
   refine HD.o.mono ?_
   rintro e w' ⟨rfl,hB⟩;go_wp2;go_ret2
   exact zAd.mk HV.o.symm hB
  have HA:=zq (fun u=>atoi_c s u hpos za hall)
  have hh:s.data.toList.headD 0=s[0]'hpos:=zCB s hpos;have q9:decide ((9:Int)<(s.size:Int))=false:=cQ za
  by_cases h48:s[0]'hpos=48
  ·have q48:(((s[0]'hpos).toNat:Int) == 48)=true:=by rw [h48];rfl
   by_cases h0:s=⟨#[48]⟩
   ·have q0:=lit_eq (nul_list.1 h0)
    have HV:Hid (numV s = .tuple #[.int .i64 ((zBQ s.data.toList:Nat):Int),.bool true]):=by
     show _=_
     unfold numV zDv;rw [aE ⟨hne,hall,za,.inl (by rw [nul_list.1 h0];rfl)⟩]
    clear h48 h0 hh;obtain ⟨n,hn⟩:∃ n,n=zBQ s.data.toList:=⟨_,rfl⟩;rw [←hn] at HA HV;clear hn
    go_enter Tryz.func29,Tryz.ntmps29
    go_wp2_with fail
    refine HD.o.mono ?_
    rintro e w1 ⟨rfl,hB⟩;have HA1:=zq (HA.o w1);have HB:=zq hB;clear hB
    go_wp2_with fail
    refine HA1.o.mono ?_
    rintro e w2 ⟨rfl,hB2⟩;have HB2:=zq (zAb HB.o hB2);clear hB2;go_upto_region 4 with fail
    go_quiet (fail)
    go_wp2;go_ret2
    exact zAd.mk HV.o.symm (zAc HB2.o _)
   ·have q0:=lit_ne fun e=>h0 (nul_list.2 e)
    have HV:Hid (numV s = .tuple #[.int .i64 0,.bool false]):=numV_none (by
     unfold zDv;rw [aC];rintro ⟨_,_,_,h4 | h4⟩
     ·apply h0
      rw [nul_list]
      cases hl:s.data.toList with
      | nil=>exact absurd hl hne
      | cons a t =>
       rw [hl] at h4 hh;simp only [aQ] at h4;have:t=[]:=cZ za;rw [this];simp only [List.headD_cons] at hh;rw [hh,h48]
     ·rw [hh,h48] at h4;exact h4 rfl)
    clear h48 h0 hh
    go_enter Tryz.func29,Tryz.ntmps29
    go_wp2_with fail
    refine HD.o.mono ?_
    rintro e w' ⟨rfl,hB⟩;go_wp2;go_ret2
    exact zAd.mk HV.o.symm hB
  ·have q48:(((s[0]'hpos).toNat:Int) == 48)=false:=by rw [aG];exact fun e=>h48 (UInt8.toNat_inj.1 (by have:(48:UInt8).toNat=48:=rfl;omega))
   have HV:Hid (numV s = .tuple #[.int .i64 ((zBQ s.data.toList:Nat):Int),.bool true]):=by
    show _=_
    unfold numV zDv;rw [aE ⟨hne,hall,za,.inr (by rw [hh];exact fun e=>h48 (UInt8.toNat_inj.1 (e.trans zc)))⟩]
   clear h48 hh;obtain ⟨n,hn⟩:∃ n,n=zBQ s.data.toList:=⟨_,rfl⟩;rw [←hn] at HA HV;clear hn
   go_enter Tryz.func29,Tryz.ntmps29
   go_wp2_with fail
   refine HD.o.mono ?_
   rintro e w1 ⟨rfl,hB⟩;have HA1:=zq (HA.o w1);have HB:=zq hB;clear hB
   go_wp2_with fail
   refine HA1.o.mono ?_
   rintro e w2 ⟨rfl,hB2⟩;have HB2:=zq (zAb HB.o hB2);clear hB2;go_upto_region 4 with fail
   go_quiet (fail)
   go_wp2;go_ret2
   exact zAd.mk HV.o.symm (zAc HB2.o _)
def slaW (s:Ln):Ln×Ln×Bool:=match s.dropWhile (fun c=>decide (c≠47)) with
 | []=>(s,[],false)
 | _::d=>(s.takeWhile (fun c=>decide (c≠47)),d,true)
theorem cut_eq:∀ s:Ln,Lib.cut s [47]=slaW s
 | []=>rfl
 | b::l=>by
  have ih:=cut_eq l
  by_cases hb:b=47
  ·subst hb
   have h1:Lib.index (47::l) [47]=0:=by rw [Lib.index_one];simp [Lib.indexByte]
   unfold Lib.cut;rw [h1];unfold slaW;simp
  ·have e1:slaW (b::l)=(b::(slaW l).1,(slaW l).2.1,(slaW l).2.2):=by
    unfold slaW;have hd:(b::l).dropWhile (fun c:UInt8=>decide (c≠47))=l.dropWhile (fun c:UInt8=>decide (c≠47)):=by simp [hb]
    have ht:(b::l).takeWhile (fun c:UInt8=>decide (c≠47))=b::l.takeWhile (fun c:UInt8=>decide (c≠47)):=by simp [hb]
    rw [hd,ht]
    cases l.dropWhile (fun c:UInt8=>decide (c≠47))<;>rfl
   have e2:Lib.index (b::l) [47]=if Lib.index l [47] == -1 then -1 else Lib.index l [47]+1:=by
    rw [Lib.index_one,Lib.index_one,Lib.indexByte];have:(b == 47)=false:=by simpa using hb
    rw [this];simp
   have hge:=Lib.index_ge l [47];rw [e1,←ih];unfold Lib.cut;rw [e2]
   by_cases hm:Lib.index l [47] = -1
   ·rw [hm];rfl
   ·have h0:0≤Lib.index l [47]:=by omega
    have hne:¬ (Lib.index l [47] == -1)=true:=fun e=>hm (beq_iff_eq.1 e)
    rw [aC hne,aE za,aE h0];have e3:(Lib.index l [47]+1).toNat=(Lib.index l [47]).toNat+1:=za;rw [e3];simp
theorem ratX_cut (s:Ln):zDP s=if (slaW s).2.2=true∧zCv (zEn (slaW s).1)=true∧zCv (slaW s).2.1=true then some ((slaW s).1,(slaW s).2.1) else none:=by
 unfold zDP slaW
 cases s.dropWhile (fun c:UInt8=>decide (c≠47)) with
 | nil=>simp
 | cons c d =>
  simp only [true_and]
  cases h1:zCv (zEn (s.takeWhile fun c:UInt8=>decide (c≠47)))<;>cases h2:zCv d<;>simp
def ratV (s:BA):Value:=.tuple #[.agg #[.string (ofL (slaW s.data.toList).1),.string (ofL (slaW s.data.toList).2.1)],.bool (zDP s.data.toList).isSome]
theorem noNeg_trim (l:Ln):Lib.trimPrefix l [45]=zEn l:=by
 show (if Lib.hasPrefix l [45]=true then l.drop 1 else l)=_
 unfold zEn
 cases l with
 | nil=>rfl
 | cons c t =>
  show (if ([45]:Ln).isPrefixOf (c::t)=true then t else c::t)=if some c=some 45 then t else c::t
  by_cases h:c=45
  ·subst h;simp [List.isPrefixOf]
  ·have:(45 == c)=false:=by rw [aG];exact fun e=>h e.symm
   simp [List.isPrefixOf,this,h]
theorem zAh {w w':World} {a:Addr} {v:Value} (hb:Below w.heap.size w w') (h:w.cell? a=some v):w'.cell? a=some v:=by
 rw [hb.cell (block_lt_of_cell h)];exact h
def GOK (w:World):Prop:=∃ m:Int,w.cell? ⟨0,0,none⟩=some (.int .i64 m)
theorem GOK.below {w w':World} (h:GOK w) (hb:Below w.heap.size w w'):GOK w':=by
 obtain ⟨m,hm⟩:=h;exact ⟨m,zAh hb hm⟩
theorem slash_c (s:BA) (w:World) (hs:s.size<4294967281) (hG:GOK w):Calls Tryz.prog 78 #[.string s,.string ⟨#[47]⟩] w (zAd (.tuple #[.string (ofL (slaW s.data.toList).1),.string (ofL (slaW s.data.toList).2.1),.bool (slaW s.data.toList).2.2]) w):=by
 obtain ⟨m,hm⟩:=hG;have h:=Any.strings_Cut Tryz.lays145 s ⟨#[47]⟩ m w hs hm
 change Calls Tryz.prog 78 _ _ _ at h
 refine h.mono fun e w' ⟨he,n,hw⟩=>⟨?_,by rw [hw];exact zAc (bS _ _) n⟩
 rw [he];have e:=cut_eq s.data.toList
 show Ending.returned (.tuple #[.string ⟨(Lib.cut s.data.toList [47]).1.toArray⟩,.string ⟨(Lib.cut s.data.toList [47]).2.1.toArray⟩,.bool (Lib.cut s.data.toList [47]).2.2])=_
 rw [e];rfl
theorem trimP_c (s:BA) (w:World):Calls Tryz.prog 80 #[.string s,.string ⟨#[45]⟩] w (zAd (.string (ofL (zEn s.data.toList))) w):=by
 have h:=Any.strings_TrimPrefix Tryz.lays101 s ⟨#[45]⟩ w
 change Calls Tryz.prog 80 _ _ _ at h
 refine h.mono fun e w' ⟨he,hw⟩=>⟨?_,by rw [hw];exact bS _ _⟩
 rw [he];have e:=noNeg_trim s.data.toList
 show Ending.returned (.string ⟨(Lib.trimPrefix s.data.toList [45]).toArray⟩)=_
 rw [e];rfl
theorem slaW_len (s:Ln):(slaW s).1.length≤s.length∧(slaW s).2.1.length≤s.length∧(zEn (slaW s).1).length≤s.length:=by
 have h1:(s.takeWhile fun c:UInt8=>decide (c≠47)).length≤s.length:=(List.takeWhile_sublist _).length_le
 have h2:(s.dropWhile fun c:UInt8=>decide (c≠47)).length≤s.length:=(List.dropWhile_sublist _).length_le
 have key:∀ l:Ln,(zEn l).length≤l.length:=fun l=>by
  unfold zEn
  split
  ·rw [List.length_tail];omega
  ·exact aB _
 have h3:=key (slaW s).1
 have h4:(slaW s).1.length≤s.length∧(slaW s).2.1.length≤s.length:=by
  unfold slaW
  cases hd:s.dropWhile (fun c:UInt8=>decide (c≠47)) with
  | nil=>simp
  | cons c d=>rw [hd] at h2;simp only [aQ] at h2;exact ⟨h1,by simp only;omega⟩
 exact ⟨h4.1,h4.2,cV h3 h4.1⟩
theorem ofL_size (l:Ln):(ofL l).size=l.length:=by show l.toArray.size=_;simp
theorem ratV_of {s:BA} {n d:Ln} {ok:Bool} (h:slaW s.data.toList=(n,d,ok)):ratV s = .tuple #[.agg #[.string (ofL n),.string (ofL d)],.bool (ok&&(zCv (zEn n)&&zCv d))]:=by
 unfold ratV;rw [ratX_cut,h];simp only
 cases ok<;>cases zCv (zEn n)<;>cases zCv d<;>rfl
theorem readRatio_c (s:BA) (w:World) (hs:s.size≤1000000) (hG:GOK w):Calls Tryz.prog 70 #[.string s] w (zAd (ratV s) w):=by
 have hsz:s.data.toList.length=s.size:=Array.length_toList;obtain ⟨z1,z2,z3⟩:=slaW_len s.data.toList;have HB:Hid (Below w.heap.size w (w.alloc (.cells #[.string ⟨#[]⟩,.string ⟨#[]⟩] 43))):=(bS _ _).alloc (aB _) _;have HX:Hid (Bx (w.alloc (.cells #[.string ⟨#[]⟩,.string ⟨#[]⟩] 43)) w.heap.size #[.string ⟨#[]⟩,.string ⟨#[]⟩] 43):=Bx.new _ _ _;obtain ⟨W,hW⟩:∃ W,W=w.alloc (.cells #[.string ⟨#[]⟩,.string ⟨#[]⟩] 43):=⟨_,rfl⟩;rw [←hW] at HX HB;have HC:=zq (slash_c s W za (hG.below HB.o));obtain ⟨p,hp⟩:∃ p,p=slaW s.data.toList:=⟨_,rfl⟩;rw [←hp] at z1 z2 z3 HC;obtain ⟨n,d,ok⟩:=p;have HV:=zq (ratV_of hp.symm);simp only at z1 z2 z3 HC;have HT:=zq (fun u=>trimP_c (ofL n) u)
 have HD1:=zq (fun u=>isDigits_c (ofL (zEn n)) u zr)
 have HD2:=zq (fun u=>isDigits_c (ofL d) u zr)
 simp only [zAj] at HT HD1 HD2;generalize zCv (zEn n)=b1 at *;generalize zCv d=b2 at *;obtain ⟨sn,hsn⟩:∃ x,x=ofL n:=⟨_,rfl⟩;obtain ⟨sd,hsd⟩:∃ x,x=ofL d:=⟨_,rfl⟩;obtain ⟨sm,hsm⟩:∃ x,x=ofL (zEn n):=⟨_,rfl⟩;rw [←hsn,←hsd] at HC HV;rw [←hsn,←hsm] at HT;rw [←hsm] at HD1;rw [←hsd] at HD2;clear hG hp hsn hsd hsm z1 z2 z3 hsz hs
 go_enter Tryz.func70,Tryz.ntmps70
 go_upto_region 1 with fail
 rw [←hW];clear hW
 go_wp2_with fail
 refine HC.o.mono ?_
 rintro e w1 ⟨rfl,hB1⟩;have HB1:=zq (zAb HB.o hB1);have HX1:=zq (HX.o.below hB1);clear hB1 HC HX HB
 cases ok with
 | false =>
  have f1:=HX1.o.frozen;have l1:=HX1.o.lt;have x0:=HX1.o.c 0 rfl;have x1:=HX1.o.c 1 rfl;go_wp2;refine dD (v:=.tuple #[.agg #[.string sn,.string sd],.bool false]) (by simp [results,Tryz.results70,go_sem,x0,x1]) rfl ?_
  exact zAd.mk HV.o.symm ((HB1.o.setCell (aB _) _).setCell (aB _) _)
 | true =>
  go_wp2_with fail
  refine (HT.o _).mono ?_
  rintro e w2 ⟨rfl,hB2⟩;have HB2:=zq (zAb HB1.o hB2);have HX2:=zq (HX1.o.below hB2);clear hB2 HX1 HB1
  go_wp2_with fail
  refine (HD1.o _).mono ?_
  rintro e w3 ⟨rfl,hB3⟩;have HB3:=zq (zAb HB2.o hB3);have HX3:=zq (HX2.o.below hB3);clear hB3 HX2 HB2
  cases b1 with
  | false =>
   have f1:=HX3.o.frozen;have l1:=HX3.o.lt;have x0:=HX3.o.c 0 rfl;have x1:=HX3.o.c 1 rfl;go_wp2;refine dD (v:=.tuple #[.agg #[.string sn,.string sd],.bool false]) (by simp [results,Tryz.results70,go_sem,x0,x1]) rfl ?_
   exact zAd.mk HV.o.symm ((HB3.o.setCell (aB _) _).setCell (aB _) _)
  | true =>
   go_wp2_with fail
   refine (HD2.o _).mono ?_
   rintro e w4 ⟨rfl,hB4⟩;have HB4:=zq (zAb HB3.o hB4);have HX4:=zq (HX3.o.below hB4);clear hB4 HX3 HB3;have f1:=HX4.o.frozen;have l1:=HX4.o.lt;have x0:=HX4.o.c 0 rfl;have x1:=HX4.o.c 1 rfl;go_wp2;refine dD (v:=.tuple #[.agg #[.string sn,.string sd],.bool b2]) (by simp [results,Tryz.results70,go_sem,x0,x1]) rfl ?_
   exact zAd.mk HV.o.symm ((HB4.o.setCell (aB _) _).setCell (aB _) _)
def ByRel (p:UInt8→Bool) (w:World) (s:BA) (m:Nat) (iv:Value) (wr:World):Prop :=
 wr=w∧∃ k:Nat,k+m=s.size∧iv = .int .i64 k∧(s.data.toList.take k).all p=true
theorem zEf {p:UInt8→Bool} {s:BA} {k:Nat} (hk:k<s.size) (h:(s.data.toList.take k).all p=true) (h2:p s[k]=true):(s.data.toList.take (k+1)).all p=true:=by
 rw [bD (by simpa using hk),List.all_append,h,zCl s k hk]
 simp [h2]
theorem zDX {p:UInt8→Bool} {s:BA} {k:Nat} (hk:k<s.size) (h2:p s[k]=false):s.data.toList.all p=false:=by
 rw [List.all_eq_false];exact ⟨s[k],by rw [←zCl s k hk];exact aI _,by simp [h2]⟩
theorem rowL_no {s:BA} (h:s.data.toList.all okB=false):rowL s.data.toList=false:=by unfold rowL;rw [h];simp
theorem zCg (s:BA) (w:World) (hs:s.size≤9223372036854775807):Calls Tryz.prog 15 #[.string s] w (zAr (.bool (rowL s.data.toList)) w):=by
 go_enter Tryz.func15,Tryz.ntmps15
 go_wp2
 go_loopg [3] s.size (ByRel okB w s)
 case atStart=>exact ⟨rfl,0,za,rfl,rfl⟩
 case round =>
  obtain ⟨hw,k,hkm,rfl,hall⟩:=hrel;subst hw;have HM:=zq hkm;have HA:=zq hall;clear hkm hall
  by_cases hlt:k<s.size
  ·obtain ⟨b,hb⟩:∃ b,b=okB s[k]:=⟨_,rfl⟩
   have HN:Hid (b=false→rowL s.data.toList=false):=fun h=>rowL_no (zDX hlt (hb.symm.trans h))
   have HY:Hid (b=true→(s.data.toList.take (k+1)).all okB=true):=fun h=>zEf hlt HA.o (hb.symm.trans h)
   have HOK:Hid (b=true↔(97≤s[k].toNat∧s[k].toNat≤122)∨(48≤s[k].toNat∧s[k].toNat≤57)∨s[k].toNat=45):=by
    show _↔_
    rw [hb];unfold okB;simp only [Bool.or_eq_true,dA,decide_eq_true_iff,or_assoc]
   clear hb HA
   by_cases h1:97≤s[k].toNat∧s[k].toNat≤122
   ·have HB:=zq (HY.o (HOK.o.2 (.inl h1)))
    have a1:(97:Int)≤(s[k].toNat:Int):=za;have a2:(s[k].toNat:Int)≤122:=za;clear HN HY HOK h1;go_wp2
    go_roundg (gk - 1)
    case measure=>have:=HM.o;omega
    case rel=>exact ⟨rfl,k+1,yp,zn,HB.o⟩
   ·by_cases h2:48≤s[k].toNat∧s[k].toNat≤57
    ·have HB:=zq (HY.o (HOK.o.2 (.inr (.inl h2))))
     have a1:¬ (97:Int)≤(s[k].toNat:Int):=za;have a2:(48:Int)≤(s[k].toNat:Int):=za;have a3:(s[k].toNat:Int)≤57:=za;clear HN HY HOK h1 h2;go_wp2
     go_roundg (gk - 1)
     case measure=>have:=HM.o;omega
     case rel=>exact ⟨rfl,k+1,yp,zn,HB.o⟩
    ·obtain ⟨n,hn⟩:∃ n,n=s[k].toNat:=⟨_,rfl⟩
     by_cases h3:s[k].toNat=45
     ·have HB:=zq (HY.o (HOK.o.2 (.inr (.inr h3))))
      have a1:¬ (97:Int)≤(s[k].toNat:Int):=za;have a2:¬ (48:Int)≤(s[k].toNat:Int):=za;have a3:((s[k].toNat:Int) == 45)=true:=by rw [beq_iff_eq];omega
      clear HN HY HOK h1 h2 h3 hn n;go_wp2
      go_roundg (gk - 1)
      case measure=>have:=HM.o;omega
      case rel=>exact ⟨rfl,k+1,yp,zn,HB.o⟩
     ·have HB:=zq (HN.o (by
       cases hb:b with
       | false=>rfl
       | true=>exact ((HOK.o.1 hb).elim h1 fun h=>h.elim h2 h3).elim))
      have a3:((s[k].toNat:Int) == 45)=false:=ja;rw [HB.o];clear hn n
      by_cases h4:97≤s[k].toNat
      ·have a1:(97:Int)≤(s[k].toNat:Int):=by omega
       have a2:¬ (s[k].toNat:Int)≤122:=za;have a4:(48:Int)≤(s[k].toNat:Int):=za;have a5:¬ (s[k].toNat:Int)≤57:=za;clear HN HY HOK h1 h2 h3 h4;go_wp2;go_ret
       exact zAr.mk rfl rfl
      ·by_cases h5:48≤s[k].toNat
       ·have a1:¬ (97:Int)≤(s[k].toNat:Int):=by omega
        have a4:(48:Int)≤(s[k].toNat:Int):=za;have a5:¬ (s[k].toNat:Int)≤57:=za;clear HN HY HOK h1 h2 h3 h4 h5;go_wp2;go_ret
        exact zAr.mk rfl rfl
       ·have a1:¬ (97:Int)≤(s[k].toNat:Int):=by omega
        have a4:¬ (48:Int)≤(s[k].toNat:Int):=za;clear HN HY HOK h1 h2 h3 h4 h5;go_wp2;go_ret
        exact zAr.mk rfl rfl
  ·obtain rfl:k=s.size:=by have:=HM.o;omega
   have HALL:Hid (s.data.toList.all okB=true):=by
    show _=_
    have:=HA.o
    rwa [cS zd] at this
   have hr:rowL s.data.toList=(decide (s.data.toList≠[])&&decide (s.data.toList≠[45])):=by unfold rowL;rw [HALL.o,Bool.and_true]
   by_cases h1:s=emp
   ·have q1:=zAm h1
    have HV:Hid (rowL s.data.toList=false):=by show _=_;rw [hr,zCo.1 h1];rfl
    clear h1 hr;go_wp2;go_ret
    exact zAr.mk (zAu HV.o.symm) rfl
   ·have q1:=zAk h1
    by_cases h2:s=⟨#[45]⟩
    ·have q2:=lit_eq (zCV.1 h2)
     have HV:Hid (rowL s.data.toList=false):=by show _=_;rw [hr,zCV.1 h2];rfl
     clear h1 h2 hr;go_wp2;go_ret
     exact zAr.mk (zAu HV.o.symm) rfl
    ·have q2:=lit_ne fun e=>h2 (zCV.2 e)
     have HV:Hid (rowL s.data.toList=true):=by
      show _=_
      rw [hr,cP (p:=s.data.toList≠[]) (fun e=>h1 (zCo.2 e)),cP (p:=s.data.toList≠[45]) (fun e=>h2 (zCV.2 e))];rfl
     clear h1 h2 hr;go_wp2;go_ret
     exact zAr.mk (zAu HV.o.symm) rfl
theorem rsDig_c (s:BA) (w:World) (hs:s.size≤9223372036854775807):Calls Tryz.prog 79 #[.string s] w (zAr (.bool (zCv s.data.toList)) w):=by
 go_enter Tryz.func79,Tryz.ntmps79
 go_wp2
 go_loopg [3] s.size (ByRel dgB w s)
 case atStart=>exact ⟨rfl,0,za,rfl,rfl⟩
 case round =>
  obtain ⟨hw,k,hkm,rfl,hall⟩:=hrel;subst hw;have HM:=zq hkm;have HA:=zq hall;clear hkm hall
  by_cases hlt:k<s.size
  ·by_cases h1:s[k].toNat<48
   ·have HD:=zq (zDX hlt (show dgB s[k]=false by unfold dgB;simp;omega))
    go_wp2;go_ret
    refine zAr.mk (zAu ?_) rfl
    unfold zCv;rw [HD.o,Bool.and_false]
   ·have h1b:(48:Int)≤(s[k].toNat:Int):=by omega
    by_cases h2:57<s[k].toNat
    ·have HD:=zq (zDX hlt (show dgB s[k]=false by unfold dgB;simp;omega))
     go_wp2;go_ret
     refine zAr.mk (zAu ?_) rfl
     unfold zCv;rw [HD.o,Bool.and_false]
    ·have HD:=zq (zEf hlt HA.o (show dgB s[k]=true by unfold dgB;simp;omega))
     have h2b:(s[k].toNat:Int)≤57:=za;go_wp2
     go_roundg (gk - 1)
     case measure=>have:=HM.o;omega
     case rel=>exact ⟨rfl,k+1,yp,zn,HD.o⟩
  ·obtain rfl:k=s.size:=by have:=HM.o;omega
   have HALL:Hid (s.data.toList.all dgB=true):=by
    show _=_
    have:=HA.o
    rwa [cS zd] at this
   have hr:zCv s.data.toList=decide (s.data.toList≠[]):=by unfold zCv;rw [HALL.o,Bool.and_true]
   by_cases h1:s=emp
   ·have q1:=zAm h1
    have HV:Hid (zCv s.data.toList=false):=by show _=_;rw [hr,zCo.1 h1];rfl
    clear h1 hr;go_wp2;go_ret
    exact zAr.mk (zAu HV.o.symm) rfl
   ·have q1:=zAk h1
    have HV:Hid (zCv s.data.toList=true):=hr.trans (cP (fun e=>h1 (zCo.2 e)))
    clear h1 hr;go_wp2;go_ret
    exact zAr.mk (zAu HV.o.symm) rfl
abbrev rderC (LA:Option Addr) (n c:Nat) (k:Nat) (bad:Bool):Array Value:=#[.slice LA n c,.int .i64 (k:Int),.bool bad]
structure RdI (w:World) (r:Nat) (LA:Option Addr) (c:Nat) (L:List Ln) (k:Nat) (bad:Bool):Prop where
 bx:Bx w r (rderC LA L.length c k bad) 39
 ls:Strs w LA (L.map ofL)
 ne:∀ b o,LA=some ⟨b,o,none⟩→b≠r
 la:∀ b o,LA=some ⟨b,o,none⟩→b<w.heap.size
 le:k≤L.length
 many:L.length≤600000
 short:∀ l∈L,l.length≤600000
section
variable {w w':World} {r:Nat} {LA:Option Addr} {c:Nat} {L:List Ln} {k:Nat} {bad:Bool}
theorem RdI.below (h:RdI w r LA c L k bad) (hb:Below w.heap.size w w'):RdI w' r LA c L k bad:=⟨h.bx.below hb,h.ls.below hb,h.ne,fun b o e=>cX (h.la b o e) hb.size,h.le,h.many,h.short⟩
theorem RdI.grown {q:Nat} (h:RdI w r LA c L k bad) (hg:w.grownBy w' (some q)) (h1:r≠q) (h2:∀ b o,LA=some ⟨b,o,none⟩→b≠q):RdI w' r LA c L k bad:=by
 refine ⟨(hg.block r h.bx.lt fun e=>h1 xd).trans h.bx,fun h0=>?_,h.ne,fun b o e=>cX (h.la b o e) hg.size,h.le,h.many,h.short⟩
 obtain ⟨b,o,hA,hc⟩:=h.ls h0;exact ⟨b,o,hA,fun i hi=>hg.cell (hc i hi) fun e=>h2 b o hA xd⟩
theorem RdI.setk {k':Nat} (h:RdI w r LA c L k bad) (hk:k'≤L.length):RdI (w.setCell ⟨r,1,none⟩ (.int .i64 (k':Int))) r LA c L k' bad:=by
 refine ⟨h.bx.set 1 _,fun h0=>?_,h.ne,fun b o e=>by simpa using h.la b o e,hk,h.many,h.short⟩
 obtain ⟨b,o,hA,hc⟩:=h.ls h0;exact ⟨b,o,hA,fun i hi=>qq⟩
theorem RdI.setbad (h:RdI w r LA c L k bad):RdI (w.setCell ⟨r,2,none⟩ (.bool true)) r LA c L k true:=by
 refine ⟨h.bx.set 2 _,fun h0=>?_,h.ne,fun b o e=>by simpa using h.la b o e,h.le,h.many,h.short⟩
 obtain ⟨b,o,hA,hc⟩:=h.ls h0;exact ⟨b,o,hA,fun i hi=>qq⟩
end
def wdO (bad:Bool) (pre first:Ln) (many:Nat) (M:List Ln):Option (List Ln):=if bad=true then none else wdF pre first many M
def zBK (res:Option (List Ln)) (w:World) (e:Ending) (w':World):Prop :=
 ∃ A c,e = .returned (.tuple #[.slice A (res.getD []).length c,.bool res.isSome])∧(∀ W,res=some W→(∀ b o,A=some ⟨b,o,none⟩→w.heap.size≤b)∧Strs w' A (W.map ofL))∧Below w.heap.size w w'
theorem zBK.no {w w':World} (hb:Below w.heap.size w w'):zBK none w (.returned (.tuple #[.slice none 0 0,.bool false])) w':=⟨none,0,rfl,(fun _ h=>zy),hb⟩
theorem cutP_c (s p:BA) (w:World):Calls Tryz.prog 66 #[.string s,.string p] w fun e w'=>e = .returned (.tuple #[.string (ofL (cutP p.data.toList s.data.toList)),.bool (p.data.toList.isPrefixOf s.data.toList)])∧w'=w:=by
 have h:=Any.strings_CutPrefix Tryz.laysp103 s p w
 change Calls Tryz.prog 66 _ _ _ at h
 exact h
theorem split_c (c:UInt8) (s:BA) (w:World) (hs:s.size<4294967281) (hG:GOK w):Calls Tryz.prog 10 #[.string s,.string ⟨#[c]⟩] w fun e w' =>
  ∃ b n,n=(spl c s.data.toList).length∧e = .returned (.slice (some ⟨b,0,none⟩) n n)∧w.heap.size≤b∧Strs w' (some ⟨b,0,none⟩) ((spl c s.data.toList).map ofL)∧Below w.heap.size w w':=by
 obtain ⟨m,hm⟩:=hG;have h:=Any.strings_Split Tryz.lays146 zb s ⟨#[c]⟩ m w hs hm (aB 1)
 change Calls Tryz.prog 10 _ _ _ at h
 refine h.mono fun e w' ⟨he,hw⟩=>⟨w.heap.size,_,(countB_one c s),he,aB _,fun _=>⟨w.heap.size,0,rfl,fun i hi=>?_⟩,by rw [hw];exact (bS _ _).alloc (aB _) _⟩
 rw [hw,bJ,splitB_one];refine (World.cell?_alloc_mark w (((spl c s.data.toList).map ofL).map Value.string).toArray 9 (0,0) i).trans ?_
 rw [List.getElem?_toArray,List.getElem?_map,List.getElem?_eq_getElem hi];rfl
theorem zEt (r:Nat) (LA:Option Addr) (c:Nat) (L:List Ln) (k:Nat) (bad:Bool) (pre first:BA) (many:Nat) (w:World) (h:RdI w r LA c L k bad) (hG:GOK w) (_hm:many≤10) :
  Calls Tryz.prog 27 #[.pointer (some ⟨r,0,none⟩),.string pre,.string first,.int .i64 (many:Int)] w (zBK (wdO bad pre.data.toList first.data.toList many (L.drop k)) w):=by
 have HI:=zq h;have hle:=h.le;have hmany:=h.many;have x0:w.cell? ⟨r,0,none⟩=some (.slice LA L.length c):=h.bx.c 0 rfl;have x1:w.cell? ⟨r,1,none⟩=some (.int .i64 (k:Int)):=h.bx.c 1 rfl;have x2:w.cell? ⟨r,2,none⟩=some (.bool bad):=h.bx.c 2 rfl;have hr:=h.bx.lt
 cases bad with
 | true =>
  clear h
  go_enter Tryz.func27,Tryz.ntmps27
  go_upto_region 1 with fail
  go_quiet (fail)
  go_wp2;go_ret2
  exact zBK.no (zAc (bS _ _) _)
 | false =>
  by_cases hk:k<L.length
  case neg =>
   have q1:decide ((L.length:Int)≤(k:Int))=true:=cP za
   have HV:Hid (wdO false pre.data.toList first.data.toList many (L.drop k)=none):=by
    show _=_
    rw [dN za];rfl
   clear h
   go_enter Tryz.func27,Tryz.ntmps27
   go_upto_region 1 with fail
   go_quiet (fail)
   go_wp2;go_ret2
   rw [HV.o];exact zBK.no (zAc (bS _ _) _)
  have q1:decide ((L.length:Int)≤(k:Int))=false:=cQ za;obtain ⟨b,o,hA,hc⟩:=h.ls (by rw [aK];omega)
  subst hA;have hc0:=hc k (by rw [aK];exact hk)
  rw [aL] at hc0;have HD:Hid (L.drop k=L[k]::L.drop (k+1)):=aF hk;have hll:=h.short _ (aI hk);generalize L[k]=l at *;have HW:=zq ((show wdO false pre.data.toList first.data.toList many (L.drop k)=wdF pre.data.toList first.data.toList many (l::L.drop (k+1)) by rw [HD.o];rfl).trans (wdF_asks pre.data.toList first.data.toList l (L.drop (k+1)) many))
  have hql:(cutP pre.data.toList l).length≤600000:=by
   unfold cutP
   split
   ·rw [bK];omega
   ·exact hll
  have HCP:=zq (fun u=>cutP_c (ofL l) pre u)
  have HSP:=zq (fun u hu=>split_c 32 (ofL (cutP pre.data.toList l)) u zr hu)
  simp only [zAj] at HCP HSP;generalize cutP pre.data.toList l=q at *;generalize pre.data.toList.isPrefixOf l=pf at *
  obtain ⟨W0,t,hW⟩:∃ W0 t,spl 32 q=W0::t:=by
   cases hs:spl 32 q with
   | nil=>exact absurd hs (spl_ne q)
   | cons a t=>exact ⟨a,t,rfl⟩
  rw [hW] at HW HSP;have htl:(W0::t).length≤600001:=by rw [←hW];exact cV (spl_len 32 q) za
  have HG:=zq hG;obtain ⟨ql,hql⟩:∃ x,x=ofL l:=⟨_,rfl⟩;obtain ⟨qs,hqs⟩:∃ x,x=ofL q:=⟨_,rfl⟩;rw [←hql] at HCP hc0;rw [←hqs] at HCP HSP;clear hW hll hc hG hql hqs h HD
  go_enter Tryz.func27,Tryz.ntmps27
  go_upto_region 1 with fail
  go_quiet (fail)
  have HB1:Hid (Below w.heap.size w (w.drewN nq)):=zAc (bS _ _) nq;have HI1:=zq (HI.o.below HB1.o);have HG1:=zq (HG.o.below HB1.o);have hc1:=zAh HB1.o hc0;clear x0 x1 x2 hr hc0;generalize w.drewN nq=w1 at *;have x0:w1.cell? ⟨r,0,none⟩=some (.slice (some ⟨b,o,none⟩) L.length c):=HI1.o.bx.c 0 rfl;have x1:w1.cell? ⟨r,1,none⟩=some (.int .i64 (k:Int)):=HI1.o.bx.c 1 rfl;have hr:=HI1.o.bx.lt;clear HI HG q1;go_upto_region 3 with fail
  go_quiet ((go_at_call 66;exact Calls.quiet_of_same (HCP.o _)))
  have HB2:Hid (Below w.heap.size w (w1.drewN nq)):=zAc HB1.o nq;have HG2:=zq (HG1.o.below (zAc (bS _ _) nq));clear x0 x1 hr hc1 HI1 HG1 HB1;generalize w1.drewN nq=w2 at *;have HS2:=zq (HSP.o w2 HG2.o);clear HSP HCP HG2
  go_wp2_with fail
  with_reducible refine HS2.o.mono ?_
  rintro e w3 ⟨b2,n,hn,rfl,hlo,hst,hb3⟩;have HLO:Hid (w.heap.size≤b2):=cV HB2.o.size hlo;have HB3:=zq (zAb HB2.o hb3);have HST:=zq hst;obtain ⟨b3,o3,hA,hc3⟩:=hst zd
  injection hA with hA
  injection hA with hA1 hA2 _
  subst hA1;subst hA2;have c0:=hc3 0 zd;simp only [dJ,cN,cO] at c0;have hn2:n=t.length+1:=j6;have hn0:(0:Int)<(n:Int):=za;have htl2:n≤600001:=by rw [hn];exact htl
  clear hst hb3 hc3 HS2 HB2 hn htl hlo
  cases pf with
  | false =>
   have HV:Hid (wdO false pre.data.toList first.data.toList many (L.drop k)=none):=by show _=_;rw [HW.o,aC zd]
   go_wp2;go_ret2
   rw [HV.o];exact zBK.no HB3.o
  | true =>
   by_cases he:ofL W0=first
   case neg =>
    have HV:Hid (wdO false pre.data.toList first.data.toList many (L.drop k)=none):=by
     show _=_
     rw [HW.o,aE rfl,aC];intro h;simp only [List.head?_cons,dO] at h;exact he (by rw [h,zDJ])
    have q2:=zAo he;clear he;go_wp2;go_ret2
    rw [HV.o];exact zBK.no HB3.o
   have q2:=zAy he;have HE:Hid ((W0::t).head?=some first.data.toList):=by show _=_;rw [←he,zAj];rfl
   clear he
   by_cases hl:n=many
   ·have q3:((n:Int) != (many:Int))=false:=by rw [hl];simp
    have HV:Hid (wdO false pre.data.toList first.data.toList many (L.drop k)=some (W0::t)):=by
     show _=_
     rw [HW.o,aE rfl,aE HE.o,aE (by rw [aQ];omega)]
    clear hl;go_wp2;go_ret2
    rw [HV.o];refine ⟨_,n,by rw [hn2];rfl,fun W hW=>?_,HB3.o⟩
    injection hW with hW
    rw [←hW];exact ⟨fun b o e=>by injection e with e;injection e with e _ _;rw [←e];exact HLO.o,HST.o⟩
   ·have q3:((n:Int) != (many:Int))=true:=by simpa using fun h=>hl za
    have HV:Hid (wdO false pre.data.toList first.data.toList many (L.drop k)=none):=by
     show _=_
     rw [HW.o,aE rfl,aE HE.o,aC (by rw [aQ];omega)]
    clear hl;go_wp2;go_ret2
    rw [HV.o];exact zBK.no HB3.o
theorem zAn (w:World) (a:Addr) (u:Value):w.grownBy (w.setCell a u) (some a.block) :=
 have hb:=dP (bS a.block w) (aB _) u
 ⟨hb.os,hb.tape,hb.output,hb.size,fun i _ hne=>cH w a u i fun e=>hne (by rw [e])⟩
theorem RdI.farB {w:World} {r q:Nat} {LA:Option Addr} {c:Nat} {L:List Ln} {k:Nat} {bad:Bool} (h:RdI w r LA c L k bad) (h1:r≠q) (h2:∀ b o,LA=some ⟨b,o,none⟩→b≠q) (i:Nat) (u:Value):RdI (w.setCell ⟨q,i,none⟩ u) r LA c L k bad :=
 h.grown (zAn w ⟨q,i,none⟩ u) h1 h2
theorem zAA {w w':World} (hb:Below w.heap.size w w') (r:Nat):w.grownBy w' (some r):=⟨hb.os,hb.tape,hb.output,hb.size,fun i hi _=>hb.block i hi⟩
theorem zDm {w w':World} {r q:Nat} (h:w.grownBy w' (some r)) (hq:w.heap.size≤q) (i:Nat) (u:Value):w.grownBy (w'.setCell ⟨q,i,none⟩ u) (some r) :=
 have g:=zAn w' ⟨q,i,none⟩ u
 ⟨g.os.trans h.os,g.tape.trans h.tape,g.output.trans h.output,cV h.size g.size,fun j hj hne=>(g.block j (cX hj h.size) (fun e=>by have:j=q:=jp;omega)).trans (h.block j hj hne)⟩
def nxk (k:Nat) (ok:Bool):Nat:=if ok=true then k+1 else k
def zBJ (v:Value) (r:Nat) (LA:Option Addr) (c:Nat) (L:List Ln) (k:Nat) (bad:Bool) (w:World) (e:Ending) (w':World):Prop :=
 e = .returned v∧RdI w' r LA c L k bad∧w.grownBy w' (some r)
theorem next_c (r:Nat) (LA:Option Addr) (c:Nat) (L:List Ln) (k:Nat) (bad ok:Bool) (w:World) (h:RdI w r LA c L k bad) (hk:ok=true→k<L.length) :
  Calls Tryz.prog 31 #[.pointer (some ⟨r,0,none⟩),.bool ok] w (zBJ (.tuple #[]) r LA c L (nxk k ok) (bad || !ok) w):=by
 have HI:=zq h;have hmany:=h.many;have hle:=h.le;have x1:w.cell? ⟨r,1,none⟩=some (.int .i64 (k:Int)):=h.bx.c 1 rfl;have x2:w.cell? ⟨r,2,none⟩=some (.bool bad):=h.bx.c 2 rfl;have hr:=h.bx.lt;have hf:=h.bx.frozen
 cases ok with
 | true =>
  have hk1:=hk rfl
  have HK:Hid (RdI (w.setCell ⟨r,1,none⟩ (.int .i64 ((k+1:Nat):Int))) r LA c L (k+1) (bad || !true)):=by
   show RdI _ _ _ _ _ _ _
   rw [Bool.not_true,Bool.or_false];exact HI.o.setk hk1
  clear h hk
  go_enter Tryz.func31,Tryz.ntmps31
  go_wp2;refine dD (v:=.tuple #[]) (by simp [results,Tryz.results31,go_sem]) rfl ?_
  have e1:((k:Int)+1)=((k+1:Nat):Int):=za;rw [e1];exact ⟨rfl,HK.o,zAn _ _ _⟩
 | false =>
  have HK:Hid (RdI (w.setCell ⟨r,2,none⟩ (.bool true)) r LA c L k (bad || !false)):=by
   show RdI _ _ _ _ _ _ _
   rw [Bool.not_false,Bool.or_true];exact HI.o.setbad
  clear h hk
  go_enter Tryz.func31,Tryz.ntmps31
  go_wp2;exact dD (v:=.tuple #[]) (by simp [results,Tryz.results31,go_sem]) rfl ⟨rfl,HK.o,zAn _ _ _⟩
def flB (bad:Bool) (first:Ln) (M:List Ln):Bool:=(wdO bad sp2 first 1 M).isSome
theorem zEs {bad:Bool} {pre first:Ln} {m:Nat} {M:List Ln} (h:(wdO bad pre first m M).isSome=true):M≠[]:=by
 rintro rfl;unfold wdO at h
 split at h<;>cases h
theorem zBi {L:List Ln} {k:Nat} (h:L.drop k≠[]):k<L.length:=by
 rcases bO k L.length with h1 | h1
 ·exact h1
 ·exact absurd (dN h1) h
theorem flag_c (r:Nat) (LA:Option Addr) (c:Nat) (L:List Ln) (k:Nat) (bad:Bool) (first:BA) (w:World) (h:RdI w r LA c L k bad) (hG:GOK w) :
  Calls Tryz.prog 35 #[.pointer (some ⟨r,0,none⟩),.string first] w (zBJ (.bool (flB bad first.data.toList (L.drop k))) r LA c L (nxk k (flB bad first.data.toList (L.drop k))) bad w):=by
 have HI:=zq h;have HW:Hid (Calls Tryz.prog 27 #[.pointer (some ⟨r,0,none⟩),.string ⟨#[32,32]⟩,.string first,.int .i64 1] w (zBK (wdO bad sp2 first.data.toList 1 (L.drop k)) w)):=zEt r LA c L k bad ⟨#[32,32]⟩ first 1 w h hG zc
 have HF:Hid ((wdO bad sp2 first.data.toList 1 (L.drop k)).isSome=flB bad first.data.toList (L.drop k)):=rfl
 have HP:Hid (flB bad first.data.toList (L.drop k)=true→k<L.length):=fun hb=>zBi (zEs hb)
 generalize wdO bad sp2 first.data.toList 1 (L.drop k)=res at *
 generalize flB bad first.data.toList (L.drop k)=b at *
 clear h hG
 go_enter Tryz.func35,Tryz.ntmps35
 go_wp2_with fail
 with_reducible refine HW.o.mono ?_
 rintro e w1 ⟨A,c1,rfl,_,hb1⟩;rw [HF.o];have HI1:=zq (HI.o.below hb1);have HB1:=zq (zAA hb1 r);clear hb1 HI HW HF
 cases b with
 | false =>
  go_wp2;go_ret
  exact ⟨rfl,HI1.o,HB1.o⟩
 | true =>
  have hk1:=HP.o rfl;have hmany:=HI1.o.many;have x1:w1.cell? ⟨r,1,none⟩=some (.int .i64 (k:Int)):=HI1.o.bx.c 1 rfl;have hr:=HI1.o.bx.lt;have hf:=HI1.o.bx.frozen;have HK:=zq (HI1.o.setk (k':=k+1) hk1);go_wp2;go_ret
  have e1:((k:Int)+1)=((k+1:Nat):Int):=za;rw [e1];exact ⟨rfl,HK.o,HB1.o.trans (zAn _ _ _)⟩
def nmO (bad:Bool) (first:Ln) (M:List Ln):Option Ln:=if bad=true then none else zDk sp2 first M
theorem nmO_of {bad:Bool} {first:Ln} {M:List Ln}:nmO bad first M=match wdO bad sp2 first 2 M with
  | some [_,n]=>if rowL n=true then some n else none
  | _=>none:=by
 unfold nmO wdO zDk
 cases bad<;>rfl
theorem wdO_two {bad:Bool} {pre first:Ln} {M:List Ln} {w:List Ln} (h:wdO bad pre first 2 M=some w):bad=false∧∃ n,w=[first,n]:=by
 unfold wdO at h
 cases bad with
 | true=>cases h
 | false =>
  obtain ⟨n,hn,_⟩:=zDL h;exact ⟨rfl,n,hn⟩
theorem zCI {L:List Ln} {pre first n:Ln} {m:Nat} {w:List Ln} (hs:∀ l∈L,l.length≤600000) (h:wdF pre first m L=some w) (hn:n∈w):n.length≤600000:=by
 obtain ⟨l,r,rfl,rfl,_,_⟩:=wdF_some h;have h1:=hs _ aO
 have key:∀ (ws:List Ln),n∈ws→n.length≤(joi 32 ws).length:=fun ws=>by
  induction ws with
  | nil=>intro h;cases h
  | cons a t ih =>
   intro h
   cases t with
   | nil=>rw [List.mem_singleton.1 h];exact aB _
   | cons b t =>
    rw [joi_cons zd,cY,aQ]
    rcases List.mem_cons.1 h with rfl | h
    ·omega
    ·have:=ih h;omega
 have:=key w hn;rw [cY] at h1;omega
theorem RdI.drops {w:World} {r:Nat} {LA:Option Addr} {c:Nat} {L:List Ln} {k:Nat} {bad:Bool} (h:RdI w r LA c L k bad):∀ l∈L.drop k,l.length≤600000:=fun l hl=>h.short l (bX hl)
theorem name_c (r:Nat) (LA:Option Addr) (c:Nat) (L:List Ln) (k:Nat) (bad:Bool) (first:BA) (w:World) (h:RdI w r LA c L k bad) (hG:GOK w) :
  Calls Tryz.prog 33 #[.pointer (some ⟨r,0,none⟩),.string first] w
   (zBJ (.string (ofL ((nmO bad first.data.toList (L.drop k)).getD []))) r LA c L (nxk k (nmO bad first.data.toList (L.drop k)).isSome) (bad || !(nmO bad first.data.toList (L.drop k)).isSome) w):=by
 have HI:=zq h;have HW:Hid (Calls Tryz.prog 27 #[.pointer (some ⟨r,0,none⟩),.string ⟨#[32,32]⟩,.string first,.int .i64 2] w (zBK (wdO bad sp2 first.data.toList 2 (L.drop k)) w)):=zEt r LA c L k bad ⟨#[32,32]⟩ first 2 w h hG zc
 have HF:=zq (nmO_of (bad:=bad) (first:=first.data.toList) (M:=L.drop k))
 have HP:Hid ((wdO bad sp2 first.data.toList 2 (L.drop k)).isSome=true→k<L.length):=fun hb=>zBi (zEs hb)
 have HT:Hid (∀ W,wdO bad sp2 first.data.toList 2 (L.drop k)=some W→bad=false∧∃ n,W=[first.data.toList,n]∧n.length≤600000):=fun W hW=>by
  obtain ⟨h1,n,hn⟩:=wdO_two hW;refine ⟨h1,n,hn,?_⟩
  subst h1;exact zCI (m:=2) h.drops (show wdF sp2 first.data.toList 2 (L.drop k)=some W from hW) vj
 generalize wdO bad sp2 first.data.toList 2 (L.drop k)=res at *
 generalize nmO bad first.data.toList (L.drop k)=ans at *
 clear h hG
 go_enter Tryz.func33,Tryz.ntmps33
 go_wp2_with fail
 with_reducible refine HW.o.mono ?_
 rintro e w1 ⟨A,c1,rfl,hst,hb1⟩;have HI1:=zq (HI.o.below hb1);have HB1:=zq (zAA hb1 r);have HST:=zq hst;clear hb1 HW hst
 cases res with
 | none =>
  have HA:Hid (ans=none):=HF.o;clear HI;have HN:=zq (next_c r LA c L k bad false w1 HI1.o (fun h=>zy))
  clear HF HP HT HST
  go_wp2_with fail
  with_reducible refine HN.o.mono ?_
  rintro e w2 ⟨rfl,hi2,hg2⟩;rw [Bool.not_false,Bool.or_true] at hi2;have x2:w2.cell? ⟨r,2,none⟩=some (.bool true):=hi2.bx.c 2 rfl;have hr:=hi2.bx.lt;have HI2:=zq hi2;have HG2:=zq (HB1.o.trans hg2);clear hi2 hg2 HN;go_wp2;go_ret
  rw [HA.o];exact ⟨rfl,by rw [show (bad || !(none:Option Ln).isSome)=true by simp];exact HI2.o,HG2.o⟩
 | some W =>
  obtain ⟨hbad,n,rfl,hnl⟩:=HT.o W rfl;subst hbad;have hk1:=HP.o rfl;obtain ⟨hlo,hst⟩:=HST.o _ rfl;obtain ⟨b2,o2,hA2,hc2⟩:=hst zd
  have HNE:Hid (b2≠r):=by
   have h1:=hlo b2 o2 hA2;have h2:=HI.o.bx.lt
   show _≠_
   omega
  subst hA2;clear hst hlo HI;have c1':w1.cell? ⟨b2,o2+1,none⟩=some (.string (ofL n)):=hc2 1 zd;have HR:=zq (isRow_c (ofL n) w1 zr);rw [zAj] at HR;have HF2:Hid (ans=if rowL n=true then some n else none):=HF.o
  generalize rowL n=b at *;clear hc2 HF HP HT HST
  go_wp2_with fail
  with_reducible refine HR.o.mono ?_
  rintro e w2 ⟨rfl,hb2⟩;have HI2:=zq (HI1.o.below hb2);have HG2:=zq (HB1.o.trans (zAA hb2 r));have HN:=zq (next_c r LA c L k false b w2 HI2.o (fun _=>hk1))
  have HC2:=zq (zAh hb2 c1');clear hb2 HR HI1 HB1 c1'
  go_wp2_with fail
  with_reducible refine HN.o.mono ?_
  rintro e w3 ⟨rfl,hi3,hg3⟩;rw [Bool.false_or] at hi3;have x2:w3.cell? ⟨r,2,none⟩=some (.bool (!b)):=hi3.bx.c 2 rfl;have hr:=hi3.bx.lt;have HI3:=zq hi3;have HG3:=zq (HG2.o.trans hg3);have HC3:Hid (b=true→w3.cell? ⟨b2,o2+1,none⟩=some (.string (ofL n))):=fun _=>hg3.cell HC2.o fun e=>HNE.o xd
  clear hi3 hg3 HN
  cases b with
  | false =>
   have HA:Hid (ans=none):=HF2.o;go_wp2;go_ret
   rw [HA.o];exact ⟨rfl,HI3.o,HG3.o⟩
  | true =>
   have HA:Hid (ans=some n):=HF2.o;have c3:=HC3.o rfl;go_wp2;go_ret
   rw [HA.o];exact ⟨rfl,HI3.o,HG3.o⟩
def numA:Option Nat→Value
 | some m=>.tuple #[.int .i64 (m:Int),.bool true]
 | none=>.tuple #[.int .i64 0,.bool false]
theorem numV_ans (n:Ln):numV (ofL n)=numA (zDv n):=by
 unfold numV;rw [zAj]
 cases zDv n<;>rfl
def nuO (bad:Bool) (first:Ln) (M:List Ln):Option Nat:=match wdO bad sp2 first 2 M with
 | some [_,s]=>zDv s
 | _=>none
theorem rdNum_c (r:Nat) (LA:Option Addr) (c:Nat) (L:List Ln) (k:Nat) (bad:Bool) (first:BA) (w:World) (h:RdI w r LA c L k bad) (hG:GOK w) :
  Calls Tryz.prog 39 #[.pointer (some ⟨r,0,none⟩),.string first] w
   (zBJ (.int .i64 (((nuO bad first.data.toList (L.drop k)).getD 0:Nat):Int)) r LA c L (nxk k (nuO bad first.data.toList (L.drop k)).isSome) (bad || !(nuO bad first.data.toList (L.drop k)).isSome) w):=by
 have HI:=zq h;have HW:Hid (Calls Tryz.prog 27 #[.pointer (some ⟨r,0,none⟩),.string ⟨#[32,32]⟩,.string first,.int .i64 2] w (zBK (wdO bad sp2 first.data.toList 2 (L.drop k)) w)):=zEt r LA c L k bad ⟨#[32,32]⟩ first 2 w h hG zc
 have HF:Hid (nuO bad first.data.toList (L.drop k)=match wdO bad sp2 first.data.toList 2 (L.drop k) with | some [_,s]=>zDv s | _=>none):=rfl
 have HP:Hid ((wdO bad sp2 first.data.toList 2 (L.drop k)).isSome=true→k<L.length):=fun hb=>zBi (zEs hb)
 have HT:Hid (∀ W,wdO bad sp2 first.data.toList 2 (L.drop k)=some W→bad=false∧∃ n,W=[first.data.toList,n]∧n.length≤600000):=fun W hW=>by
  obtain ⟨h1,n,hn⟩:=wdO_two hW;refine ⟨h1,n,hn,?_⟩
  subst h1;exact zCI (m:=2) h.drops (show wdF sp2 first.data.toList 2 (L.drop k)=some W from hW) vj
 generalize wdO bad sp2 first.data.toList 2 (L.drop k)=res at *
 generalize nuO bad first.data.toList (L.drop k)=ans at *
 clear h hG
 go_enter Tryz.func39,Tryz.ntmps39
 go_wp2_with fail
 with_reducible refine HW.o.mono ?_
 rintro e w1 ⟨A,c1,rfl,hst,hb1⟩;have HI1:=zq (HI.o.below hb1);have HB1:=zq (zAA hb1 r);have HST:=zq hst;clear hb1 HW hst HI
 cases res with
 | none =>
  have HA:Hid (ans=none):=HF.o;have HN:=zq (next_c r LA c L k bad false w1 HI1.o (fun h=>zy))
  clear HF HP HT HST
  go_wp2_with fail
  with_reducible refine HN.o.mono ?_
  rintro e w2 ⟨rfl,hi2,hg2⟩;have HI2:=zq hi2;have HG2:=zq (HB1.o.trans hg2);clear hi2 hg2 HN;go_wp2;go_ret
  rw [HA.o];exact ⟨rfl,HI2.o,HG2.o⟩
 | some W =>
  obtain ⟨hbad,n,rfl,hnl⟩:=HT.o W rfl;subst hbad;have hk1:=HP.o rfl;obtain ⟨hlo,hst⟩:=HST.o _ rfl;obtain ⟨b2,o2,hA2,hc2⟩:=hst zd;subst hA2;clear hst hlo;have c1':w1.cell? ⟨b2,o2+1,none⟩=some (.string (ofL n)):=hc2 1 zd;have HR:=zq (readNumber_c (ofL n) w1 zr);have HF2:Hid (ans=zDv n):=HF.o
  have HNV:Hid (numV (ofL n)=numA ans):=by
   show _=_
   rw [HF2.o];exact numV_ans n
  clear hc2 HF HP HT HST HF2
  cases ans with
  | none =>
   rw [HNV.o,show numA none = .tuple #[.int .i64 0,.bool false] from rfl] at HR
   clear HNV
   go_wp2_with fail
   with_reducible refine HR.o.mono ?_
   rintro e w2 ⟨rfl,hb2⟩;have HI2:=zq (HI1.o.below hb2);have HG2:=zq (HB1.o.trans (zAA hb2 r));have HN:=zq (next_c r LA c L k false false w2 HI2.o (fun h=>zy))
   clear hb2 HR HI1 HB1 c1'
   go_wp2_with fail
   with_reducible refine HN.o.mono ?_
   rintro e w3 ⟨rfl,hi3,hg3⟩;have HI3:=zq hi3;have HG3:=zq (HG2.o.trans hg3);clear hi3 hg3 HN;go_wp2;go_ret
   exact ⟨rfl,HI3.o,HG3.o⟩
  | some m =>
   rw [HNV.o,show numA (some m) = .tuple #[.int .i64 (m:Int),.bool true] from rfl] at HR
   clear HNV
   go_wp2_with fail
   with_reducible refine HR.o.mono ?_
   rintro e w2 ⟨rfl,hb2⟩;have HI2:=zq (HI1.o.below hb2);have HG2:=zq (HB1.o.trans (zAA hb2 r));have HN:=zq (next_c r LA c L k false true w2 HI2.o (fun _=>hk1))
   clear hb2 HR HI1 HB1 c1'
   go_wp2_with fail
   with_reducible refine HN.o.mono ?_
   rintro e w3 ⟨rfl,hi3,hg3⟩;have HI3:=zq hi3;have HG3:=zq (HG2.o.trans hg3);clear hi3 hg3 HN;go_wp2;go_ret
   exact ⟨rfl,HI3.o,HG3.o⟩
def paO (bad:Bool) (M:List Ln):Option (Ln×Ln):=match wdO bad sp2 zDU 2 M with
 | some [_,s]=>zDP s
 | _=>none
def GivesPa (ans:Option (Ln×Ln)) (r:Nat) (LA:Option Addr) (c:Nat) (L:List Ln) (k:Nat) (bad:Bool) (w:World) (e:Ending) (w':World):Prop :=
 ∃ s1 s2:BA,e = .returned (.agg #[.string s1,.string s2])∧(∀ p,ans=some p→s1=ofL p.1∧s2=ofL p.2)∧RdI w' r LA c L k bad∧w.grownBy w' (some r)
theorem ratV_is (s:BA):∃ s1 s2:BA,ratV s = .tuple #[.agg #[.string s1,.string s2],.bool (zDP s.data.toList).isSome]∧∀ p,zDP s.data.toList=some p→s1=ofL p.1∧s2=ofL p.2:=by
 refine ⟨_,_,rfl,fun p hp=>?_⟩
 rw [ratX_cut] at hp
 split at hp
 ·injection hp with hp
  rw [←hp];exact ⟨rfl,rfl⟩
 ·cases hp
theorem part_c (r:Nat) (LA:Option Addr) (c:Nat) (L:List Ln) (k:Nat) (bad:Bool) (w:World) (h:RdI w r LA c L k bad) (hG:GOK w) :
  Calls Tryz.prog 34 #[.pointer (some ⟨r,0,none⟩)] w
   (GivesPa (paO bad (L.drop k)) r LA c L (nxk k (paO bad (L.drop k)).isSome) (bad || !(paO bad (L.drop k)).isSome) w):=by
 have HB0:Hid (Below w.heap.size w (w.alloc (.cells #[.string ⟨#[]⟩,.string ⟨#[]⟩] 43))):=(bS _ _).alloc (aB _) _;have HX0:Hid (Bx (w.alloc (.cells #[.string ⟨#[]⟩,.string ⟨#[]⟩] 43)) w.heap.size #[.string ⟨#[]⟩,.string ⟨#[]⟩] 43):=Bx.new _ _ _;obtain ⟨W,hW⟩:∃ W,W=w.alloc (.cells #[.string ⟨#[]⟩,.string ⟨#[]⟩] 43):=⟨_,rfl⟩;rw [←hW] at HX0 HB0;have hrw:r<w.heap.size:=h.bx.lt;have HLW:=zq h.la;have HI:=zq (h.below HB0.o);have HW:Hid (Calls Tryz.prog 27 #[.pointer (some ⟨r,0,none⟩),.string ⟨#[32,32]⟩,.string ⟨#[112,97,114,116]⟩,.int .i64 2] W (zBK (wdO bad sp2 zDU 2 (L.drop k)) W)):=zEt r LA c L k bad ⟨#[32,32]⟩ ⟨#[112,97,114,116]⟩ 2 W HI.o (hG.below HB0.o) zc;have HF:Hid (paO bad (L.drop k)=match wdO bad sp2 zDU 2 (L.drop k) with | some [_,s]=>zDP s | _=>none):=rfl
 have HP:Hid ((wdO bad sp2 zDU 2 (L.drop k)).isSome=true→k<L.length):=fun hb=>zBi (zEs hb)
 have HT:Hid (∀ V,wdO bad sp2 zDU 2 (L.drop k)=some V→bad=false∧∃ n,V=[zDU,n]∧n.length≤600000):=fun V hV=>by
  obtain ⟨h1,n,hn⟩:=wdO_two hV;refine ⟨h1,n,hn,?_⟩
  subst h1;exact zCI (m:=2) h.drops (show wdF sp2 zDU 2 (L.drop k)=some V from hV) vj
 have HG:=zq hG;generalize wdO bad sp2 zDU 2 (L.drop k)=res at *;generalize paO bad (L.drop k)=ans at *;clear h hG
 go_enter Tryz.func34,Tryz.ntmps34
 go_upto_region 1 with fail
 rw [←hW];clear hW
 go_wp2_with fail
 with_reducible refine HW.o.mono ?_
 rintro e w1 ⟨A,c1,rfl,hst,hb1⟩;have HST:=zq hst;have hba:Below w1.heap.size w1 (w1.alloc (.cells #[.string ⟨#[]⟩,.string ⟨#[]⟩] 43)):=(bS _ _).alloc (aB _) _;have HX1:Hid (Bx (w1.alloc (.cells #[.string ⟨#[]⟩,.string ⟨#[]⟩] 43)) w1.heap.size #[.string ⟨#[]⟩,.string ⟨#[]⟩] 43):=Bx.new _ _ _;have HBA:=zq hba;have HB1:=zq (zAb (zAb HB0.o hb1) hba);have HI1:=zq (HI.o.below (zAb hb1 hba));have HX01:=zq (HX0.o.below (zAb hb1 hba));have hww:w.heap.size<w1.heap.size:=cX HX0.o.lt hb1.size;go_upto_region 3 with fail
 obtain ⟨w2,hw2⟩:∃ w2,w2=w1.alloc (.cells #[.string ⟨#[]⟩,.string ⟨#[]⟩] 43):=⟨_,rfl⟩;rw [←hw2] at HX1 HBA HB1 HI1 HX01 ⊢;clear hw2 hb1 hba HW hst HI HX0
 cases res with
 | none =>
  have HA:Hid (ans=none):=HF.o;have HN:=zq (next_c r LA c L k bad false w2 HI1.o (fun h=>zy))
  clear HF HP HT HST
  go_wp2_with fail
  with_reducible refine HN.o.mono ?_
  rintro e w3 ⟨rfl,hi3,hg3⟩;have HX3:Hid (Bx w3 w1.heap.size #[.string ⟨#[]⟩,.string ⟨#[]⟩] 43):=(hg3.block _ HX1.o.lt fun e=>vy).trans HX1.o
  have HX4:Hid (Bx w3 w.heap.size #[.string ⟨#[]⟩,.string ⟨#[]⟩] 43):=(hg3.block _ HX01.o.lt fun e=>vy).trans HX01.o
  have HI3:=zq hi3;have HG3:=zq ((zAA HB1.o r).trans hg3);have HLA:Hid (∀ b o,LA=some ⟨b,o,none⟩→b≠w.heap.size):=fun b o e=>by have:=HLW.o b o e;omega
  clear hi3 hg3 HN HI1 HX1 HX01 HB1;have x0:=HX3.o.c 0 rfl;have x1:=HX3.o.c 1 rfl;have hx:=HX3.o.lt;have y0:=HX4.o.c 0 rfl;have y1:=HX4.o.c 1 rfl;have hy:=HX4.o.lt;have fy:=HX4.o.frozen;go_wp2;refine dD (v:=.agg #[.string ⟨#[]⟩,.string ⟨#[]⟩]) (by simp [results,Tryz.results34,go_sem,y0,y1]) rfl ?_
  rw [HA.o];exact ⟨_,_,rfl,(fun p hp=>by cases hp),(HI3.o.farB (Nat.ne_of_lt hrw) HLA.o _ _).farB (Nat.ne_of_lt hrw) HLA.o _ _,zDm (zDm HG3.o (aB _) _ _) (aB _) _ _⟩
 | some V =>
  obtain ⟨hbad,n,rfl,hnl⟩:=HT.o V rfl;subst hbad;have hk1:=HP.o rfl;obtain ⟨hlo,hst⟩:=HST.o _ rfl;obtain ⟨b2,o2,hA2,hc2⟩:=hst zd;subst hA2;clear hst hlo;have c1':w2.cell? ⟨b2,o2+1,none⟩=some (.string (ofL n)):=zAh HBA.o (hc2 1 zd);have HR:=zq (readRatio_c (ofL n) w2 zr (HG.o.below HB1.o));have HF2:Hid (ans=zDP n):=HF.o;obtain ⟨s1,s2,hv,hs⟩:=ratV_is (ofL n);rw [zAj] at hv hs;rw [hv,←HF2.o] at HR;rw [←HF2.o] at hs;have HS:=zq hs;obtain ⟨ok,hok⟩:∃ ok,ok=ans.isSome:=⟨_,rfl⟩;have HOK:=zq hok;rw [←hok] at HR;clear hc2 HF HP HT HST HF2 hv hs hok HG HBA
  go_wp2_with fail
  with_reducible refine HR.o.mono ?_
  rintro e w3 ⟨rfl,hb3⟩;have HI3:=zq (HI1.o.below hb3);have HX3:=zq (HX1.o.below hb3);have HX4:=zq (HX01.o.below hb3);have HB3:=zq (zAb HB1.o hb3);clear hb3 HR HI1 HX1 HX01 HB1 c1';have x0:=HX3.o.c 0 rfl;have x1:=HX3.o.c 1 rfl;have hx:=HX3.o.lt;have fx:=HX3.o.frozen;have HLA:Hid (∀ b o,LA=some ⟨b,o,none⟩→b≠w.heap.size):=fun b o e=>by have:=HLW.o b o e;omega
  have HLB:Hid (∀ b o,LA=some ⟨b,o,none⟩→b≠w1.heap.size):=fun b o e=>by have:=HLW.o b o e;omega
  have hr1:r≠w1.heap.size:=za;have HN:=zq (next_c r LA c L k false ok ((w3.setCell ⟨w1.heap.size,0,none⟩ (.string s1)).setCell ⟨w1.heap.size,1,none⟩ (.string s2)) ((HI3.o.farB hr1 HLB.o _ _).farB hr1 HLB.o _ _) (fun _=>hk1))
  have HX5:=zq ((HX3.o.set 0 (.string s1)).set 1 (.string s2));have HX6:=zq ((HX4.o.far (p:=⟨w1.heap.size,0,none⟩) (show w.heap.size≠w1.heap.size by omega) (.string s1)).far (p:=⟨w1.heap.size,1,none⟩) (show w.heap.size≠w1.heap.size by omega) (.string s2))
  have HG5:=zq (zDm (zDm (zAA HB3.o r) (show w.heap.size≤w1.heap.size by omega) 0 (.string s1)) (show w.heap.size≤w1.heap.size by omega) 1 (.string s2))
  go_wp2_with fail
  with_reducible refine HN.o.mono ?_
  rintro e w6 ⟨rfl,hi6,hg6⟩;rw [Bool.false_or] at hi6;have HX7:Hid (Bx w6 w1.heap.size #[.string s1,.string s2] 43):=(hg6.block _ HX5.o.lt fun e=>vy).trans HX5.o
  have HX8:Hid (Bx w6 w.heap.size #[.string ⟨#[]⟩,.string ⟨#[]⟩] 43):=(hg6.block _ HX6.o.lt fun e=>vy).trans HX6.o
  have HI6:=zq hi6;have HG6:=zq (HG5.o.trans hg6);clear hi6 hg6 HN HI3 HX3 HX4 HX5 HX6 HB3 HG5 x0 x1 hx fx;have x0:=HX7.o.c 0 rfl;have x1:=HX7.o.c 1 rfl;have hx:=HX7.o.lt;have y0:=HX8.o.c 0 rfl;have y1:=HX8.o.c 1 rfl;have hy:=HX8.o.lt;have fy:=HX8.o.frozen;go_wp2;refine dD (v:=.agg #[.string s1,.string s2]) (by simp [results,Tryz.results34,go_sem,y0,y1]) rfl ?_
  rw [Bool.false_or,←HOK.o];exact ⟨s1,s2,rfl,HS.o,(HI6.o.farB (Nat.ne_of_lt hrw) HLA.o _ _).farB (Nat.ne_of_lt hrw) HLA.o _ _,zDm (zDm HG6.o (aB _) _ _) (aB _) _ _⟩
end Go.Proofs.YtoaelidmmcbkfaaGreatDoor
namespace Dw
open Go Go.RowKit
def RdK {α:Type} (enc:α→List Value) (w:World) (A:Option Addr) (l:List α):Prop :=
 0<l.length→∃ b o:Nat,A=some ⟨b,o,none⟩∧∀ j v,(l.flatMap enc)[j]?=some v→w.cell? ⟨b,o+j,none⟩=some v
theorem flat_cells {α:Type} {enc:α→List Value} {k:Nat} (hk:∀ x,(enc x).length=k) {w:World} {b:Nat}:∀ (l:List α) (o:Nat),
  (∀ i (h:i<l.length) c v,(enc l[i])[c]?=some v→w.cell? ⟨b,o+i*k+c,none⟩=some v)→∀ j v,(l.flatMap enc)[j]?=some v→w.cell? ⟨b,o+j,none⟩=some v
 | [],_,_,j,v,h=>by simp at h
 | a::t,o,hc,j,v,h=>by
  rw [bR] at h
  by_cases hj:j<k
  ·rw [List.getElem?_append_left (by rw [hk];exact hj)] at h
   have:=hc 0 zd j v h
   simpa using this
  ·rw [List.getElem?_append_right (by rw [hk];omega),hk] at h
   have:=flat_cells hk t (o+k) (fun i hi c u hu=>by
    have h2:=hc (i+1) zg c u (by simpa using hu)
    rwa [show o+(i+1)*k+c=o+k+i*k+c by rw [aV];omega] at h2) (j - k) v h
   rwa [show o+k+(j - k)=o+j by omega] at this
theorem flat_len {α:Type} {enc:α→List Value} {k:Nat} (hk:∀ x,(enc x).length=k):∀ (l:List α),(l.flatMap enc).length=l.length*k
 | []=>zd
 | a::t=>by rw [bR,cY,hk,flat_len hk t,aQ,aV];omega
theorem flat_at {α:Type} {enc:α→List Value} {k:Nat} (hk:∀ x,(enc x).length=k):∀ (l:List α) (i:Nat) (h:i<l.length) (c:Nat),c<k→(l.flatMap enc)[i*k+c]?=(enc l[i])[c]?
 | [],i,h,_,_=>by simp at h
 | a::t,0,_,c,hc=>by
  rw [bR,List.getElem?_append_left (by rw [hk];omega)];simp
 | a::t,i+1,h,c,hc=>by
  rw [bR,List.getElem?_append_right (by rw [hk,aV];omega),hk,show (i+1)*k+c - k=i*k+c by rw [aV];omega,flat_at hk t i qj c hc]
  simp
theorem addN (b o j:Nat):(⟨b,o,none⟩:Addr).add j=⟨b,o+j,none⟩:=by unfold Addr.add;split<;>simp_all
theorem wpList_pushK {P:Program} {α:Type} {enc:α→List Value} {k:Nat} (hk:∀ x,(enc x).length=k) (hf:∀ x,∀ u∈enc x,u.oneCell'=true) {ops:Array Oper} {rest:List Oper} {o:Oper} {a:Act} {w:World} {Q:Exit→Act→World→Prop}
  {e:TypeId} {z:Value} {bytes:Nat} (s x:Operand) (t:TypeId) (hT:ElemT P t e z k bytes) (hgd:o.guard=none) (ho:o.op = .call { callee:=.builtin .append,args:=#[s,x],argTypes:=#[t,t] })
  (base:Nat) (v:Value) (l:List α) (hs:a.eval s=v) (hown:zAF enc k w base e v l)
  (A:Option Addr) (m cp:Nat) (ys:List α) (hm:m=ys.length) (hx:a.eval x = .slice A m cp) (hr:RdK enc w A ys) (hA:A≠none∨ys=[])
  (hlen:l.length+ys.length≤maxLen) (hbytes:(l.length+ys.length)*bytes≤140737488355328) (hbase:base≤w.heap.size)
  (h:∀ v' w',zAF enc k w' base e v' (l++ys)→w.grownBy w' v.ownBlock→Below base w w'→(v'.ownBlock=v.ownBlock∨v'.ownBlock=some w.heap.size)→wpList P ops Q rest (a.put o.dst v') w'):wpList P ops Q (o::rest) a w:=by
 obtain ⟨i,hi,hz0,hz1,hz2⟩:=info_parts hT.info;subst hm
 have hfin:∀ v' w',w'.ownsRow base e k v' (l.length+ys.length) (l.flatMap enc++ys.flatMap enc)→zAF enc k w' base e v' (l++ys):=fun v' w' h1=>by
  unfold zAF;rw [cY,List.flatMap_append];exact h1
 have hbel:∀ w',w.grownBy w' v.ownBlock→Below base w w':=fun w' hg=>(bS _ _).grown hg hbase fun j hj=>(bT hown j hj).1
 cases A with
 | none =>
  have hy:ys=[]:=hA.resolve_left (fun h=>h rfl)
  subst hy;refine wpList_plain hgd fun _ hK=>?_
  have hrun:(Builtin.append_ #[t,t] o.type #[v,.slice none 0 cp]).run P w = .ok v w:=by
   rcases hown.2 with ⟨rfl,_⟩ | ⟨g,cap,cur,rfl,_,_,hnc,_⟩
   ·simp [Builtin.append_,run_underlying hT.ty,Go.sizeOf,typeInfo,hi,Builtin.lenOf,Builtin.firstCells]
   ·simp [Builtin.append_,run_underlying hT.ty,Go.sizeOf,typeInfo,hi,Builtin.lenOf,Builtin.firstCells,hnc,storeCells]
  unfold Oper.wp execOp;simp only [dM] at hx;simp only [ho,resolve,invoke,builtin,Sem.run_bind,Sem.run_pure,Result.andThen_ok,List.map_toArray,dJ,List.map_nil,hs,hx,hrun];exact hK _ _ (h v w (by simpa using hown) (World.grownBy.refl w _) (hbel w (World.grownBy.refl w _)) (.inl rfl))
 | some ad =>
  refine wpList_append_own_at _ hgd s x t ho base e i z k bytes hT.ty hi hz0 hz1 hz2 hT.zs hT.pos v l.length _ hs hown ad ys.length cp (ys.flatMap enc) hx (flat_len hk ys) ?_ ?_ hlen hbytes hbase ?_
  ·intro j u hj
   have hjl:0<ys.length:=by
    refine Nat.pos_of_ne_zero fun e=>?_
    rw [cZ e] at hj;simp at hj
   obtain ⟨b,o,h1,hc⟩:=hr hjl
   injection h1 with h1
   subst h1;rw [addN];exact hc j u hj
  ·intro u hu
   obtain ⟨y,_,hy⟩:=List.mem_flatMap.1 hu;exact hf y u hy
  ·intro v' w' h1 h2 _ h4
   exact h v' w' (hfin v' w' h1) h2 (hbel w' h2) h4
theorem zAF.rdk {α:Type} {enc:α→List Value} {k:Nat} {w:World} {base:Nat} {e:TypeId} {v:Value} {l:List α} (h:zAF enc k w base e v l):∃ A c,v = .slice A l.length c∧RdK enc w A l:=by
 rcases h.2 with ⟨rfl,hn⟩ | ⟨g,cap,cur,rfl,hb,hgg,hnc,_,hsz,htake⟩
 ·exact ⟨none,0,by rw [hn],fun hl=>za⟩
 ·refine ⟨_,_,rfl,fun _=>⟨g,0,rfl,fun j v hv=>?_⟩⟩
  rw [←htake,List.getElem?_take] at hv
  split at hv
  ·rw [bJ,bQ w g j _ _ _ hgg]
   simpa using hv
  ·cases hv
section
variable {w:World} {A:Option Addr}
theorem RdK.of1 {α:Type} {f:α→Value} {l:List α} (h:Rd1 f w A l):RdK (fun x=>[f x]) w A l:=fun hl=>by
 obtain ⟨b,o,rfl,hc⟩:=h hl;refine ⟨b,o,rfl,flat_cells (k:=1) (fun _=>rfl) l o fun i hi c v hv=>?_⟩
 match c,hv with
 | 0,hv=>simp at hv;subst hv;rw [bP,cO];exact hc i hi
end
end Dw
namespace Go.Proofs.YtoaelidmmcbkfaaGreatDoor
open Go.RowKit Dw
abbrev eAr:Ar→List Value:=fun x=>[.string x.rg,.bool x.out]
abbrev eSt:BA→List Value:=fun x=>[.string x]
abbrev eShr:Sh→List Value:=fun x=>[.string x.pt,.string x.nu,.string x.de]
theorem elShr:ElemT Tryz.prog 45 110 (.agg #[.string ⟨#[]⟩,.string ⟨#[]⟩,.string ⟨#[]⟩]) 3 48:=⟨Tryz.underlying45,zb,rfl,zc⟩
theorem oneShr (x:Sh):∀ u∈eShr x,u.oneCell'=true:=zu
theorem own_shr {w:World} {b:Nat} {v:Value} {l:List Sh} (h:zAF eShr 3 w b 110 v l):∃ A c,v = .slice A l.length c∧Shs w A l∧(∀ g o,A=some ⟨g,o,none⟩→b≤g):=by
 obtain ⟨A,c,e,hr⟩:=h.rdk;refine ⟨A,c,e,fun hl=>?_,fun g o hA=>(bT h g (by rw [e,hA];rfl)).1⟩
 obtain ⟨b,o,e2,hc⟩:=hr hl;refine ⟨b,o,e2,fun i hi=>?_⟩
 have key:=flat_at (k:=3) (enc:=eShr) (fun _=>rfl) l i hi
 refine ⟨?_,?_,?_⟩
 ·have:=hc (i*3+0) _ (key 0 za)
  exact this
 ·have:=hc (i*3+1) _ (key 1 za)
  rw [←bZ] at this;exact this
 ·have:=hc (i*3+2) _ (key 2 za)
  rw [←bZ] at this;exact this
abbrev arSl (d:De):Value:=.slice d.arA d.ar.length d.arc
abbrev usSl (d:De):Value:=.slice d.usA d.us.length d.usc
structure DeI (w:World) (q:Nat) (d:De):Prop where
 bx:Bx w q (deC d) 47
 ars:zAF eAr 2 w (q+1) 65 (arSl d) d.ar
 uss:zAF eSt 1 w (q+1) 9 (usSl d) d.us
 far:(arSl d).ownBlock=none∨(arSl d).ownBlock≠(usSl d).ownBlock
 shs:Shs w d.shA d.sh
 shq:∀ b o,d.shA=some ⟨b,o,none⟩→q<b
section
variable {w w':World} {q r:Nat} {d:De}
theorem zAR {α:Type} {enc:α→List Value} {k b e:Nat} {v:Value} {l:List α} (h:zAF enc k w b e v l) {n:Nat} (hn:n<b):v.ownBlock=none∨v.ownBlock≠some n:=.inr fun e=>absurd (bT h _ e).1 za
theorem Shs.grown {A:Option Addr} {l:List Sh} (h:Shs w A l) (hg:w.grownBy w' (some r)) (hne:∀ b o,A=some ⟨b,o,none⟩→b≠r):Shs w' A l:=fun h0=>by
 obtain ⟨b,o,hA,hc⟩:=h h0;refine ⟨b,o,hA,fun i hi=>?_⟩
 have hk:∀ j v,w.cell? ⟨b,j,none⟩=some v→w'.cell? ⟨b,j,none⟩=some v:=fun j v hv=>hg.cell hv fun e=>hne b o hA xd
 exact ⟨hk _ _ (hc i hi).1,hk _ _ (hc i hi).2.1,hk _ _ (hc i hi).2.2⟩
theorem DeI.grown (h:DeI w q d) (hg:w.grownBy w' (some r)) (hr:r<q):DeI w' q d :=
 ⟨(hg.block q h.bx.lt fun e=>absurd (dR e) za).trans h.bx,h.ars.grown hg (zAR h.ars za),h.uss.grown hg (zAR h.uss za),h.far,h.shs.grown hg fun b o e=>by have:=h.shq b o e;omega,h.shq⟩
theorem DeI.below (h:DeI w q d) (hb:Below w.heap.size w w'):DeI w' q d :=
 ⟨h.bx.below hb,h.ars.below hb,h.uss.below hb,h.far,h.shs.below hb,h.shq⟩
theorem DeI.set {d':De} (h:DeI w q d) (i:Nat) (v:Value) (hc:(deC d).setIfInBounds i v=deC d') (e1:arSl d'=arSl d∧d'.ar=d.ar) (e2:usSl d'=usSl d∧d'.us=d.us) (hs:Shs w d'.shA d'.sh) (hq:∀ b o,d'.shA=some ⟨b,o,none⟩→q<b):DeI (w.setCell ⟨q,i,none⟩ v) q d':=by
 have hg:=zAn w ⟨q,i,none⟩ v;refine ⟨?_,?_,?_,?_,hs.grown hg fun b o e=>by have:=hq b o e;show b≠q;omega,hq⟩
 ·rw [←hc];exact h.bx.set i v
 ·rw [e1.1,e1.2];exact h.ars.grown hg (zAR h.ars (by show q<q+1;omega))
 ·rw [e2.1,e2.2];exact h.uss.grown hg (zAR h.uss (by show q<q+1;omega))
 ·rw [e1.1,e2.1];exact h.far
end
structure Takes (w w':World) (q:Nat) (ob ob':Option Nat):Prop where
 os:w'.os=w.os
 tape:w'.tape=w.tape
 output:w'.output=w.output
 size:w.heap.size≤w'.heap.size
 block:∀ i,i<w.heap.size→i≠q→ob≠some i→w'.heap[i]?=w.heap[i]?
 own:ob'=ob∨∃ n,ob'=some n∧w.heap.size≤n
section
variable {w w':World} {q:Nat} {d:De}
theorem set_takes {w0:World} {o:Obj} {ob ob':Option Nat} (hw:w=w0.alloc o) (_hq:q<w0.heap.size) (hg:w.grownBy w' ob) (hor:ob'=ob∨ob'=some w.heap.size) (i:Nat) (u:Value):Takes w0 (w'.setCell ⟨q,i,none⟩ u) q ob ob':=by
 subst hw;have g2:=zAn w' ⟨q,i,none⟩ u;have hs:(w0.alloc o).heap.size=w0.heap.size+1:=zd;refine ⟨(g2.os.trans hg.os),g2.tape.trans hg.tape,g2.output.trans hg.output,cV (cV za hg.size) g2.size,fun j hj h1 h2=>?_,?_⟩
 ·exact (g2.block j (cX za hg.size) fun e=>h1 jp).trans ((hg.block j za fun e=>h2 e.symm).trans (dF w0 o j hj))
 ·exact hor.imp_right fun e=>⟨_,e,za⟩
theorem own_or {α β:Type} {e1:α→List Value} {k1 b1 t1:Nat} {e2:β→List Value} {k2 b2 t2:Nat} {v1 v2:Value} {l1:List α} {l2:List β} {w2:World} {ob':Option Nat} (_h1:zAF e1 k1 w b1 t1 v1 l1) (h2:zAF e2 k2 w b2 t2 v2 l2)
  (hne:v1.ownBlock=none∨v1.ownBlock≠v2.ownBlock) (hs:w.heap.size≤w2.heap.size) (hor:ob'=v1.ownBlock∨ob'=some w2.heap.size):(v2.ownBlock=none∨v2.ownBlock≠v1.ownBlock)∧(ob'=none∨ob'≠v2.ownBlock)∧(v2.ownBlock=none∨v2.ownBlock≠ob'):=by
 have hlt:=bT h2
 have key:v2.ownBlock=none∨v2.ownBlock≠v1.ownBlock:=by
  rcases hne with h | h
  ·cases hv:v2.ownBlock with
   | none=>exact .inl rfl
   | some _=>exact .inr xi
  ·exact .inr (Ne.symm h)
 have key2:v2.ownBlock=none∨v2.ownBlock≠ob':=by
  rcases hor with h | h
  ·rw [h];exact key
  ·exact .inr fun e=>by have:=(hlt _ (e.trans h)).2;omega
 refine ⟨key,?_,key2⟩
 rcases hor with h | h
 ·rw [h];exact hne
 ·exact .inr fun e=>by have:=(hlt _ (e.symm.trans h)).2;omega
theorem takeAr_ok {o:Obj} {w':World} {A':Option Addr} {c':Nat} {l:List Ar} (h:DeI w q d) (h1:d.shA=none) (h2:d.sh=[]) (hown:zAF eAr 2 w' (q+1) 65 (.slice A' l.length c') l)
  (hg:(w.alloc o).grownBy w' (arSl d).ownBlock) (hor:(Value.slice A' l.length c').ownBlock=(arSl d).ownBlock∨(Value.slice A' l.length c').ownBlock=some (w.alloc o).heap.size) :
  DeI (w'.setCell ⟨q,10,none⟩ (.slice A' l.length c')) q { d with arA:=A',ar:=l,arc:=c' }∧Takes w (w'.setCell ⟨q,10,none⟩ (.slice A' l.length c')) q (arSl d).ownBlock (Value.slice A' l.length c').ownBlock∧q<w'.heap.size∧(∀ i,w'.frozen? ⟨q,i,none⟩=false)∧w'.cell? ⟨q,10,none⟩=some (arSl d):=by
 have hs:(w.alloc o).heap.size=w.heap.size+1:=zd;have hq:=h.bx.lt;have hx:Bx w' q (deC d) 47:=(hg.block q za fun e=>absurd (bT h.ars _ e.symm).1 za).trans (h.bx.alloc o)
 have gs:=zAn w' ⟨q,10,none⟩ (.slice A' l.length c');obtain ⟨k1,k2,k3⟩:=own_or h.ars h.uss h.far (by omega:w.heap.size≤(w.alloc o).heap.size) hor
 refine ⟨⟨hx.set 10 _,hown.grown gs (zAR hown (by show q<q+1;omega)),?_,k2,?_,?_⟩,set_takes rfl hq hg hor _ _,hx.lt,hx.frozen,hx.c 10 rfl⟩
 ·have hu:=(h.uss.alloc o).grown hg k1
  exact hu.grown gs (zAR hu (by show q<q+1;omega))
 ·show Shs _ d.shA d.sh
  rw [h2];intro h0;exact absurd h0 zd
 ·intro b o e
  rw [show d.shA=some ⟨b,o,none⟩ from e] at h1
  cases h1
theorem takeUs_ok {o:Obj} {w':World} {A':Option Addr} {c':Nat} {l:List BA} (h:DeI w q d) (h1:d.shA=none) (h2:d.sh=[]) (hown:zAF eSt 1 w' (q+1) 9 (.slice A' l.length c') l)
  (hg:(w.alloc o).grownBy w' (usSl d).ownBlock) (hor:(Value.slice A' l.length c').ownBlock=(usSl d).ownBlock∨(Value.slice A' l.length c').ownBlock=some (w.alloc o).heap.size) :
  DeI (w'.setCell ⟨q,11,none⟩ (.slice A' l.length c')) q { d with usA:=A',us:=l,usc:=c' }∧Takes w (w'.setCell ⟨q,11,none⟩ (.slice A' l.length c')) q (usSl d).ownBlock (Value.slice A' l.length c').ownBlock∧q<w'.heap.size∧(∀ i,w'.frozen? ⟨q,i,none⟩=false)∧w'.cell? ⟨q,11,none⟩=some (usSl d):=by
 have hs:(w.alloc o).heap.size=w.heap.size+1:=zd;have hq:=h.bx.lt;have hx:Bx w' q (deC d) 47:=(hg.block q za fun e=>absurd (bT h.uss _ e.symm).1 za).trans (h.bx.alloc o)
 have gs:=zAn w' ⟨q,11,none⟩ (.slice A' l.length c')
 have hf:(usSl d).ownBlock=none∨(usSl d).ownBlock≠(arSl d).ownBlock:=by
  rcases h.far with e | e
  ·cases hv:(usSl d).ownBlock with
   | none=>exact .inl rfl
   | some _=>exact .inr xj
  ·exact .inr (Ne.symm e)
 obtain ⟨k1,k2,k3⟩:=own_or h.uss h.ars hf (by omega:w.heap.size≤(w.alloc o).heap.size) hor
 refine ⟨⟨hx.set 11 _,?_,hown.grown gs (zAR hown (by show q<q+1;omega)),k3,?_,?_⟩,set_takes rfl hq hg hor _ _,hx.lt,hx.frozen,hx.c 11 rfl⟩
 ·have hu:=(h.ars.alloc o).grown hg k1
  exact hu.grown gs (zAR hu (by show q<q+1;omega))
 ·show Shs _ d.shA d.sh
  rw [h2];intro h0;exact absurd h0 zd
 ·intro b o e
  rw [show d.shA=some ⟨b,o,none⟩ from e] at h1
  cases h1
end
theorem takeAr_c (q:Nat) (d:De) (s n:BA) (w:World) (h:DeI w q d) (hs:s=ofL kIn∨s=ofL zDE) (h1:d.shA=none) (h2:d.sh=[]) (hl:d.ar.length≤600000) :
  Calls Tryz.prog 37 #[.string s,.string n,.pointer (some ⟨q,0,none⟩)] w fun e w'=>e = .returned (.tuple #[]) ∧
   ∃ A' c',DeI w' q { d with arA:=A',ar:=d.ar++[⟨n,decide (s=ofL zDE)⟩],arc:=c' }∧Takes w w' q (arSl d).ownBlock (Value.slice A' (d.ar.length+1) c').ownBlock:=by
 have HD:=zq h;obtain ⟨b,hb⟩:∃ b,b=decide (s=ofL zDE):=⟨_,rfl⟩;rw [←hb]
 have e1:(s.toList == [111,117,116])=b:=by
  rw [hb]
  rcases hs with rfl | rfl
  ·exact (lit_ne zc).trans (cQ zc).symm
  ·exact (lit_eq rfl).trans (cP rfl).symm
 obtain ⟨v,hv⟩:∃ v,v=arSl d:=⟨_,rfl⟩;have x10:w.cell? ⟨q,10,none⟩=some v:=by rw [hv];exact h.bx.c 10 rfl
 have HO:Hid (zAF eAr 2 w (q+1) 65 v d.ar):=by rw [hv];exact h.ars
 rw [←hv];have HV:=zq hv;have hq:=h.bx.lt;have hf:=h.bx.frozen;clear h hb hv
 go_enter Tryz.func37,Tryz.ntmps37
 have HKP:Hid (∀ A' c' w',zAF eAr 2 w' (q+1) 65 (.slice A' (d.ar.length+1) c') (d.ar++[⟨n,b⟩])→(w.alloc (.cells #[.string n,.bool b] 65)).grownBy w' v.ownBlock →
   ((Value.slice A' (d.ar.length+1) c').ownBlock=v.ownBlock∨(Value.slice A' (d.ar.length+1) c').ownBlock=some (w.alloc (.cells #[.string n,.bool b] 65)).heap.size) →
   DeI (w'.setCell ⟨q,10,none⟩ (.slice A' (d.ar.length+1) c')) q { d with arA:=A',ar:=d.ar++[⟨n,b⟩],arc:=c' }∧Takes w (w'.setCell ⟨q,10,none⟩ (.slice A' (d.ar.length+1) c')) q v.ownBlock (Value.slice A' (d.ar.length+1) c').ownBlock∧q<w'.heap.size∧(∀ i,w'.frozen? ⟨q,i,none⟩=false)∧w'.cell? ⟨q,10,none⟩=some v):=fun A' c' w' hown hg hor=>by
  have hL:d.ar.length+1=(d.ar++[(⟨n,b⟩:Ar)]).length:=zd;rw [hL] at hown hor ⊢;rw [HV.o] at hg hor ⊢;exact takeAr_ok HD.o h1 h2 hown hg hor
 go_wp2_with (at_builtin;refine zAp _ _ _ elAr rfl rfl (q+1) v d.ar rfl (HO.o.alloc _) w.heap.size 1 (⟨n,b⟩:Ar) rfl (cI _ _) rfl zu zt za zg ?_;intro A1 c1 w4 hown4 hg4 hb4 hor4;obtain ⟨k1,k2,k3,k4,k5⟩:=HKP.o _ _ _ hown4 hg4 hor4;have K1:=zq k1;have K2:=zq k2;clear hown4 hg4 hb4 hor4 k1 k2)
 go_end0
 exact ⟨rfl,_,_,K1.out,K2.out⟩
theorem takeUs_c (q:Nat) (d:De) (s n:BA) (w:World) (h:DeI w q d) (h1:d.shA=none) (h2:d.sh=[]) (hl:d.us.length≤600000) :
  Calls Tryz.prog 38 #[.string s,.string n,.pointer (some ⟨q,0,none⟩)] w fun e w'=>e = .returned (.tuple #[]) ∧
   ∃ A' c',DeI w' q { d with usA:=A',us:=d.us++[n],usc:=c' }∧Takes w w' q (usSl d).ownBlock (Value.slice A' (d.us.length+1) c').ownBlock:=by
 have HD:=zq h;obtain ⟨v,hv⟩:∃ v,v=usSl d:=⟨_,rfl⟩;have x11:w.cell? ⟨q,11,none⟩=some v:=by rw [hv];exact h.bx.c 11 rfl
 have HO:Hid (zAF eSt 1 w (q+1) 9 v d.us):=by rw [hv];exact h.uss
 rw [←hv];have HV:=zq hv;have hq:=h.bx.lt;have hf:=h.bx.frozen;clear h hv
 go_enter Tryz.func38,Tryz.ntmps38
 have HKP:Hid (∀ A' c' w',zAF eSt 1 w' (q+1) 9 (.slice A' (d.us.length+1) c') (d.us++[n])→(w.alloc (.cells #[.string n] 9)).grownBy w' v.ownBlock →
   ((Value.slice A' (d.us.length+1) c').ownBlock=v.ownBlock∨(Value.slice A' (d.us.length+1) c').ownBlock=some (w.alloc (.cells #[.string n] 9)).heap.size) →
   DeI (w'.setCell ⟨q,11,none⟩ (.slice A' (d.us.length+1) c')) q { d with usA:=A',us:=d.us++[n],usc:=c' }∧Takes w (w'.setCell ⟨q,11,none⟩ (.slice A' (d.us.length+1) c')) q v.ownBlock (Value.slice A' (d.us.length+1) c').ownBlock∧q<w'.heap.size∧(∀ i,w'.frozen? ⟨q,i,none⟩=false)∧w'.cell? ⟨q,11,none⟩=some v):=fun A' c' w' hown hg hor=>by
  have hL:d.us.length+1=(d.us++[(n:BA)]).length:=zd;rw [hL] at hown hor ⊢;rw [HV.o] at hg hor ⊢;exact takeUs_ok HD.o h1 h2 hown hg hor
 go_wp2_with (at_builtin;refine zAp _ _ _ elStr rfl rfl (q+1) v d.us rfl (HO.o.alloc _) w.heap.size 1 (n:BA) rfl (cI _ _) rfl zu zt za zg ?_;intro A1 c1 w4 hown4 hg4 hb4 hor4;obtain ⟨k1,k2,k3,k4,k5⟩:=HKP.o _ _ _ hown4 hg4 hor4;have K1:=zq k1;have K2:=zq k2;clear hown4 hg4 hb4 hor4 k1 k2)
 go_end0
 exact ⟨rfl,_,_,K1.out,K2.out⟩
end Go.Proofs.YtoaelidmmcbkfaaGreatDoor
