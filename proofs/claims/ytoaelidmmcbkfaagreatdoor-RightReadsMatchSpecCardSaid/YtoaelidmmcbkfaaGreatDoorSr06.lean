/- Parts of the proof, joined: A title as text, plainly; how long its parts are. Lines and zAe of a. -/
import Derived.Test.YtoaelidmmcbkfaaGreatDoorSr05
import Derived.Lib.SplitLaws
import Derived.Lib.IndexBytes
import Derived.Shelf.Strconv.Atoi
import Derived.Shelf.Strings.Split
import Derived.Shelf.Strings.Cut
import Derived.Shelf.Strings.Prefix
set_option maxRecDepth 100000
set_option maxHeartbeats 8000000
namespace Go.Proofs.YtoaelidmmcbkfaaGreatDoor
open Dw
def kdS (k:Int):BA :=
 if k=1 then ⟨#[111,114,105,103,105,110]⟩ else if k=2 then ⟨#[97,115,115,105,103,110]⟩ else if k=3 then ⟨#[108,105,99,101,110,99,101]⟩
 else if k=4 then ⟨#[101,110,100]⟩ else ⟨#[112,97,115,115]⟩
abbrev Ln:=List UInt8
def spl (c:UInt8):Ln→List Ln
 | []=>[[]]
 | b::l=>if b=c then []::spl c l else match spl c l with
  | []=>[[b]]
  | h::t=>(b::h)::t
def joi (c:UInt8):List Ln→Ln
 | []=>[]
 | [a]=>a
 | a::b::l=>a++c::joi c (b::l)
section
variable {c:UInt8} {l a:Ln}
theorem spl_ne:∀ l:Ln,spl c l≠[]
 | []=>by simp [spl]
 | b::l=>by
  unfold spl
  split
  ·simp
  ·split<;>simp
theorem joi_cons {t:List Ln} (h:t≠[]):joi c (a::t)=a++c::joi c t:=by
 cases t with
 | nil=>exact absurd rfl h
 | cons b t=>rfl
theorem joi_spl:∀ l:Ln,joi c (spl c l)=l
 | []=>rfl
 | b::l=>by
  have ih:=joi_spl l;unfold spl
  by_cases h:b=c
  ·rw [aE h,joi_cons (spl_ne l),ih,h];rfl
  ·rw [aC h]
   cases hs:spl c l with
   | nil=>exact absurd hs (spl_ne l)
   | cons x t =>
    rw [hs] at ih
    cases t with
    | nil=>exact aY (b::·) ih
    | cons y t=>exact aY (b::·) ih
theorem spl_one:∀ {a:Ln},c∉a→spl c a=[a]
 | [],_=>rfl
 | b::a,h=>by
  have hb:b≠c:=fun e=>h (by rw [e];exact aO)
  have ih:=spl_one (a:=a) fun hm=>h (List.mem_cons_of_mem _ hm)
  unfold spl;rw [aC hb,ih]
theorem spl_app:∀ {a:Ln} (l:Ln),c∉a→spl c (a++c::l)=a::spl c l
 | [],l,_=>by
  show spl c (c::l)=_
  rw [spl,aE rfl]
 | b::a,l,h=>by
  have hb:b≠c:=fun e=>h (by rw [e];exact aO)
  have ih:=spl_app (a:=a) l fun hm=>h (List.mem_cons_of_mem _ hm)
  show spl c (b::(a++c::l))=_
  rw [spl,aC hb,ih]
end
def wdF (pre first:Ln) (many:Nat):List Ln→Option (List Ln)
 | []=>none
 | l::_=>if pre.isPrefixOf l=true∧(spl 32 (l.drop pre.length)).head?=some first∧(spl 32 (l.drop pre.length)).length=many then some (spl 32 (l.drop pre.length)) else none
section
variable {pre first:Ln} {many:Nat} {L:List Ln} {w:List Ln}
theorem wdF_cons (l:Ln) (r:List Ln):wdF pre first many (l::r)=if pre.isPrefixOf l=true∧(spl 32 (l.drop pre.length)).head?=some first∧(spl 32 (l.drop pre.length)).length=many then some (spl 32 (l.drop pre.length)) else none:=rfl
theorem wdF_some (h:wdF pre first many L=some w):∃ l r,L=l::r∧l=pre++joi 32 w∧w.head?=some first∧w.length=many:=by
 cases L with
 | nil=>cases h
 | cons l r =>
  rw [wdF_cons] at h
  split at h
  ·next hc =>
   injection h with h
   subst h;refine ⟨l,r,rfl,?_,hc.2.1,hc.2.2⟩
   rw [joi_spl];obtain ⟨t,ht⟩:=List.isPrefixOf_iff_prefix.1 hc.1;rw [←ht,List.drop_left]
  ·cases h
end
def digB (n:Nat):BA:=⟨(Lib.decDigits n).toArray⟩
theorem digB_list (n:Nat):(digB n).data.toList=Lib.decDigits n:=by simp [digB]
theorem dg_back {c:UInt8} (h:dgB c=true):UInt8.ofNat (48+(c.toNat - 48))=c:=by
 have:=(dgB_iff c).1 h
 apply UInt8.toNat_inj.1
 rw [UInt8.toNat_ofNat'];have:=c.toNat_lt;omega
theorem decV_pos {l:List UInt8} (h:l.all dgB=true) (hne:l≠[]) (hh:(l.headD 0).toNat≠48):0<zBQ l:=by
 cases l with
 | nil=>exact absurd rfl hne
 | cons a t =>
  rw [List.all_cons,dA] at h;have h1:=(dgB_iff a).1 h.1;have e:=zEi [a] t;rw [dI] at e;have e2:zBQ [a]=a.toNat - 48:=by show 10*0+(a.toNat - 48)=_;omega
  rw [e,e2];simp only [List.headD_cons] at hh;have:0<(a.toNat - 48)*10 ^ t.length:=Nat.mul_pos za (Nat.pow_pos zc);omega
theorem dig_uniq:∀ (n:Nat) (l:List UInt8),l.length=n→l.all dgB=true→l≠[]→(l.length=1∨(l.headD 0).toNat≠48)→l=Lib.decDigits (zBQ l)
 | 0,l,hn,_,hne,_=>absurd (List.length_eq_zero_iff.1 hn) hne
 | n+1,l,hn,hall,hne,hh=>by
  obtain ⟨m,c,rfl⟩:∃ m c,l=m++[c]:=⟨l.dropLast,l.getLast hne,(List.dropLast_concat_getLast hne).symm⟩;rw [List.all_append,dA] at hall;have hc:dgB c=true:=by simpa using hall.2
  have hc2:=(dgB_iff c).1 hc;rw [decV_snoc]
  cases m with
  | nil =>
   have e:zBQ []=0:=rfl;rw [e,Lib.decDigits,dif_pos za];have:10*0+(c.toNat - 48)=c.toNat - 48:=za;rw [this,dg_back hc]
   rfl
  | cons a t =>
   have hhd:((a::t).headD 0).toNat≠48:=by
    rcases hh with h | h
    ·simp at h
    ·simpa using h
   have ih:=dig_uniq n (a::t) (by simpa using hn) hall.1 zd (.inr hhd)
   have hp:=decV_pos hall.1 zd hhd;rw [Lib.decDigits,dif_neg za];have e1:(10*zBQ (a::t)+(c.toNat - 48)) / 10=zBQ (a::t):=za;have e2:(10*zBQ (a::t)+(c.toNat - 48)) % 10=c.toNat - 48:=za;rw [e1,e2,dg_back hc,←ih]
def ofL (l:Ln):BA:=⟨l.toArray⟩
theorem zAj (l:Ln):(ofL l).data.toList=l:=by simp [ofL]
theorem zDJ (s:BA):ofL s.data.toList=s:=by unfold ofL;cases s;simp
abbrev sp2:Ln:=[32,32]
abbrev zBq:Ln:=[116,104,105,110,103]
abbrev zCa:Ln:=[102,114,111,109]
abbrev kTo:Ln:=[116,111]
abbrev zDU:Ln:=[112,97,114,116]
abbrev zDu:Ln:=[101,120,99,108,117,115,105,118,101]
abbrev kSub:Ln:=[115,117,98]
abbrev kIn:Ln:=[105,110]
abbrev zDE:Ln:=[111,117,116]
abbrev zDn:Ln:=[102,111,114]
abbrev zAM:Ln:=[98,101,103,105,110]
abbrev kEnd:Ln:=[101,110,100]
abbrev zCh:Ln:=[115,104,97,114,101]
abbrev zEm:Ln:=[101,110,100,115]
abbrev zCC:Ln:=[100,101,101,100]
abbrev zBw:Ln:=[114,101,103,105,111,110]
abbrev zCr:Ln:=[117,115,101]
def rowL (s:Ln):Bool:=decide (s≠[])&&(decide (s≠[45])&&s.all okB)
def zDv (s:Ln):Option Nat:=if s≠[]∧s.all dgB=true∧s.length≤9∧(s.length=1∨(s.headD 0).toNat≠48) then some (zBQ s) else none
def zCv (s:Ln):Bool:=decide (s≠[])&&s.all dgB
def zEn (s:Ln):Ln:=if s.head?=some 45 then s.tail else s
def zDP (s:Ln):Option (Ln×Ln):=match s.dropWhile (fun c=>decide (c≠47)) with
 | []=>none
 | _::d=>if zCv (zEn (s.takeWhile fun c=>decide (c≠47)))&&zCv d then some (s.takeWhile (fun c=>decide (c≠47)),d) else none
theorem itoa_dig (l:Nat):itoaB (l:Int)=digB l:=by
 unfold itoaB Lib.itoa digB;rw [aC za]
 rfl
theorem numS_itoa {s:Ln} {n:Nat} (h:zDv s=some n):(itoaB (n:Int)).data.toList=s:=by
 unfold zDv at h
 split at h
 ·next hc =>
  injection h with h
  rw [itoa_dig,digB_list,←h];exact (dig_uniq _ s rfl hc.2.1 hc.1 hc.2.2.2).symm
 ·cases h
theorem ratX_app {s n d:Ln} (h:zDP s=some (n,d)):s=n++47::d:=by
 unfold zDP at h
 cases hd:s.dropWhile (fun c=>decide (c≠47)) with
 | nil=>rw [hd] at h;cases h
 | cons c t =>
  rw [hd] at h;simp only at h
  split at h
  ·injection h with h
   injection h with h1 h2
   have hc:c=47:=by
    have:=List.head?_dropWhile_not (fun c:UInt8=>decide (c≠47)) s
    rw [hd] at this
    simpa using this
   have:=List.takeWhile_append_dropWhile (p:=fun c:UInt8=>decide (c≠47)) (l:=s)
   rw [hd,h1,h2,hc] at this;exact this.symm
  ·cases h
abbrev Rdr (α:Type):=Except (List Ln) (α×List Ln)
def zDc (first:Ln) (L:List Ln):Rdr BA:=match wdF sp2 first 2 L with
 | some [_,n]=>if rowL n=true then .ok (ofL n,L.tail) else .error L
 | _=>.error L
def numX (first:Ln) (L:List Ln):Rdr Int:=match wdF sp2 first 2 L with
 | some [_,s]=>match zDv s with
  | some n=>.ok ((n:Int),L.tail)
  | none=>.error L
 | _=>.error L
def partX (L:List Ln):Rdr (BA×BA):=match wdF sp2 zDU 2 L with
 | some [_,s]=>match zDP s with
  | some (n,d)=>.ok ((ofL n,ofL d),L.tail)
  | none=>.error L
 | _=>.error L
def zCA (first:Ln) (L:List Ln):Bool×List Ln:=match wdF sp2 first 1 L with
 | some _=>(true,L.tail)
 | none=>(false,L)
def zBf:List Ln→List Ar×List Ln
 | []=>([],[])
 | l::r=>match wdF sp2 kIn 2 (l::r) with
  | some [_,n]=>if rowL n=true then (⟨ofL n,false⟩::(zBf r).1,(zBf r).2) else ([],l::r)
  | _=>match wdF sp2 zDE 2 (l::r) with
   | some [_,n]=>if rowL n=true then (⟨ofL n,true⟩::(zBf r).1,(zBf r).2) else ([],l::r)
   | _=>([],l::r)
def zAQ (pre first:Ln):List Ln→List BA×List Ln
 | []=>([],[])
 | l::r=>match wdF pre first 2 (l::r) with
  | some [_,n]=>if rowL n=true then (ofL n::(zAQ pre first r).1,(zAQ pre first r).2) else ([],l::r)
  | _=>([],l::r)
def zAW:List Ln→List Sh×List Ln
 | []=>([],[])
 | l::r=>match wdF sp2 zCh 3 (l::r) with
  | some [_,p,s]=>if rowL p=true then match zDP s with
   | some (n,d)=>(⟨ofL p,ofL n,ofL d⟩::(zAW r).1,(zAW r).2)
   | none=>([],l::r) else ([],l::r)
  | _=>([],l::r)
def zAT:List Ln→List Rg×List Ln
 | []=>([],[])
 | l::r=>match wdF [] zBw 3 (l::r) with
  | some [_,n,p]=>if rowL n=true∧(rowL p=true∨p=[45]) then (⟨ofL n,if p=[45] then emp else ofL p⟩::(zAT r).1,(zAT r).2) else ([],l::r)
  | _=>([],l::r)
def kdX (s:Ln):Int:=if s=[111,114,105,103,105,110] then 1 else if s=[97,115,115,105,103,110] then 2 else if s=[108,105,99,101,110,99,101] then 3 else if s=kEnd then 4 else if s=[112,97,115,115] then 5 else 0
def optX {α:Type} (b:Bool) (d:α) (f:List Ln→Rdr α) (L:List Ln):Rdr α:=if b=true then f L else .ok (d,L)
def zBo {α:Type} (b:Bool) (d:α) (f:List Ln→α×List Ln) (L:List Ln):α×List Ln:=if b=true then f L else (d,L)
def bodyX (id:BA) (day k:Int) (L:List Ln):Except (List Ln) (De×List Ln):=do
 let (th,L)←optX (zAf k || decide (k=1)) emp (zDc zBq) L
 let (fr,L)←optX (zAf k || decide (k=5)) emp (zDc zCa) L
 let (to2,L)←optX (zAf k) emp (zDc kTo) L
 let (pt,L)←optX (decide (k=2)) (emp,emp) partX L
 let (ex,L):=zBo (decide (k=3)) false (zCA zDu) L
 let (sb,L):=zBo (decide (k=3)) false (zCA kSub) L
 let (ar,L):=zBo (zAf k) [] zBf L
 let (us,L):=zBo (zAf k) [] (zAQ sp2 zDn) L
 let (bg,L)←numX zAM L
 let (en,L)←optX (zAf k) 0 (numX kEnd) L
 let (sh,L):=zBo (divB k) [] zAW L
 let (ot,L)←optX (decide (k=4)) emp (zDc zEm) L
 .ok (⟨id,day,k,th,fr,to2,pt.1,pt.2,ex,sb,none,ar,0,none,us,0,bg,en,none,sh,0,ot⟩,L)
def zAG (L:List Ln):Rdr De:=match wdF [] zCC 4 L with
 | some [_,i,dy,kw]=>match zDv dy with
  | some n=>if rowL i=true∧0<kdX kw then bodyX (ofL i) n (kdX kw) L.tail else .error L
  | none=>.error L
 | _=>.error L
def zDg:Nat→List Ln→Except (List Ln) (List De)
 | 0,_=>.ok []
 | f+1,L=>if L=[] then .ok [] else match zAG L with
  | .error e=>.error e
  | .ok (d,R)=>match zDg f R with
   | .error e=>.error e
   | .ok l=>.ok (d::l)
def zEp (t:Ln):(List Rg×List BA×List De)×Int×Int :=
 if 500000<t.length then (([],[],[]),0,2) else
 match zDg (zAQ [] zCr (zAT (spl 10 t).dropLast).2).2.length (zAQ [] zCr (zAT (spl 10 t).dropLast).2).2 with
 | .error e=>(([],[],[]),((spl 10 t).dropLast.length - e.length:Nat)+1,10)
 | .ok ds=>if (spl 10 t).getLast?≠some [] then (([],[],[]),((spl 10 t).dropLast.length:Int)+1,10)
  else if chkT (zAT (spl 10 t).dropLast).1 (zAQ [] zCr (zAT (spl 10 t).dropLast).2).1 ds≠0 then (([],[],[]),0,chkT (zAT (spl 10 t).dropLast).1 (zAQ [] zCr (zAT (spl 10 t).dropLast).2).1 ds)
  else (((zAT (spl 10 t).dropLast).1,(zAQ [] zCr (zAT (spl 10 t).dropLast).2).1,ds),0,0)
abbrev lnW (ws:List Ln):Ln:=sp2++joi 32 ws
def optL (b:Bool) (L:List Ln):List Ln:=if b=true then L else []
def arW (a:Ar):Ln:=lnW [if a.out=true then zDE else kIn,a.rg.data.toList]
def usW (u:BA):Ln:=lnW [zDn,u.data.toList]
def shW (s:Sh):Ln:=lnW [zCh,s.pt.data.toList,s.nu.data.toList++47::s.de.data.toList]
def hdW (d:De):Ln:=joi 32 [zCC,d.id.data.toList,(itoaB d.day).data.toList,(kdS d.kd).data.toList]
def dLn (d:De):List Ln :=
 [hdW d]++optL (zAf d.kd || decide (d.kd=1)) [lnW [zBq,d.th.data.toList]]++optL (zAf d.kd || decide (d.kd=5)) [lnW [zCa,d.fr.data.toList]]++optL (zAf d.kd) [lnW [kTo,d.to_.data.toList]]
  ++optL (decide (d.kd=2)) [lnW [zDU,d.nu.data.toList++47::d.de.data.toList]]++optL d.ex [lnW [zDu]]++optL d.sb [lnW [kSub]]++d.ar.map arW++d.us.map usW
  ++[lnW [zAM,(itoaB d.bg).data.toList]]++optL (zAf d.kd) [lnW [kEnd,(itoaB d.en).data.toList]]++d.sh.map shW++optL (decide (d.kd=4)) [lnW [zEm,d.ot.data.toList]]
def rgW (r:Rg):Ln:=joi 32 [zBw,r.nm.data.toList,if r.par=emp then [45] else r.par.data.toList]
theorem splitK_one (c:UInt8):∀ (n:Nat) (s:Ln),s.length≤n→Lib.splitK [c] 0 (s.count c) s=spl c s
 | n,s,hn=>by
  rcases Int.lt_or_le (Lib.indexByte s c) 0 with h | h
  ·have h1:Lib.indexByte s c = -1:=by have:=Lib.indexByte_ge s c;omega
   have hno:=Lib.indexByte_none h1
   have hm:c∉s:=fun hm=>by
    obtain ⟨k,hk,e⟩:=aJ hm;exact hno k (by rw [List.getElem?_eq_getElem hk,e])
   rw [List.count_eq_zero.2 hm,spl_one hm];rfl
  ·obtain ⟨o,ho⟩:=Int.eq_ofNat_of_zero_le h
   obtain ⟨h1,h2⟩:=Lib.indexByte_some ho;obtain ⟨hol,hoc⟩:=List.getElem?_eq_some_iff.1 h1
   have hs:s=s.take o++c::s.drop (o+1):=by
    rw [←hoc,←aF hol,List.take_append_drop]
   have hm:c∉s.take o:=fun hm=>by
    obtain ⟨k,hk,e⟩:=aJ hm;rw [bE] at hk;rw [cG] at e;exact h2 k za (by rw [List.getElem?_eq_getElem za,e])
   have hc:s.count c=(s.drop (o+1)).count c+1:=by
    have:=aY (List.count c) hs;rw [List.count_append,List.count_eq_zero.2 hm,List.count_cons_self] at this;omega
   have ix:Lib.index s [c]=(o:Int):=by rw [Lib.index_one];exact ho
   cases n with
   | zero=>omega
   | succ n =>
    have ih:=splitK_one c n (s.drop (o+1)) (by rw [bK];omega)
    have e2:spl c s=s.take o::spl c (s.drop (o+1)):=by
     have:=spl_app (s.drop (o+1)) hm;rw [←hs] at this;exact this
    have hne:¬ (Lib.index s [c] == -1)=true:=fun e=>by have:=beq_iff_eq.1 e;omega
    have hn2:(Lib.index s [c]).toNat=o:=za;rw [hc,Lib.splitK,aC hne,hn2,e2,←ih];rfl
theorem splitB_one (c:UInt8) (s:BA):Lib.splitB ⟨#[c]⟩ 0 (Lib.countB s ⟨#[c]⟩) s=(spl c s.data.toList).map ofL:=by
 have h1:=Lib.splitB_data ⟨#[c]⟩ 0 (Lib.countB s ⟨#[c]⟩) s;have h2:Lib.countB s ⟨#[c]⟩=s.data.toList.count c:=Lib.count_one c s.data.toList;rw [h2] at h1 ⊢;have h3:(Lib.splitB ⟨#[c]⟩ 0 (s.data.toList.count c) s).map (fun x=>x.data.toList)=spl c s.data.toList:=h1.trans (splitK_one c _ _ (aB _))
 rw [←h3,List.map_map];have:(ofL ∘ fun x:BA=>x.data.toList)=id:=by funext x;exact zDJ x
 rw [this,List.map_id]
theorem countB_one (c:UInt8) (s:BA):Lib.countB s ⟨#[c]⟩+1=(spl c s.data.toList).length:=by
 have h:=aY List.length (splitB_one c s);rw [Lib.splitB_all ⟨#[c]⟩ (aB 1) 0 _ s rfl,aK] at h;exact h
theorem spl_len (c:UInt8):∀ l:Ln,(spl c l).length≤l.length+1
 | []=>by simp [spl]
 | b::l=>by
  have ih:=spl_len c l;unfold spl
  split
  ·simp only [aQ];omega
  ·cases hs:spl c l with
   | nil=>simp
   | cons x t=>rw [hs] at ih;simp only [aQ] at ih ⊢;omega
def cutP (pre l:Ln):Ln:=if pre.isPrefixOf l=true then l.drop pre.length else l
theorem wdF_asks (pre first l:Ln) (r:List Ln) (many:Nat):wdF pre first many (l::r)=if pre.isPrefixOf l=true then (if (spl 32 (cutP pre l)).head?=some first then (if (spl 32 (cutP pre l)).length=many then some (spl 32 (cutP pre l)) else none) else none) else none:=by
 rw [wdF_cons];unfold cutP
 by_cases h:pre.isPrefixOf l=true
 ·rw [aE h,aE h]
  by_cases h1:(spl 32 (l.drop pre.length)).head?=some first
  ·rw [aE h1]
   by_cases h2:(spl 32 (l.drop pre.length)).length=many
   ·rw [aE h2,aE ⟨h,h1,h2⟩]
   ·rw [aC h2,aC fun x=>h2 x.2.2]
  ·rw [aC h1,aC fun x=>h1 x.2.1]
 ·rw [aC h,aC fun x=>h x.1]
section
variable {pre first:Ln} {L R:List Ln} {w:List Ln}
theorem wd_len {n:Nat} (h:wdF pre first n L=some w):L=(pre++joi 32 w)::L.tail∧w.head?=some first∧w.length=n:=by
 obtain ⟨l,r,rfl,rfl,h1,h2⟩:=wdF_some h;exact ⟨rfl,h1,h2⟩
theorem zDL (h:wdF pre first 2 L=some w):∃ n,w=[first,n]∧L=(pre++joi 32 [first,n])::L.tail:=by
 obtain ⟨h1,h2,h3⟩:=wd_len h
 match w,h2,h3 with
 | [a,n],h2,_ =>
  have:a=first:=by simpa using h2
  subst this;exact ⟨n,rfl,h1⟩
theorem wd_three (h:wdF pre first 3 L=some w):∃ m n,w=[first,m,n]∧L=(pre++joi 32 [first,m,n])::L.tail:=by
 obtain ⟨h1,h2,h3⟩:=wd_len h
 match w,h2,h3 with
 | [a,m,n],h2,_ =>
  have:a=first:=by simpa using h2
  subst this;exact ⟨m,n,rfl,h1⟩
theorem wd_four (h:wdF pre first 4 L=some w):∃ m n o,w=[first,m,n,o]∧L=(pre++joi 32 [first,m,n,o])::L.tail:=by
 obtain ⟨h1,h2,h3⟩:=wd_len h
 match w,h2,h3 with
 | [a,m,n,o],h2,_ =>
  have:a=first:=by simpa using h2
  subst this;exact ⟨m,n,o,rfl,h1⟩
theorem wd_one (h:wdF pre first 1 L=some w):w=[first]∧L=(pre++joi 32 [first])::L.tail:=by
 obtain ⟨h1,h2,h3⟩:=wd_len h
 match w,h2,h3 with
 | [a],h2,_ =>
  have:a=first:=by simpa using h2
  subst this;exact ⟨rfl,h1⟩
theorem nameX_ok {v:BA} (h:zDc first L = .ok (v,R)):L=[lnW [first,v.data.toList]]++R:=by
 unfold zDc at h
 cases hw:wdF sp2 first 2 L with
 | none=>rw [hw] at h;cases h
 | some w =>
  obtain ⟨n,rfl,hL⟩:=zDL hw;rw [hw] at h;simp only at h
  split at h
  ·injection h with h
   injection h with h1 h2
   rw [←h1,←h2,zAj];exact hL
  ·cases h
theorem numX_ok {v:Int} (h:numX first L = .ok (v,R)):L=[lnW [first,(itoaB v).data.toList]]++R:=by
 unfold numX at h
 cases hw:wdF sp2 first 2 L with
 | none=>rw [hw] at h;cases h
 | some w =>
  obtain ⟨s,rfl,hL⟩:=zDL hw;rw [hw] at h;simp only at h
  cases hn:zDv s with
  | none=>rw [hn] at h;cases h
  | some n =>
   rw [hn] at h
   injection h with h
   injection h with h1 h2
   rw [←h1,←h2,numS_itoa hn];exact hL
theorem partX_ok {v:BA×BA} (h:partX L = .ok (v,R)):L=[lnW [zDU,v.1.data.toList++47::v.2.data.toList]]++R:=by
 unfold partX at h
 cases hw:wdF sp2 zDU 2 L with
 | none=>rw [hw] at h;cases h
 | some w =>
  obtain ⟨s,rfl,hL⟩:=zDL hw;rw [hw] at h;simp only at h
  cases hn:zDP s with
  | none=>rw [hn] at h;cases h
  | some p =>
   obtain ⟨n,d⟩:=p;rw [hn] at h
   injection h with h
   injection h with h1 h2
   rw [←h1,←h2];simp only [zAj];rw [←ratX_app hn];exact hL
theorem flagX_ok {b:Bool} (h:zCA first L=(b,R)):L=optL b [lnW [first]]++R:=by
 unfold zCA at h
 cases hw:wdF sp2 first 1 L with
 | none =>
  rw [hw] at h
  injection h with h1 h2
  rw [←h1,←h2];rfl
 | some w =>
  obtain ⟨_,hL⟩:=wd_one hw;rw [hw] at h
  injection h with h1 h2
  rw [←h1,←h2];exact hL
theorem areasX_ok:∀ L:List Ln,L=(zBf L).1.map arW++(zBf L).2
 | []=>rfl
 | l::r=>by
  have ih:=areasX_ok r;unfold zBf
  cases hw:wdF sp2 kIn 2 (l::r) with
  | some w =>
   obtain ⟨n,rfl,hL⟩:=zDL hw;simp only
   split
   ·injection hL with hL _
    rw [dJ,aP,←ih,hL];unfold arW;simp only [zAj]
    rfl
   ·rfl
  | none =>
   simp only
   cases hw2:wdF sp2 zDE 2 (l::r) with
   | some w =>
    obtain ⟨n,rfl,hL⟩:=zDL hw2;simp only
    split
    ·injection hL with hL _
     rw [dJ,aP,←ih,hL];unfold arW;simp only [zAj]
     rfl
    ·rfl
   | none=>rfl
theorem usesX_ok:∀ L:List Ln,L=(zAQ pre first L).1.map (fun u=>pre++joi 32 [first,u.data.toList])++(zAQ pre first L).2
 | []=>rfl
 | l::r=>by
  have ih:=usesX_ok r;unfold zAQ
  cases hw:wdF pre first 2 (l::r) with
  | some w =>
   obtain ⟨n,rfl,hL⟩:=zDL hw;simp only
   split
   ·injection hL with hL _
    rw [dJ,aP,←ih,hL,zAj]
   ·rfl
  | none=>rfl
theorem sharesX_ok:∀ L:List Ln,L=(zAW L).1.map shW++(zAW L).2
 | []=>rfl
 | l::r=>by
  have ih:=sharesX_ok r;unfold zAW
  cases hw:wdF sp2 zCh 3 (l::r) with
  | some w =>
   obtain ⟨p,s,rfl,hL⟩:=wd_three hw;simp only
   split
   ·cases hn:zDP s with
    | none=>rfl
    | some q =>
     obtain ⟨n,d⟩:=q
     injection hL with hL _
     simp only;rw [dJ,aP,←ih,hL,ratX_app hn];unfold shW;simp only [zAj]
   ·rfl
  | none=>rfl
theorem regsX_ok:∀ L:List Ln,L=(zAT L).1.map rgW++(zAT L).2
 | []=>rfl
 | l::r=>by
  have ih:=regsX_ok r;unfold zAT
  cases hw:wdF [] zBw 3 (l::r) with
  | some w =>
   obtain ⟨n,p,rfl,hL⟩:=wd_three hw;simp only
   split
   ·next hc =>
    injection hL with hL _
    rw [dJ,aP,←ih,hL];unfold rgW;simp only [zAj,List.nil_append]
    by_cases hp:p=[45]
    ·rw [aE hp,aE rfl,hp]
    ·have hne:ofL p≠emp:=fun e=>by
      have h2:=hc.2.resolve_right hp;have:p=[]:=by rw [←zAj p,e];rfl
      rw [this] at h2
      cases h2
     rw [aC hp,aC hne,zAj]
   ·rfl
  | none=>rfl
theorem optX_ok {α:Type} {b:Bool} {d v:α} {f:List Ln→Rdr α} {pr:α→List Ln} (hf:∀ v R,f L = .ok (v,R)→L=pr v++R) (h:optX b d f L = .ok (v,R)):L=optL b (pr v)++R:=by
 unfold optX at h
 cases b with
 | false=>cases h;rfl
 | true=>exact hf v R h
theorem zCx {α β:Type} {x:Except (List Ln) α} {f:α→Except (List Ln) β} {y:β} (h:(x >>= f) = .ok y):∃ a,x = .ok a∧f a = .ok y:=by
 cases x with
 | error e=>cases h
 | ok a=>exact ⟨a,rfl,h⟩
theorem kdX_ok {s:Ln} (h:0<kdX s):(kdS (kdX s)).data.toList=s:=by
 unfold kdX at *
 split
 ·next e=>subst e;rfl
 split
 ·next e=>subst e;rfl
 split
 ·next e=>subst e;rfl
 split
 ·next e=>subst e;rfl
 split
 ·next e=>subst e;rfl
 ·next a b c d e=>rw [aC a,aC b,aC c,aC d,aC e] at h;exact absurd h zc
theorem bodyX_ok {id:BA} {day k:Int} {d:De} (h:bodyX id day k L = .ok (d,R)):hdW d::L=dLn d++R∧d.id=id∧d.day=day∧d.kd=k:=by
 unfold bodyX at h;obtain ⟨⟨th,L1⟩,h1,h⟩:=zCx h;obtain ⟨⟨fr,L2⟩,h2,h⟩:=zCx h;obtain ⟨⟨to2,L3⟩,h3,h⟩:=zCx h;obtain ⟨⟨pt,L4⟩,h4,h⟩:=zCx h;simp only at h;obtain ⟨⟨bg,L9⟩,h9,h⟩:=zCx h;obtain ⟨⟨en,L10⟩,h10,h⟩:=zCx h;simp only at h;obtain ⟨⟨ot,L12⟩,h12,h⟩:=zCx h
 injection h with h
 injection h with hd hR
 have e1:=optX_ok (pr:=fun v=>[lnW [zBq,v.data.toList]]) (fun v R=>nameX_ok) h1
 have e2:=optX_ok (pr:=fun v=>[lnW [zCa,v.data.toList]]) (fun v R=>nameX_ok) h2
 have e3:=optX_ok (pr:=fun v=>[lnW [kTo,v.data.toList]]) (fun v R=>nameX_ok) h3
 have e4:=optX_ok (pr:=fun v=>[lnW [zDU,v.1.data.toList++47::v.2.data.toList]]) (fun v R=>partX_ok) h4
 have e9:=numX_ok h9;have e10:L9=optL (zAf k) [lnW [kEnd,(itoaB en).data.toList]]++L10:=optX_ok (pr:=fun v=>[lnW [kEnd,(itoaB v).data.toList]]) (fun v R=>numX_ok) h10
 have e12:=optX_ok (pr:=fun v=>[lnW [zEm,v.data.toList]]) (fun v R=>nameX_ok) h12
 have key:∀ (b:Bool) (f:Ln) (M:List Ln),M=optL (zBo b false (zCA f) M).1 [lnW [f]]++(zBo b false (zCA f) M).2:=fun b f M=>by
  cases b with
  | false=>rfl
  | true=>exact flagX_ok rfl
 have keyA:∀ (b:Bool) (M:List Ln),M=(zBo b [] zBf M).1.map arW++(zBo b [] zBf M).2:=fun b M=>by
  cases b with
  | false=>rfl
  | true=>exact areasX_ok M
 have keyU:∀ (b:Bool) (M:List Ln),M=(zBo b [] (zAQ sp2 zDn) M).1.map usW++(zBo b [] (zAQ sp2 zDn) M).2:=fun b M=>by
  cases b with
  | false=>rfl
  | true=>exact usesX_ok M
 have keyS:∀ (b:Bool) (M:List Ln),M=(zBo b [] zAW M).1.map shW++(zBo b [] zAW M).2:=fun b M=>by
  cases b with
  | false=>rfl
  | true=>exact sharesX_ok M
 have e5:=key (decide (k=3)) zDu L4;generalize zBo (decide (k=3)) false (zCA zDu) L4=p5 at *;have e6:=key (decide (k=3)) kSub p5.2;generalize zBo (decide (k=3)) false (zCA kSub) p5.2=p6 at *;have e7:=keyA (zAf k) p6.2;generalize zBo (zAf k) [] zBf p6.2=p7 at *;have e8:=keyU (zAf k) p7.2;generalize zBo (zAf k) [] (zAQ sp2 zDn) p7.2=p8 at *;have e11:=keyS (divB k) L10;generalize zBo (divB k) [] zAW L10=p11 at *;subst hd;subst hR;refine ⟨?_,rfl,rfl,rfl⟩
 unfold dLn;simp only [cC];rw [e1,e2,e3,e4,e5,e6,e7,e8,e9,e10,e11,e12]
 rfl
theorem deedX_ok {d:De} (h:zAG L = .ok (d,R)):L=dLn d++R:=by
 unfold zAG at h
 cases hw:wdF [] zCC 4 L with
 | none=>rw [hw] at h;cases h
 | some w =>
  obtain ⟨i,dy,kw,rfl,hL⟩:=wd_four hw;rw [hw] at h;simp only at h
  cases hn:zDv dy with
  | none=>rw [hn] at h;cases h
  | some n =>
   rw [hn] at h;simp only at h
   split at h
   ·next hc =>
    obtain ⟨h1,h2,h3,h4⟩:=bodyX_ok h;rw [←h1,hL];unfold hdW;rw [h2,h3,h4,zAj,numS_itoa hn,kdX_ok hc.2]
    rfl
   ·cases h
theorem dLn_pos (d:De):0<(dLn d).length:=by
 unfold dLn;simp only [cY,dK];omega
end
def st12 (d:De) (L:List Ln):Except (List Ln) (De×List Ln):=do
 let (v,L)←optX (decide (d.kd=4)) emp (zDc zEm) L
 .ok ({ d with ot:=v },L)
def st11 (d:De) (L:List Ln):Except (List Ln) (De×List Ln):=st12 { d with sh:=(zBo (divB d.kd) [] zAW L).1 } (zBo (divB d.kd) [] zAW L).2
def st10 (d:De) (L:List Ln):Except (List Ln) (De×List Ln):=do
 let (v,L)←optX (zAf d.kd) 0 (numX kEnd) L
 st11 { d with en:=v } L
def st9 (d:De) (L:List Ln):Except (List Ln) (De×List Ln):=do
 let (v,L)←numX zAM L
 st10 { d with bg:=v } L
def st8 (d:De) (L:List Ln):Except (List Ln) (De×List Ln):=st9 { d with us:=(zBo (zAf d.kd) [] (zAQ sp2 zDn) L).1 } (zBo (zAf d.kd) [] (zAQ sp2 zDn) L).2
def st7 (d:De) (L:List Ln):Except (List Ln) (De×List Ln):=st8 { d with ar:=(zBo (zAf d.kd) [] zBf L).1 } (zBo (zAf d.kd) [] zBf L).2
def st6 (d:De) (L:List Ln):Except (List Ln) (De×List Ln):=st7 { d with sb:=(zBo (decide (d.kd=3)) false (zCA kSub) L).1 } (zBo (decide (d.kd=3)) false (zCA kSub) L).2
def st5 (d:De) (L:List Ln):Except (List Ln) (De×List Ln):=st6 { d with ex:=(zBo (decide (d.kd=3)) false (zCA zDu) L).1 } (zBo (decide (d.kd=3)) false (zCA zDu) L).2
def st4 (d:De) (L:List Ln):Except (List Ln) (De×List Ln):=do
 let (v,L)←optX (decide (d.kd=2)) (emp,emp) partX L
 st5 { d with nu:=v.1,de:=v.2 } L
def st3 (d:De) (L:List Ln):Except (List Ln) (De×List Ln):=do
 let (v,L)←optX (zAf d.kd) emp (zDc kTo) L
 st4 { d with to_:=v } L
def st2 (d:De) (L:List Ln):Except (List Ln) (De×List Ln):=do
 let (v,L)←optX (zAf d.kd || decide (d.kd=5)) emp (zDc zCa) L
 st3 { d with fr:=v } L
def st1 (d:De) (L:List Ln):Except (List Ln) (De×List Ln):=do
 let (v,L)←optX (zAf d.kd || decide (d.kd=1)) emp (zDc zBq) L
 st2 { d with th:=v } L
abbrev newD (id:BA) (day k:Int):De:=⟨id,day,k,emp,emp,emp,emp,emp,false,false,none,[],0,none,[],0,0,0,none,[],0,emp⟩
theorem bodyX_st (id:BA) (day k:Int) (L:List Ln):bodyX id day k L=st1 (newD id day k) L:=rfl
section
variable {first:Ln} {M:List Ln}
theorem areasX_rest (M:List Ln):(zBf M).2=M.drop (zBf M).1.length:=by
 have h:=aY (List.drop (zBf M).1.length) (areasX_ok M);rw [List.drop_left' (by rw [aK])] at h
 exact h.symm
theorem usesX_rest (pre first:Ln) (M:List Ln):(zAQ pre first M).2=M.drop (zAQ pre first M).1.length:=by
 have h:=aY (List.drop (zAQ pre first M).1.length) (usesX_ok (pre:=pre) (first:=first) M)
 rw [List.drop_left' (by rw [aK])] at h
 exact h.symm
theorem sharesX_rest (M:List Ln):(zAW M).2=M.drop (zAW M).1.length:=by
 have h:=aY (List.drop (zAW M).1.length) (sharesX_ok M);rw [List.drop_left' (by rw [aK])] at h
 exact h.symm
theorem zDp (M:List Ln):(zAT M).2=M.drop (zAT M).1.length:=by
 have h:=aY (List.drop (zAT M).1.length) (regsX_ok M);rw [List.drop_left' (by rw [aK])] at h
 exact h.symm
def zDk (pre s:Ln) (M:List Ln):Option Ln:=match wdF pre s 2 M with
 | some [_,n]=>if rowL n=true then some n else none
 | _=>none
def zDf:List Ln→List Ln→List (Ln×Ln)×List Ln
 | [],M=>([],M)
 | s::fs,M=>match zDk sp2 s M with
  | some n=>((s,n)::(zDf fs M.tail).1,(zDf fs M.tail).2)
  | none=>zDf fs M
def zDW (fs:List Ln):Nat→List Ln→List (Ln×Ln)×List Ln
 | 0,M=>([],M)
 | f+1,M=>if (zDf fs M).1=[] then ([],M) else ((zDf fs M).1++(zDW fs f (zDf fs M).2).1,(zDW fs f (zDf fs M).2).2)
theorem areasX_try (l:Ln) (r:List Ln):zBf (l::r)=match zDk sp2 kIn (l::r) with
  | some n=>(⟨ofL n,false⟩::(zBf r).1,(zBf r).2)
  | none=>match zDk sp2 zDE (l::r) with
   | some n=>(⟨ofL n,true⟩::(zBf r).1,(zBf r).2)
   | none=>([],l::r):=by
 rw [zBf];unfold zDk
 cases h1:wdF sp2 kIn 2 (l::r) with
 | some w =>
  obtain ⟨n,rfl,hL⟩:=zDL h1;simp only
  cases hr:rowL n with
  | true=>rfl
  | false =>
   simp only [dL,dG]
   have h2:wdF sp2 zDE 2 (l::r)=none:=by
    cases h3:wdF sp2 zDE 2 (l::r) with
    | none=>rfl
    | some w2 =>
     exfalso
     obtain ⟨m,rfl,hM⟩:=zDL h3;rw [wdF_cons] at h1 h3
     split at h1
     ·split at h3
      ·next a b=>rw [a.2.1] at b;exact absurd b.2.1 zc
      ·cases h3
     ·cases h1
   rw [h2]
 | none =>
  simp only
  cases h3:wdF sp2 zDE 2 (l::r) with
  | none=>rfl
  | some w2 =>
   obtain ⟨m,rfl,hM⟩:=zDL h3;simp only
   cases hr:rowL m with
   | true=>rfl
   | false=>rfl
theorem usesX_try (pre first l:Ln) (r:List Ln):zAQ pre first (l::r)=match zDk pre first (l::r) with
  | some n=>(ofL n::(zAQ pre first r).1,(zAQ pre first r).2)
  | none=>([],l::r):=by
 rw [zAQ];unfold zDk
 cases h1:wdF pre first 2 (l::r) with
 | none=>rfl
 | some w =>
  obtain ⟨n,rfl,hL⟩:=zDL h1;simp only
  cases hr:rowL n<;>rfl
def arP (p:Ln×Ln):Ar:=⟨ofL p.2,decide (p.1=zDE)⟩
theorem names_areas:∀ (f:Nat) (M:List Ln),M.length<f→zBf M=((zDW [kIn,zDE] f M).1.map arP,(zDW [kIn,zDE] f M).2)
 | 0,M,h=>absurd h (Nat.not_lt_zero _)
 | f+1,[],_=>rfl
 | f+1,l::r,h=>by
  have ih:=names_areas f;simp only [aQ] at h;rw [areasX_try,zDW]
  have hp:zDf [kIn,zDE] (l::r)=match zDk sp2 kIn (l::r) with
    | some n=>(match zDk sp2 zDE r with
     | some m=>([(kIn,n),(zDE,m)],r.tail)
     | none=>([(kIn,n)],r))
    | none=>match zDk sp2 zDE (l::r) with
     | some m=>([(zDE,m)],r)
     | none=>([],l::r):=by
   rw [zDf]
   cases zDk sp2 kIn (l::r) with
   | some n =>
    simp only [List.tail_cons];rw [zDf]
    cases zDk sp2 zDE r<;>rfl
   | none =>
    simp only;rw [zDf]
    cases zDk sp2 zDE (l::r)<;>rfl
  rw [hp]
  cases zDk sp2 kIn (l::r) with
  | some n =>
   simp only
   cases ho:zDk sp2 zDE r with
   | none =>
    simp only;rw [aC zd,ih r za]
    rfl
   | some m =>
    simp only;rw [aC zd]
    cases r with
    | nil=>cases ho
    | cons l2 r2 =>
     simp only [aQ,List.tail_cons] at h ⊢
     have hin:zDk sp2 kIn (l2::r2)=none:=by
      unfold zDk at ho ⊢
      cases h3:wdF sp2 zDE 2 (l2::r2) with
      | none=>rw [h3] at ho;cases ho
      | some w2 =>
       cases h1:wdF sp2 kIn 2 (l2::r2) with
       | none=>rfl
       | some w =>
        exfalso
        rw [wdF_cons] at h1 h3
        split at h1
        ·split at h3
         ·next a b=>rw [a.2.1] at b;exact absurd b.2.1 zc
         ·cases h3
        ·cases h1
     rw [areasX_try,hin,ho];simp only;rw [ih r2 za]
     rfl
  | none =>
   simp only
   cases zDk sp2 zDE (l::r) with
   | some m =>
    simp only;rw [aC zd,ih r za]
    rfl
   | none=>rfl
theorem names_uses:∀ (f:Nat) (M:List Ln),M.length<f→zAQ sp2 zDn M=((zDW [zDn] f M).1.map fun p=>ofL p.2,(zDW [zDn] f M).2)
 | 0,M,h=>absurd h (Nat.not_lt_zero _)
 | f+1,[],_=>rfl
 | f+1,l::r,h=>by
  have ih:=names_uses f;simp only [aQ] at h;rw [usesX_try,zDW]
  have hp:zDf [zDn] (l::r)=match zDk sp2 zDn (l::r) with
    | some n=>([(zDn,n)],r)
    | none=>([],l::r):=by
   rw [zDf]
   cases zDk sp2 zDn (l::r)<;>rfl
  rw [hp]
  cases zDk sp2 zDn (l::r) with
  | some n =>
   simp only;rw [aC zd,ih r za]
   rfl
  | none=>rfl
end
end Go.Proofs.YtoaelidmmcbkfaaGreatDoor
namespace Go.Proofs
open Go.Shelf
def Tryz.lays172_ren:Go.Shelf.Ren:=⟨fun | 172=>69 | 244=>103 | 245=>104 | 247=>135 | 279=>136 | 280=>137 | 281=>138 | 282=>139 | 287=>177 | 316=>178 | 171=>62 | 205=>179 | 321=>199 | 322=>200 | 243=>90 | 246=>126 | 283=>169 | 284=>170 | 285=>171 | 286=>172 | 129=>193 | 317=>192 | 318=>194 | 319=>195 | 320=>196 | 337=>211 | 338=>212 | n=>n,fun | 9=>9 | 3=>3 | 75=>71 | 76=>72 | 4=>4 | 5=>5 | 167=>178 | 37=>67 | 0=>0 | 85=>179 | 2=>2 | 168=>181 | 53=>198 | 175=>217 | 46=>175 | 210=>220 | 127=>120 | 145=>240 | 143=>238 | 21=>21 | 171=>204 | 173=>207 | 212=>233 | 51=>213 | 20=>20 | 213=>234 | 232=>254 | 233=>255 | 80=>76 | n=>n,fun | 15=>3 | 16=>4 | 17=>5 | 18=>6 | 19=>7 | n=>n⟩
theorem Tryz.lays172:Go.Proofs.Lays.n172 Tryz.prog Tryz.lays172_ren:={
 mixed:=zb
 f129:=Tryz.func193.trans (aY some zb)
 f171:=Tryz.func62.trans (aY some zb)
 f172:=Tryz.func69.trans (aY some zb)
 f205:=Tryz.func179.trans (aY some zb)
 f243:=Tryz.func90.trans (aY some zb)
 f244:=Tryz.func103.trans (aY some zb)
 f245:=Tryz.func104.trans (aY some zb)
 f246:=Tryz.func126.trans (aY some zb)
 f247:=Tryz.func135.trans (aY some zb)
 f279:=Tryz.func136.trans (aY some zb)
 f280:=Tryz.func137.trans (aY some zb)
 f281:=Tryz.func138.trans (aY some zb)
 f282:=Tryz.func139.trans (aY some zb)
 f283:=Tryz.func169.trans (aY some zb)
 f284:=Tryz.func170.trans (aY some zb)
 f285:=Tryz.func171.trans (aY some zb)
 f286:=Tryz.func172.trans (aY some zb)
 f287:=Tryz.func177.trans (aY some zb)
 f316:=Tryz.func178.trans (aY some zb)
 f317:=Tryz.func192.trans (aY some zb)
 f318:=Tryz.func194.trans (aY some zb)
 f319:=Tryz.func195.trans (aY some zb)
 f320:=Tryz.func196.trans (aY some zb)
 f321:=Tryz.func199.trans (aY some zb)
 f322:=Tryz.func200.trans (aY some zb)
 f337:=Tryz.func211.trans (aY some zb)
 f338:=Tryz.func212.trans (aY some zb)
 t0:=Tryz.underlying0
 a0:=Tryz.isAgg0
 z0:=Tryz.sizeOf0
 v0:=Tryz.zeroValue0
 t2:=Tryz.underlying2
 a2:=Tryz.isAgg2
 z2:=Tryz.sizeOf2
 v2:=Tryz.zeroValue2
 t3:=Tryz.underlying3
 a3:=Tryz.isAgg3
 z3:=Tryz.sizeOf3
 v3:=Tryz.zeroValue3
 t4:=Tryz.underlying4
 a4:=Tryz.isAgg4
 z4:=Tryz.sizeOf4
 v4:=Tryz.zeroValue4
 t5:=Tryz.underlying5
 a5:=Tryz.isAgg5
 z5:=Tryz.sizeOf5
 v5:=Tryz.zeroValue5
 t9:=Tryz.underlying9
 a9:=Tryz.isAgg9
 z9:=Tryz.sizeOf9
 v9:=Tryz.zeroValue9
 t20:=Tryz.underlying20
 a20:=Tryz.isAgg20
 z20:=Tryz.sizeOf20
 v20:=Tryz.zeroValue20
 t21:=Tryz.underlying21
 a21:=Tryz.isAgg21
 z21:=Tryz.sizeOf21
 v21:=Tryz.zeroValue21
 t37:=Tryz.underlying67
 a37:=Tryz.isAgg67
 z37:=Tryz.sizeOf67
 v37:=Tryz.zeroValue67
 t46:=Tryz.underlying175
 a46:=Tryz.isAgg175
 z46:=Tryz.sizeOf175
 v46:=Tryz.zeroValue175
 t51:=Tryz.underlying213
 a51:=Tryz.isAgg213
 z51:=Tryz.sizeOf213
 v51:=Tryz.zeroValue213
 t53:=Tryz.underlying198
 a53:=Tryz.isAgg198
 z53:=Tryz.sizeOf198
 v53:=Tryz.zeroValue198
 t75:=Tryz.underlying71
 a75:=Tryz.isAgg71
 z75:=Tryz.sizeOf71
 v75:=Tryz.zeroValue71
 t76:=Tryz.underlying72
 a76:=Tryz.isAgg72
 z76:=Tryz.sizeOf72
 v76:=Tryz.zeroValue72
 t85:=Tryz.underlying179
 a85:=Tryz.isAgg179
 z85:=Tryz.sizeOf179
 v85:=Tryz.zeroValue179
 t127:=Tryz.underlying120
 a127:=Tryz.isAgg120
 z127:=Tryz.sizeOf120
 v127:=Tryz.zeroValue120
 t143:=Tryz.underlying238
 a143:=Tryz.isAgg238
 z143:=Tryz.sizeOf238
 v143:=Tryz.zeroValue238
 t145:=Tryz.underlying240
 a145:=Tryz.isAgg240
 z145:=Tryz.sizeOf240
 v145:=Tryz.zeroValue240
 t167:=Tryz.underlying178
 a167:=Tryz.isAgg178
 z167:=Tryz.sizeOf178
 v167:=Tryz.zeroValue178
 t168:=Tryz.underlying181
 a168:=Tryz.isAgg181
 z168:=Tryz.sizeOf181
 v168:=Tryz.zeroValue181
 t171:=Tryz.underlying204
 a171:=Tryz.isAgg204
 z171:=Tryz.sizeOf204
 v171:=Tryz.zeroValue204
 t173:=Tryz.underlying207
 a173:=Tryz.isAgg207
 z173:=Tryz.sizeOf207
 v173:=Tryz.zeroValue207
 t175:=Tryz.underlying217
 a175:=Tryz.isAgg217
 z175:=Tryz.sizeOf217
 v175:=Tryz.zeroValue217
 t210:=Tryz.underlying220
 a210:=Tryz.isAgg220
 z210:=Tryz.sizeOf220
 v210:=Tryz.zeroValue220
 t212:=Tryz.underlying233
 a212:=Tryz.isAgg233
 z212:=Tryz.sizeOf233
 v212:=Tryz.zeroValue233
 t213:=Tryz.underlying234
 a213:=Tryz.isAgg234
 z213:=Tryz.sizeOf234
 t232:=Tryz.underlying254
 a232:=Tryz.isAgg254
 z232:=Tryz.sizeOf254
 v232:=Tryz.zeroValue254
 t233:=Tryz.underlying255
 a233:=Tryz.isAgg255
 z233:=Tryz.sizeOf255
 v233:=Tryz.zeroValue255
 g15:=zb
 g16:=zb
 g17:=zb
 g18:=zb
 g19:=by kernel_rfl }
end Go.Proofs
namespace Go.Proofs.YtoaelidmmcbkfaaGreatDoor
open Go.Shelf Go.RowKit Go.Lib Dw
theorem decFrom_dec:∀ (l:List UInt8) (n:Nat),l.all dgB=true→Lib.decFrom n l=some (l.foldl (fun n c=>10*n+(c.toNat - 48)) n)
 | [],n,_=>rfl
 | c::l,n,h=>by
  simp only [List.all_cons,dA] at h;have hd:Lib.digitVal c=some (c.toNat - 48):=by unfold Lib.digitVal;rw [aE ((dgB_iff c).1 h.1)]
  unfold Lib.decFrom;rw [hd]
  show Lib.decFrom (n*10+(c.toNat - 48)) l=_
  rw [decFrom_dec l _ h.2,List.foldl_cons,aT n 10]
theorem atoi_dec {l:List UInt8} (hl:l≠[]) (h:l.all dgB=true):Lib.atoi l=some ((zBQ l:Nat):Int):=by
 cases l with
 | nil=>exact absurd rfl hl
 | cons c l =>
  have hc:48≤c.toNat∧c.toNat≤57:=by
   simp only [List.all_cons,dA] at h;exact (dgB_iff c).1 h.1
  have e1:(c == 45)=false:=by
   rw [aG];intro e;rw [e] at hc;have h2:=hc.1;simp at h2
  have e2:(c == 43)=false:=by
   rw [aG];intro e;rw [e] at hc;have h2:=hc.1;simp at h2
  show (if (c == 45)=true then _ else if (c == 43)=true then _ else (Lib.decNat (c::l)).map fun (m:Nat)=>(m:Int))=_
  rw [e1,e2];have e3:Lib.decNat (c::l)=some (zBQ (c::l)):=decFrom_dec (c::l) 0 h;simp [e3]
theorem below_bytes (w:World) (e:TypeId) (t:BA):Below w.heap.size w (Lib.bytesWorld w e t) :=
 ⟨rfl,rfl,rfl,by simp [Lib.bytesWorld,World.freeze,World.alloc,World.drew,-World.alloc_eq,-World.drew_eq],fun k hk=>Lib.bytesWorld_at_old w e t k hk⟩
theorem atoi_c (s:BA) (w:World) (h0:0<s.size) (h1:s.size≤18) (h:s.data.toList.all dgB=true) :
  Calls Tryz.prog 69 #[.string s] w (zAd (.tuple #[.int .i64 ((zBQ s.data.toList:Nat):Int),.nilIface]) w):=by
 have hn:s.data.toList≠[]:=fun e=>by
  have:=Lib.size_eq s;rw [e,dM] at this;omega
 have hA:=Any.strconv_Atoi Tryz.lays172 s _ h1 (atoi_dec hn h) w
 change Calls Tryz.prog 69 _ _ _ at hA
 refine hA.mono fun e w' ⟨he,t,hw⟩=>⟨he,?_⟩
 rw [hw];exact below_bytes w _ t
theorem len_data (s:BA):s.data.toList.length=s.size:=(Lib.size_eq s).symm
end Go.Proofs.YtoaelidmmcbkfaaGreatDoor
namespace Go.Proofs
open Go.Shelf
def Tryz.lays146_ren:Go.Shelf.Ren:=⟨fun | 146=>10 | 221=>26 | 268=>63 | 138=>64 | 143=>65 | 195=>91 | 197=>92 | 218=>93 | 219=>94 | 260=>127 | 217=>128 | 225=>129 | 224=>130 | 267=>131 | 266=>173 | 314=>174 | n=>n,fun | 9=>9 | 31=>23 | 3=>3 | 4=>4 | 0=>0 | 105=>139 | 21=>21 | 5=>5 | 46=>175 | 119=>209 | 139=>212 | 138=>211 | 146=>214 | 51=>213 | n=>n,fun | 1=>0 | 3=>1 | 4=>2 | n=>n⟩
theorem Tryz.lays146:Go.Proofs.Lays.n146 Tryz.prog Tryz.lays146_ren:={
 mixed:=zb
 f138:=Tryz.func64.trans (aY some zb)
 f143:=Tryz.func65.trans (aY some zb)
 f146:=Tryz.func10.trans (aY some zb)
 f195:=Tryz.func91.trans (aY some zb)
 f197:=Tryz.func92.trans (aY some zb)
 f217:=Tryz.func128.trans (aY some zb)
 f218:=Tryz.func93.trans (aY some zb)
 f219:=Tryz.func94.trans (aY some zb)
 f221:=Tryz.func26.trans (aY some zb)
 f224:=Tryz.func130.trans (aY some zb)
 f225:=Tryz.func129.trans (aY some zb)
 f260:=Tryz.func127.trans (aY some zb)
 f266:=Tryz.func173.trans (aY some zb)
 f267:=Tryz.func131.trans (aY some zb)
 f268:=Tryz.func63.trans (aY some zb)
 f314:=Tryz.func174.trans (aY some zb)
 t0:=Tryz.underlying0
 a0:=Tryz.isAgg0
 z0:=Tryz.sizeOf0
 v0:=Tryz.zeroValue0
 t3:=Tryz.underlying3
 a3:=Tryz.isAgg3
 z3:=Tryz.sizeOf3
 v3:=Tryz.zeroValue3
 t4:=Tryz.underlying4
 a4:=Tryz.isAgg4
 z4:=Tryz.sizeOf4
 v4:=Tryz.zeroValue4
 t5:=Tryz.underlying5
 a5:=Tryz.isAgg5
 z5:=Tryz.sizeOf5
 v5:=Tryz.zeroValue5
 t9:=Tryz.underlying9
 a9:=Tryz.isAgg9
 z9:=Tryz.sizeOf9
 v9:=Tryz.zeroValue9
 t21:=Tryz.underlying21
 a21:=Tryz.isAgg21
 z21:=Tryz.sizeOf21
 v21:=Tryz.zeroValue21
 t31:=Tryz.underlying23
 a31:=Tryz.isAgg23
 z31:=Tryz.sizeOf23
 v31:=Tryz.zeroValue23
 t46:=Tryz.underlying175
 a46:=Tryz.isAgg175
 z46:=Tryz.sizeOf175
 v46:=Tryz.zeroValue175
 t51:=Tryz.underlying213
 a51:=Tryz.isAgg213
 z51:=Tryz.sizeOf213
 v51:=Tryz.zeroValue213
 t105:=Tryz.underlying139
 a105:=Tryz.isAgg139
 z105:=Tryz.sizeOf139
 v105:=Tryz.zeroValue139
 t119:=Tryz.underlying209
 a119:=Tryz.isAgg209
 z119:=Tryz.sizeOf209
 t138:=Tryz.underlying211
 a138:=Tryz.isAgg211
 z138:=Tryz.sizeOf211
 v138:=Tryz.zeroValue211
 t139:=Tryz.underlying212
 a139:=Tryz.isAgg212
 z139:=Tryz.sizeOf212
 v139:=Tryz.zeroValue212
 t146:=Tryz.underlying214
 a146:=Tryz.isAgg214
 z146:=Tryz.sizeOf214
 v146:=Tryz.zeroValue214
 g1:=zb
 g3:=zb
 g4:=by kernel_rfl }
def Tryz.lays145_ren:Go.Shelf.Ren:=⟨fun | 145=>78 | 220=>115 | 219=>94 | 217=>128 | 225=>129 | 224=>130 | 267=>131 | 266=>173 | 314=>174 | n=>n,fun | 9=>9 | 4=>4 | 59=>129 | 3=>3 | 5=>5 | 46=>175 | 146=>214 | 51=>213 | n=>n,fun | 1=>0 | n=>n⟩
theorem Tryz.lays145:Go.Proofs.Lays.n145 Tryz.prog Tryz.lays145_ren:={
 mixed:=zb
 f145:=Tryz.func78.trans (aY some zb)
 f217:=Tryz.func128.trans (aY some zb)
 f219:=Tryz.func94.trans (aY some zb)
 f220:=Tryz.func115.trans (aY some zb)
 f224:=Tryz.func130.trans (aY some zb)
 f225:=Tryz.func129.trans (aY some zb)
 f266:=Tryz.func173.trans (aY some zb)
 f267:=Tryz.func131.trans (aY some zb)
 f314:=Tryz.func174.trans (aY some zb)
 t3:=Tryz.underlying3
 a3:=Tryz.isAgg3
 z3:=Tryz.sizeOf3
 v3:=Tryz.zeroValue3
 t4:=Tryz.underlying4
 a4:=Tryz.isAgg4
 z4:=Tryz.sizeOf4
 v4:=Tryz.zeroValue4
 t5:=Tryz.underlying5
 a5:=Tryz.isAgg5
 z5:=Tryz.sizeOf5
 v5:=Tryz.zeroValue5
 t9:=Tryz.underlying9
 a9:=Tryz.isAgg9
 z9:=Tryz.sizeOf9
 v9:=Tryz.zeroValue9
 t46:=Tryz.underlying175
 a46:=Tryz.isAgg175
 z46:=Tryz.sizeOf175
 v46:=Tryz.zeroValue175
 t51:=Tryz.underlying213
 a51:=Tryz.isAgg213
 z51:=Tryz.sizeOf213
 v51:=Tryz.zeroValue213
 t59:=Tryz.underlying129
 a59:=Tryz.isAgg129
 z59:=Tryz.sizeOf129
 v59:=Tryz.zeroValue129
 t146:=Tryz.underlying214
 a146:=Tryz.isAgg214
 z146:=Tryz.sizeOf214
 v146:=Tryz.zeroValue214
 g1:=by kernel_rfl }
def Tryz.lays101_ren:Go.Shelf.Ren:=⟨fun | 101=>80 | 208=>116 | 206=>77 | n=>n,fun | 9=>9 | 4=>4 | 3=>3 | n=>n,fun | n=>n⟩
theorem Tryz.lays101:Go.Proofs.Lays.n101 Tryz.prog Tryz.lays101_ren:={
 mixed:=zb
 f101:=Tryz.func80.trans (aY some zb)
 f206:=Tryz.func77.trans (aY some zb)
 f208:=Tryz.func116.trans (aY some zb)
 t3:=Tryz.underlying3
 a3:=Tryz.isAgg3
 z3:=Tryz.sizeOf3
 v3:=Tryz.zeroValue3
 t4:=Tryz.underlying4
 a4:=Tryz.isAgg4
 z4:=Tryz.sizeOf4
 v4:=Tryz.zeroValue4
 t9:=Tryz.underlying9
 a9:=Tryz.isAgg9
 z9:=Tryz.sizeOf9
 v9:=Tryz.zeroValue9 }
def Tryz.laysp103_ren:Go.Shelf.Ren:=⟨fun | 103=>66 | 210=>95 | 206=>77 | n=>n,fun | 9=>9 | 4=>4 | 24=>57 | 3=>3 | n=>n,fun | n=>n⟩
theorem Tryz.laysp103:Go.Proofs.Lays.n103 Tryz.prog Tryz.laysp103_ren:={
 mixed:=zb
 f103:=Tryz.func66.trans (aY some zb)
 f206:=Tryz.func77.trans (aY some zb)
 f210:=Tryz.func95.trans (aY some zb)
 t3:=Tryz.underlying3
 a3:=Tryz.isAgg3
 z3:=Tryz.sizeOf3
 v3:=Tryz.zeroValue3
 t4:=Tryz.underlying4
 a4:=Tryz.isAgg4
 z4:=Tryz.sizeOf4
 v4:=Tryz.zeroValue4
 t9:=Tryz.underlying9
 a9:=Tryz.isAgg9
 z9:=Tryz.sizeOf9
 v9:=Tryz.zeroValue9
 t24:=Tryz.underlying57
 a24:=Tryz.isAgg57
 z24:=Tryz.sizeOf57
 v24:=Tryz.zeroValue57 }
end Go.Proofs
