/- Parts of the proof, joined: Package right: Holdings. Breaches and conflicts, plainly: no program i. -/
import Derived.Test.YtbbchlpccgkikaaGreatDoorSh30
set_option maxRecDepth 100000
set_option maxHeartbeats 8000000
namespace Go.Proofs.YtbbchlpccgkikaaGreatDoor
open Go.RowKit Dw
def GivesHo(rs:List Rg)(us:List BA)(ds:List De)(th party:BA)(w:World)(e:Ending)(w':World):Prop:=
 ∃(v:Value)(hs:List HM)(f:Int),e=.returned (.tuple #[v,.int .i64 f])/\OwnH w' w.heap.size v hs/\(∀h∈hs,OwnAr w' w.heap.size h)/\Below w.heap.size w w' /\
  ((zBQ rs us ds≠0/\f=zBQ rs us ds/\hs=[])\/(zBQ rs us ds=0/\(zBi th&&zBi party)=false/\f=5/\hs=[]) \/
   (zBQ rs us ds=0/\(zBi th&&zBi party)=true/\HdRes (fun F=>F party) rs us ds th (hs.map plH) f))
theorem gq_party{rs:List Rg}{us:List BA}{ds:List De}(h:zBQ rs us ds=0)(th party u:BA)(d:Int)(i:Nat):0<=zAt rs ds i th u d ds.length party/\SzQ 100000000 (zAt rs ds i th u d ds.length party):=by
 obtain⟨M,hB,_⟩:=zCn h i th u d ds.length (aE _);exact⟨hB.ok.pos party,(parts_sz h i th u d ds.length (aE _) party).le zc⟩
theorem Holdings_c(RA:Option Addr)(rc:Nat)(rs:List Rg)(UA:Option Addr)(uc:Nat)(us:List BA)(DA:Option Addr)(dc:Nat)(ds:List De)(th party:BA)(w:World)(hr:Rgs w RA rs)(hu:Strs w UA us)(hd:Des w DA ds)(hz:∀i (h:i<rs.length),(rs[i]).nm.size<=9223372036854775807)(hz2:∀i (h:i<us.length),(us[i]).size<=9223372036854775807)(hdc:ds.length<=dc)(hth:th.size<=9223372036854775807)(hpa:party.size<=9223372036854775807): Calls Tryz.prog 8 #[.agg (tiC RA rc rs UA uc us DA dc ds),.string th,.string party] w (GivesHo rs us ds th party w):=by
 have HX0:Hid (Bx (w.alloc (.cells (tiC RA rc rs UA uc us DA dc ds) 26)) w.heap.size (tiC RA rc rs UA uc us DA dc ds) 26):=Bx.new _ _ _;have HB0:Hid (Below w.heap.size w (w.alloc (.cells (tiC RA rc rs UA uc us DA dc ds) 26))):=(aJ _ _).alloc (aE _) _;obtain⟨W0,hW0⟩:∃W,W=w.alloc (.cells (tiC RA rc rs UA uc us DA dc ds) 26):=⟨_,rfl⟩;rw[<-hW0]at HX0 HB0;have hs0:W0.heap.size=w.heap.size+1:=by rw[hW0];simp
 have hb0:Below W0.heap.size W0 (W0.alloc (.cells #[.string party] 9)):=(aJ _ _).alloc (aE _) _;have HP:Hid (Bx (W0.alloc (.cells #[.string party] 9)) (w.heap.size+1) #[.string party] 9):=by rw[<-hs0];exact Bx.new _ _ _
 obtain⟨W,hW⟩:∃W,W=W0.alloc (.cells #[.string party] 9):=⟨_,rfl⟩;rw[<-hW]at HP hb0;have HX:=zq (HX0.o.below hb0);have HB:=zq (zAa HB0.o hb0);have hba:Below W.heap.size W (W.alloc (.cells #[.string th,.string party] 9)):=(aJ _ _).alloc (aE _) _;have hbb:Below w.heap.size w (W.alloc (.cells #[.string th,.string party] 9)):=zAa HB.o hba;have HP1:=zq (HP.o.below hba)
 have HOP:Hid (Calls Tryz.prog 31 #[.agg (tiC RA rc rs UA uc us DA dc ds),.slice (some ⟨W.heap.size,0,none⟩) 2 2] (W.alloc (.cells #[.string th,.string party] 9)) (GivesOp (openF rs us ds [th,party]) RA rc rs UA uc us DA dc ds (W.alloc (.cells #[.string th,.string party] 9)))):=
  open_c RA rc rs UA uc us DA dc ds (some ⟨W.heap.size,0,none⟩) 2 [th,party] _ (hr.below hbb) (hu.below hbb) (hd.below hbb) hz hz2 (strs2 W th party) (fun i h=>by
   match i,h with
   |0,_=>exact hth
   |1,_=>exact hpa) zd hdc
 have HBB:=zq hbb;have HDw:=zq hd;have HUw:=zq hu;have p0:=HP.o.c 0 rfl;have p1:=HP.o.lt;clear hr hu hd hba hbb hb0
 go_enter Tryz.func8,Tryz.ntmps8;(go_upto_region 1 with fail);rw[<-hW0,<-hW];clear hW0 hW hs0;(iterate 2 go_step);refine eX _ _ zk w.heap.size 0 zk (tiC RA rc rs UA uc us DA dc ds).toList _ (rangeB HX.o) Tryz.underlying26 rfl zb ?_;(go_wp2_with fail);(with_reducible refine HOP.o.mono ?_);rintro e w1⟨P,rfl,hb1,hp0,hp1⟩;have HB1:=zq (zAa HBB.o hb1);have HPX:=zq (HP1.o.below hb1);have HP0:=zq hp0;have HPP:=zq hp1;clear hb1 hp0 hp1 HOP HX HX0 HB HB0 HBB HP HP1 p0 p1
 by_cases hc:zBQ rs us ds=0
 case neg =>
  have hof:openF rs us ds [th,party]=zBQ rs us ds:=by unfold openF;rw[aD hc]
  have hcb:(zBQ rs us ds != 0)=true:=by simpa using hc
  have HCN:=zq hc;rw[hof];clear hc hof HP0 HPP;go_wp2;go_ret2
  exact⟨_,[],_,rfl,zAs.nil _ _ _ _ _,fun _ h=>(eZ h).elim,HB1.o,.inl ⟨HCN.o,rfl,rfl⟩⟩
 cases hnm:zBi th&&zBi party with
 |false =>
  have hof:openF rs us ds [th,party]=5:=by
   exact tcc
  have HCN:=zq hc;have HNN:=zq hnm;rw[hof];clear hc hof HP0 HPP hnm;go_wp2;go_ret2
  exact⟨_,[],_,rfl,zAs.nil _ _ _ _ _,fun _ h=>(eZ h).elim,HB1.o,.inr (.inl ⟨HCN.o,HNN.o,rfl,rfl⟩)⟩
 |true =>
  have hof:openF rs us ds [th,party]=0:=by
   exact tcd
  have HC:=zq hc;have HNM:=zq hnm;rw[hof];obtain⟨L,rfl,hlg⟩:=HPP.o hof
  have HH:=zq (holdings_c 33 (enters_of Tryz.func33 zb rfl) #[.pointer (some ⟨w.heap.size+1,0,none⟩)] (fun F=>F party) RA rc rs UA uc us DA dc ds L th w1 hlg (HUw.o.below HB1.o) (HDw.o.below HB1.o) hc hdc
   (fun use day i=>gq_party hc th party use day i) (fun use day i u ga hu hp=>hold1_c ga (w.heap.size+1) _ party u hp (HPX.o.below hu)))
  clear hc hnm hof HP0 HPP hlg;(go_wp2_with fail);(with_reducible refine HH.o.mono ?_);rintro e w2⟨v,hs,f,rfl,how,har,hb2,hres⟩;have HO:=zq how;have HA:=zq har;have HB2:=zq (zAa HB1.o hb2);have HRES:=zq hres;have hsz:=HB1.o.size;clear how har hb2 hres HH;go_wp2;go_ret2
  exact⟨v,hs,f,rfl,zCE HO.o hsz,fun h hh=>zCE (HA.o h hh) hsz,HB2.o,.inr (.inr ⟨HC.o,HNM.o,HRES.o⟩)⟩
end Go.Proofs.YtbbchlpccgkikaaGreatDoor
namespace Go.Proofs.YtbbchlpccgkikaaGreatDoor
open Dw
section
variable {rs:List Rg} {us:List BA} {ds:List De} {i j k:Nat} {th use:BA} {day:Int} {d:De}
theorem toP_le:toP ds d<=d.en:=by
 unfold toP
 split
 ·exact Int.min_le_left _ _
 ·exact Int.le_refl _
end
theorem chkD_gift{rs:List Rg}{us:List BA}{pre:List De}{d:De}(h:chkD rs us pre d=0)(hg:zAl d.kd=true):0<=d.bg/\d.bg<d.en/\d.en<=200000/\∀u∈d.us,u∈us:=by
 unfold chkD at h
 split at h
 ·cases h
 split at h
 ·cases h
 split at h
 ·cases h
 split at h
 ·cases h
 split at h
 ·cases h
 split at h
 ·cases h
 unfold giftF at h
 split at h
 ·cases h
 split at h
 ·cases h
 split at h
 ·next h1=>exact absurd h h1
 split at h
 ·next h1=>exact absurd h h1
 split at h
 ·cases h
 split at h
 ·next h1=>exact absurd h h1
 next hu =>
 split at h
 ·cases h
 next hd =>
 split at h
 ·cases h
 next he =>
 have hd1:zCF d.bg=true:=by
  cases hq:zCF d.bg with
  |true=>rfl
  |false=>exact absurd (.inl hq) hd
 have hd2:zCF d.en=true:=by
  cases hq:zCF d.en with
  |true=>rfl
  |false=>exact absurd (.inr hq) hd
 unfold zCF at hd1 hd2;simp only[dN,bG]at hd1 hd2;refine⟨hd1.1,za,hd2.2,fun u hm=>?_⟩;have hu:useF us d.us=0:=eR hu;obtain⟨j,hj,rfl⟩:=dO hm;unfold useF at hu
 have key:zBd us d.us j≠none->False:=fun hne=>by
  cases hf:(List.range d.us.length).findSome? (zBd us d.us)with
  |some f =>
   rw[hf]at hu;obtain⟨q,_,hq⟩:=List.exists_of_findSome?_eq_some hf;unfold zBd at hq;simp only at hu
   split at hq
   ·injection hq with hq;omega
   split at hq
   ·injection hq with hq;omega
   ·cases hq
  |none =>
   rw[List.findSome?_eq_none_iff]at hf;exact hne (hf j (List.mem_range.2 hj))
 cases hq:memS us (d.us[j])with
 |true=>exact zBz.1 hq
 |false =>
  refine(key fun hn=>?_).elim;unfold zBd at hn;have e:usAt d.us j=d.us[j]:=by unfold usAt;rw[List.getD_eq_getElem?_getD,List.getElem?_eq_getElem hj];rfl
  rw[e,aD hq]at hn
  cases hn
theorem title_gift{rs:List Rg}{us:List BA}{ds:List De}(h:zBQ rs us ds=0):∀d∈ds,zAl d.kd=true->0<=d.bg/\d.bg<d.en/\d.en<=200000/\∀u∈d.us,u∈us:=fun d hd hg=>by
 obtain⟨k,hk,rfl⟩:=dO hd;exact chkD_gift ((zAT h).2 k hk) hg
section
variable {rs:List Rg} {us:List BA} {ds:List De} {i k:Nat}
end
open Go.RowKit Dw
def GivesS2(r:List BA×Int)(w:World)(e:Ending)(w':World):Prop:=
 ∃A c,e=.returned (.tuple #[.slice A r.1.length c,.int .i64 r.2])/\Strs w' A r.1/\Below w.heap.size w w'
theorem GivesS2.err{r:List BA×Int}{w w':World}{f:Int}(hr:r=([],f))(hw:Below w.heap.size w w'):GivesS2 r w (.returned (.tuple #[.slice none 0 0,.int .i64 f])) w':=by
 subst hr;exact⟨none,0,rfl,Rd1.nil,hw⟩
theorem GivesS2.ok{r:List BA×Int}{l:List BA}{w w':World}{f:Int}{A:Option Addr}{c:Nat}(hr:r=(l,f))(hl:Strs w' A l)(hw:Below w.heap.size w w'):GivesS2 r w (.returned (.tuple #[.slice A l.length c,.int .i64 f])) w':=by
 subst hr;exact⟨A,c,rfl,hl,hw⟩
def pick(l:List Rg)(p:Nat->Bool):List BA:=((zAf l).filter p).map (zCg l)
theorem all_congr{α:Type}{p q:α->Bool}{l:List α}(h:∀x∈l,p x=q x):l.all p=l.all q:=by
 induction l with
 |nil=>rfl
 |cons a t ih=>rw[List.all_cons,List.all_cons,h a zd,ih (fun x hx=>h x (by simp[hx]))]
theorem plainOf_congr{l:List Rg}{p q:Nat->Bool}(h:∀i∈zAf l,p i=q i):zAN l p=zAN l q:=by
 have hf:∀k,fullP l p k=fullP l q k:=fun k=>all_congr fun i hi=>by rw[h i hi]
 have ht:∀k,zAE l p k=zAE l q k:=fun k=>by
  unfold zAE;rw[hf k]
  cases up l k with
  |none=>rfl
  |some j=>simp[hf j]
 unfold zAN
 congr 1
 exact List.filter_congr fun k _=>ht k
section
variable {l:List Rg} {S:Nat→Bool}
theorem mem_plainOf{x:Ar}(h:x∈zAN l S):∃j,j<l.length/\zAE l S j=true/\x=⟨zCg l j,false⟩:=by
 unfold zAN at h;obtain⟨j,hj,rfl⟩:=List.mem_map.1 h;obtain⟨h1,h2⟩:=List.mem_filter.1 hj;exact⟨j,List.mem_range.1 h1,h2,rfl⟩
theorem findA_plain(g:GoodR l){i:Nat}(hi:i<l.length):findA (zAN l S) (zCg l i)=if zAE l S i=true then some ⟨zCg l i,false⟩ else none:=by
 unfold findA
 by_cases hp:zAE l S i=true
 ·rw[aD hp]
  have hm:(⟨zCg l i,false⟩:Ar)∈zAN l S:=List.mem_map.2 ⟨i,List.mem_filter.2 ⟨List.mem_range.2 hi,hp⟩,rfl⟩
  cases hf:(zAN l S).find? (fun x=>decide (x.rg=zCg l i))with
  |none =>
   have:=List.find?_eq_none.1 hf _ hm;simp at this
  |some x =>
   have h1:=List.find?_some hf;obtain⟨j,_,_,rfl⟩:=mem_plainOf (List.mem_of_find?_eq_some hf);have h2:zCg l j=zCg l i:=qc;rw[h2]
 ·rw[aW hp,List.find?_eq_none]
  intro x hx;obtain⟨j,hj,hpj,rfl⟩:=mem_plainOf hx
  have hne:zCg l j≠zCg l i:=fun e=>by
   rw[zAH hj,zAH hi]at e;rw[g.nm_inj hj hi e]at hpj;exact hp hpj
  simpa using hne
theorem lies_top(g:GoodR l):∀{f i:Nat},i<l.length->liesF l (zAN l S) f i=true->∃k,zBH l f i k=true/\zAE l S k=true
 |0,_,_,h=>by simp[liesF]at h
 |f+1,i,hi,h=>by
  rw[liesF,findA_plain g hi]at h
  by_cases hp:zAE l S i=true
  ·exact⟨i,by simp[zBH],hp⟩
  ·rw[aW hp]at h
   cases hu:up l i with
   |none=>rw[hu]at h;cases h
   |some j =>
    rw[hu]at h;obtain⟨k,h1,h2⟩:=lies_top g (up_lt hu).2 h;exact⟨k,by rw[zBH,hu];simp[h1],h2⟩
theorem lies_of_full(g:GoodR l):∀{f i:Nat},i<l.length->upN l f i=none->fullP l S i=true->liesF l (zAN l S) f i=true
 |0,_,_,hu,_=>by simp[upN]at hu
 |f+1,i,hi,hu,hf=>by
  rw[liesF,findA_plain g hi]
  by_cases hp:zAE l S i=true
  ·rw[aD hp];rfl
  ·rw[aW hp]
   unfold zAE at hp;rw[hf]at hp;rw[upN]at hu
   cases hup:up l i with
   |none=>rw[hup]at hp;simp at hp
   |some j =>
    rw[hup]at hp hu;exact lies_of_full g (up_lt hup).2 hu (by simpa using hp)
theorem leaf_lt{i:Nat}(h:i∈zAf l):i<l.length/\zAB l i=false:=by
 unfold zAf at h;obtain⟨h1,h2⟩:=List.mem_filter.1 h;exact⟨List.mem_range.1 h1,by simpa using h2⟩
theorem upN_last:∀{d i k:Nat},upN l (d+1) i=some k->∃x,up l x=some k
 |0,i,k,h=>by
  rw[upN]at h
  cases hu:up l i with
  |none=>rw[hu]at h;cases h
  |some j =>
   rw[hu]at h;have:j=k:=by simpa[upN]using h
   subst this;exact⟨i,hu⟩
 |d+1,i,k,h=>by
  rw[upN]at h
  cases hu:up l i with
  |none=>rw[hu]at h;cases h
  |some j=>rw[hu]at h;exact upN_last h
theorem leaf_under(g:GoodR l){i i':Nat}(hi:i∈zAf l)(h:under l i' i=true):i'=i:=by
 obtain⟨d,hd⟩:=underF_upN h
 cases d with
 |zero=>simpa[upN]using hd
 |succ d =>
  obtain⟨x,hx⟩:=upN_last hd;have hl:=leaf_lt hi;have:=parK_isPar g hl.1;rw[hl.2]at this;have h2:parK l l.length i=true:=List.any_eq_true.2 ⟨x,List.mem_range.2 (up_lt hx).1,by simp[hx]⟩;rw[h2]at this
  cases this
theorem lies_plain(g:GoodR l){i:Nat}(hi:i∈zAf l):lies l (zAN l S) i=S i:=by
 have hl:=(leaf_lt hi).1;rw[bD]
 constructor
 ·intro h
  obtain⟨k,h1,h2⟩:=lies_top g hl h;unfold zAE at h2
  have hf:fullP l S k=true:=by
   cases hq:fullP l S k with
   |true=>rfl
   |false=>rw[hq]at h2;simp at h2
  have:=List.all_eq_true.1 hf i hi;have hu:under l i k=true:=h1
  simpa[hu]using this
 ·intro h
  refine lies_of_full g hl (g.ends i hl) ?_;refine List.all_eq_true.2 fun i' hi'=>?_
  cases hu:under l i' i with
  |false=>rfl
  |true =>
   rw[leaf_under g hi hu,h]
   rfl
theorem sleF_of_slt{a b:BA}(h:slt a b=true):sle b a=false:=by
 unfold slt at h;unfold sle;rw[zBV]at h ⊢;have h1:a.toList<b.toList:=zr;have h2:¬b.toList<a.toList:=fun h2=>List.lt_irrefl _ (List.lt_trans h1 h2)
 have h3:b.toList≠a.toList:=fun e=>by rw[e]at h1;exact List.lt_irrefl _ h1
 simp[h2,h3]
theorem chkA_plain(g:GoodR l)(hn:(zAN l S).length<=100):zCX l (zAN l S)=0:=by
 unfold zCX;rw[aW za]
 have hnone:(List.range (zAN l S).length).findSome? (zBw l (zAN l S))=none:=by
  rw[List.findSome?_eq_none_iff];intro k hk;have hk':=List.mem_range.1 hk;obtain⟨F,hF⟩:∃F,F=(List.range l.length).filter (zAE l S):=⟨_,rfl⟩;have hp:zAN l S=F.map fun i=>⟨zCg l i,false⟩:=by rw[hF];rfl
  have hlen:(zAN l S).length=F.length:=by rw[hp,dE]
  have hat:∀t,(ht:t<F.length)->rgAt (zAN l S) t=zCg l F[t]:=fun t ht=>by
   rw[rgAt_of za];simp[hp]
  have hlt:∀t,(ht:t<F.length)->F[t]<l.length:=fun t ht=>by
   have hm:∀x∈F,x<l.length:=fun x hx=>by
    rw[hF]at hx;exact List.mem_range.1 (List.mem_filter.1 hx).1
   exact hm _ (bI ht)
  have hsort:F.Pairwise (· < ·):=by rw[hF];exact List.pairwise_lt_range.filter _
  unfold zBw;rw[hat k za,zAH (hlt k za),g.inc.idx (hlt k za),aW zd];rw[aW];rintro⟨h0,hle⟩;rw[hat (k-1) za,zAH (hlt (k-1) za)]at hle;have hs:=List.pairwise_iff_getElem.1 hsort (k-1) k za za za;obtain⟨d,hd⟩:∃d,F[k]'(by omega)=F[k-1]'(by omega)+d+1:=⟨F[k]'(by omega)-F[k-1]'(by omega)-1,za⟩;have hinc:=g.inc.lt d (F[k-1]'(by omega)) (by rw[<-hd];exact hlt k za)
  have:slt (l[F[k-1]'(by omega)]'(hlt _ za)).nm (l[F[k]'(by omega)]'(hlt _ za)).nm=true:=by
   simpa only[hd]using hinc
  rw[sleF_of_slt this]at hle
  cases hle
 rw[hnone]
end
end Go.Proofs.YtbbchlpccgkikaaGreatDoor
namespace Dw
theorem walkD_congr{α β:Type}[DecidableEq α]{row row2:Int->Int->α->List β}{end_:Int}{f:Int->α}:∀(l:List (Int×α))(a0:α)(b0:Int),(∀x∈l,x.2=f x.1)->a0=f b0 -> (∀b e,(b=b0\/∃x∈l,b=x.1)->row b e (f b)=row2 b e (f b))->zCh row end_ a0 b0 l=zCh row2 end_ a0 b0 l
 |[],a0,b0,_,ha,h=>by unfold zCh;rw[ha];exact h b0 _ (.inl rfl)
 |(d,a)::l,a0,b0,hl,ha,h=>by
  have hd:a=f d:=hl (d,a) bN;have hl2:∀x∈l,x.2=f x.1:=fun x hx=>hl x (bM _ hx)
  have h1:=walkD_congr (row:=row) (row2:=row2) (end_:=end_) l a0 b0 hl2 ha (fun b e hb=>h b e (by
   rcases hb with hb|⟨x,hx,hb⟩
   ·exact .inl hb
   ·exact .inr ⟨x,bM _ hx,hb⟩))
  have h2:=walkD_congr (row:=row) (row2:=row2) (end_:=end_) l a d hl2 hd (fun b e hb=>h b e (.inr (by
   rcases hb with hb|⟨x,hx,hb⟩
   ·exact⟨(d,a),bN,hb⟩
   ·exact⟨x,bM _ hx,hb⟩)))
  have h3:row b0 d a0=row2 b0 d a0:=by rw[ha];exact h b0 d (.inl rfl)
  unfold zCh;rw[h1,h2,h3]
theorem walkD_mapR{α β γ:Type}[DecidableEq α]{row:Int->Int->α->List β}{end_:Int}(g:β->γ):∀(l:List (Int×α))(a0:α)(b0:Int), zCh (fun b e a=>(row b e a).map g) end_ a0 b0 l=(zCh row end_ a0 b0 l).map g
 |[],_,_=>rfl
 |(d,a)::l,a0,b0=>by
  unfold zCh
  split
  ·exact walkD_mapR g l a0 b0
  ·rw[aA,walkD_mapR g l a d]
end Dw
namespace Go.Proofs.YtbbchlpccgkikaaGreatDoor
open Go.RowKit Dw
theorem chkD_div{rs:List Rg}{us:List BA}{pre:List De}{d:De}(h:chkD rs us pre d=0)(hg:zAl d.kd=false):0<=d.bg/\d.bg<=200000:=by
 unfold chkD at h
 split at h
 ·cases h
 split at h
 ·cases h
 split at h
 ·cases h
 split at h
 ·cases h
 split at h
 ·cases h
 split at h
 ·cases h
 rw[aW (by rw[hg];simp)]at h
 have key:zCF d.bg=true:=by
  cases hb:zCF d.bg with
  |true=>rfl
  |false =>
   split at h
   ·unfold endF at h
    rw[aD hb]at h;cases h
   ·unfold divF at h
    split at h
    ·cases h
    ·first|cases h|(rw[aD hb]at h;cases h)
 exact dayB_iff.1 key
theorem edge_day{rs:List Rg}{us:List BA}{ds:List De}{th:BA}(hc:zBQ rs us ds=0){x:Int}(h:edgeB th ds x=true):0<=x/\x<=200000:=by
 unfold edgeB at h;rw[eH]at h;obtain⟨d,hd,h⟩:=h;rw[dN,eH]at h;obtain⟨_,n,hn,e⟩:=h;have e:=eU e;subst e;unfold edgeL at hn
 split at hn
 ·next hg =>
  obtain⟨h1,h2,h3,_⟩:=title_gift hc d hd hg;have ht:=@toP_le ds d;unfold zBL at hn;rw[aD hg]at hn;unfold cutR at hn
  split at hn
  ·have:n=0:=by simpa using hn
   omega
  ·rcases List.mem_cons.1 hn with e|hn
   ·simp only at e;omega
   ·have:=List.mem_singleton.1 hn
    simp only at this;omega
 ·next hg =>
  obtain⟨k,hk,rfl⟩:=dO hd;rw[List.mem_singleton.1 hn];exact chkD_div ((zAT hc).2 k hk) (by simpa using hg)
theorem edges_split{rs:List Rg}{us:List BA}{ds:List De}{th:BA}(hc:zBQ rs us ds=0){E:List Int}(hs:E.Pairwise (· < ·))(hm:∀x,x∈E↔x∈edL th ds ds.length): ∃D,E=0::(D++[200001])/\D.Pairwise (· < ·)/\(∀y∈D,0<y/\y<200001)/\∀y,0<y->y<200001->y∉D->edgeB th ds y=false:=by
 have hr:∀x∈E,0<=x/\x<=200001:=fun x hx=>by
  rcases edL_mem.1 ((hm x).1 hx)with h|h|h
  ·omega
  ·omega
  ·have:=edge_day hc h;omega
 have h0:(0:Int)∈E:=(hm 0).2 (edL_mem.2 (.inl rfl));have h1:(200001:Int)∈E:=(hm _).2 (edL_mem.2 (.inr (.inl rfl)))
 cases E with
 |nil=>exact absurd h0 eZ
 |cons a E =>
  rw[eN]at hs
  have ha:a=0:=by
   rcases List.mem_cons.1 h0 with h|h
   ·exact h.symm
   ·have:=hs.1 _ h;have:=(hr a bN).1;omega
  subst ha
  have h1':(200001:Int)∈E:=by
   rcases List.mem_cons.1 h1 with h|h
   ·cases h
   ·exact h
  rcases List.eq_nil_or_concat E with h|⟨D,b,h⟩
  ·rw[h]at h1';exact absurd h1' eZ
  ·rw[List.concat_eq_append]at h
   subst h;have hp:=List.pairwise_append.1 hs.2
   have hb:b=200001:=by
    rcases List.mem_append.1 h1' with h|h
    ·have:=hp.2.2 _ h b (List.mem_singleton.2 rfl)
     have:=(hr b zd).2;omega
    ·exact(List.mem_singleton.1 h).symm
   subst hb;refine⟨D,rfl,hp.1,fun y hy=>⟨hs.1 y (List.mem_append_left _ hy),hp.2.2 y hy _ (List.mem_singleton.2 rfl)⟩,fun y y0 y1 hy=>?_⟩
   cases he:edgeB th ds y with
   |false=>rfl
   |true =>
    have:=(hm y).2 (edL_mem.2 (.inr (.inr he)))
    rcases List.mem_cons.1 this with h|h
    ·omega
    ·rcases List.mem_append.1 h with h|h
     ·exact absurd h hy
     ·have:=List.mem_singleton.1 h;omega
def clsOf(rs:List Rg)(ds:List De)(th:BA)(H:List Nat)(i:Nat):Nat:=H.findIdx fun h=>decide (sgL rs th (lfI rs h) ds=sgL rs th i ds)
theorem cls_spec{rs:List Rg}{ds:List De}{th:BA}{H:List Nat}{n:Nat}(h:∃h∈H,sgL rs th (lfI rs h) ds=sgL rs th (lfI rs n) ds): ∃hk:clsOf rs ds th H (lfI rs n)<H.length,sgL rs th (lfI rs H[clsOf rs ds th H (lfI rs n)]) ds=sgL rs th (lfI rs n) ds:=by
 have hk:clsOf rs ds th H (lfI rs n)<H.length:=by
  obtain⟨x,hx,e⟩:=h;exact List.findIdx_lt_length_of_exists ⟨x,hx,aT e⟩
 refine⟨hk,?_⟩
 have:=List.findIdx_getElem (w:=hk);exact eU this
section
variable {gq:zAV→Rat} {rs:List Rg} {us:List BA} {ds:List De} {th:BA} {H:List Nat} {E D:List Int}
def toPH(rs:List Rg)(c:Nat->Nat)(r:HRow):PH:=(r.us,r.bg,r.en,zAN rs (fun i=>r.at_ (c i)),zCT r.pt.num.natAbs,zCT r.pt.den)
theorem lfI_at{i:Nat}(h:i∈zAf rs):∃n,n<(zAf rs).length/\lfI rs n=i:=by
 obtain⟨n,hn,e⟩:=dO h;exact⟨n,hn,by unfold lfI;rw[List.getD_eq_getElem?_getD,List.getElem?_eq_getElem hn];exact e⟩
theorem now_at(hcov:∀n,n<(zAf rs).length->∃h∈H,sgL rs th (lfI rs h) ds=sgL rs th (lfI rs n) ds){i:Nat}(hi:i∈zAf rs){u:BA}{d:Int}(hd:d<=200000): (nowL (gP gq rs ds th) rs H u d)[clsOf rs ds th H i]?=some (gP gq rs ds th u d i):=by
 obtain⟨n,hn,rfl⟩:=lfI_at hi;obtain⟨hk,e⟩:=cls_spec (hcov n hn);unfold nowL;rw[aW za,List.getElem?_map,List.getElem?_eq_getElem hk];show some (gP gq rs ds th u d _)=_
 unfold gP;rw[parts_sg e]
theorem row_cls(hcov:∀n,n<(zAf rs).length->∃h∈H,sgL rs th (lfI rs h) ds=sgL rs th (lfI rs n) ds){u:BA}{b e:Int}(hb:b<=200000): rowsF rs u b e (gP gq rs ds th u b) (posL (nowL (gP gq rs ds th) rs H u b))=(rowF u b e (nowL (gP gq rs ds th) rs H u b)).map (toPH rs (clsOf rs ds th H)):=by
 unfold rowsF rowF;rw[List.map_map];refine List.map_congr_left fun x _=>?_
 show _=(u,b,e,zAN rs _,zCT x.num.natAbs,zCT x.den)
 congr 4
 exact plainOf_congr fun i hi=>by
  show decide (gP gq rs ds th u b i=x)=decide ((nowL (gP gq rs ds th) rs H u b)[clsOf rs ds th H i]?=some x)
  rw[now_at hcov hi hb];simp
theorem tot_hold(hcov:∀n,n<(zAf rs).length->∃h∈H,sgL rs th (lfI rs h) ds=sgL rs th (lfI rs n) ds)(hE:E=0::(D++[200001]))(hD:∀y∈D,0<y/\y<200001): totR (gP gq rs ds th) rs H E us=(holdF us (nowL (gP gq rs ds th) rs H) D).map (toPH rs (clsOf rs ds th H)):=by
 have one:∀u R,(useR (gP gq rs ds th) rs H E u R).2.2=R++(zCh (rowF u) 200001 (nowL (gP gq rs ds th) rs H u 0) 0 (D.map fun d=>(d,nowL (gP gq rs ds th) rs H u d))).map (toPH rs (clsOf rs ds th H)):=by
  intro u R;have hlast:nowL (gP gq rs ds th) rs H u 200001=[]:=aD zc;unfold useR
  rw[hE,dZ,aA,List.map_singleton,hlast,
   foldP_use (row:=fun b e nums=>rowsF rs u b e (gP gq rs ds th u b) (posL nums)) (fun _ _=>rfl) (D.map fun d=>(d,nowL (gP gq rs ds th) rs H u d)) _ R,<-walkD_mapR]
  congr 1
  refine walkD_congr (f:=nowL (gP gq rs ds th) rs H u) _ _ _ (fun x hx=>by obtain⟨y,_,rfl⟩:=List.mem_map.1 hx;rfl) rfl fun b e hb=>?_
  refine row_cls hcov ?_
  rcases hb with rfl|⟨x,hx,rfl⟩
  ·decide
  ·obtain⟨y,hy,rfl⟩:=List.mem_map.1 hx
   have:=hD y hy;show y<=200000
   omega
 have all:∀(l:List BA)(R:List PH),l.foldl (fun R u=>(useR (gP gq rs ds th) rs H E u R).2.2) R=R++(holdF l (nowL (gP gq rs ds th) rs H) D).map (toPH rs (clsOf rs ds th H)):=by
  intro l
  induction l with
  |nil=>intro R;simp[holdF]
  |cons u l ih =>
   intro R;rw[cO,ih,one];unfold holdF;rw[bK,aA,List.append_assoc]
 have:=all us [];rw[List.nil_append]at this;exact this
def mtB(rs:List Rg)(use:BA)(day:Int)(pl:BA)(r:PH):Bool:=decide (r.1=use)&&decide (r.2.1<=day/\day<r.2.2.1)&&memS (zAW rs r.2.2.2.1) pl
theorem mem_leavesOf(g:GoodR rs){a:List Ar}{i:Nat}(hi:i∈zAf rs):zCg rs i∈zAW rs a↔lies rs a i=true:=by
 unfold zAW;rw[List.mem_map]
 constructor
 ·rintro⟨j,hj,e⟩
  obtain⟨h1,h2⟩:=List.mem_filter.1 hj;have:j=i:=g.nm_inj (leaf_lt h1).1 (leaf_lt hi).1 (by rw[<-zAH,<-zAH];exact e);rw[<-this];exact h2
 ·exact fun h=>⟨i,List.mem_filter.2 ⟨hi,h⟩,rfl⟩
theorem held_at(g:GoodR rs)(hcov:∀n,n<(zAf rs).length->∃h∈H,sgL rs th (lfI rs h) ds=sgL rs th (lfI rs n) ds)(hE:E=0::(D++[200001]))(hp:D.Pairwise (· < ·))(hD:∀y∈D,0<y/\y<200001)(hDe:∀y,0<y->y<200001->y∉D->edgeB th ds y=false)(hn:us.Nodup){use:BA}(hu:use∈us){day:Int}(h0:0<=day)(h1:day<=200000){i:Nat}(hi:i∈zAf rs): ((totR (gP gq rs ds th) rs H E us).filter (mtB rs use day (zCg rs i))).map (fun r=>(r.2.2.2.2.1,r.2.2.2.2.2))=if 0<gP gq rs ds th use day i then [outQ (gP gq rs ds th use day i)] else []:=by
 have hf:∀y,0<y->y<200001->y∉D->nowL (gP gq rs ds th) rs H use y=nowL (gP gq rs ds th) rs H use (y-1):=fun y y0 y1 hy=>by
  unfold nowL;rw[aW za,aW za];refine List.map_congr_left fun h _=>?_
  unfold gP;rw[<-(same_edge (rs:=rs) (i:=lfI rs h) (use:=use) (hDe y y0 y1 hy)).parts]
 have key:=hold_at (k:=clsOf rs ds th H i) hn hu hp (fun y hy=>(hD y hy).1) h0 za hf (now_at hcov hi h1);rw[tot_hold hcov hE hD,List.filter_map,List.map_map]
 have e:(mtB rs use day (zCg rs i)) ∘ (toPH rs (clsOf rs ds th H))=fun r=>decide (r.us=use)&&decide (r.bg<=day/\day<r.en)&&r.at_ (clsOf rs ds th H i):=by
  funext r
  show(decide (r.us=use)&&decide (r.bg<=day/\day<r.en)&&memS (zAW rs (zAN rs fun i=>r.at_ (clsOf rs ds th H i))) (zCg rs i))=_
  congr 1
  rw[bD,zBz,mem_leavesOf g hi,lies_plain g hi]
 rw[e];have e2:((fun r:PH=>(r.2.2.2.2.1,r.2.2.2.2.2)) ∘ (toPH rs (clsOf rs ds th H)))=outQ ∘ HRow.pt:=rfl;rw[e2,<-List.map_map,key]
 split<;>rfl
end
theorem uses_nodup{rs:List Rg}{us:List BA}{ds:List De}(h:zBQ rs us ds=0):us.Nodup:=by
 unfold zBQ at h
 split at h
 ·next h1=>exact absurd h h1
 split at h
 ·cases h
 split at h
 ·cases h
 split at h
 ·next f hf =>
  exact ta5
 ·next hf =>
  have hn:=List.findSome?_eq_none_iff.1 hf
  have:=inc_pair (l:=us) (fun i hi=>by
   have h1:=hn (i+1) (List.mem_range.2 hi);unfold zBB at h1
   split at h1
   ·cases h1
   ·split at h1
    ·cases h1
    ·next h2 =>
     have h3:sle (usAt us (i+1)) (usAt us (i+1-1))=false:=by
      cases hs:sle (usAt us (i+1)) (usAt us (i+1-1))with
      |false=>rfl
      |true=>exact absurd ⟨Nat.succ_pos _,hs⟩ h2
     have e1:usAt us (i+1)=us[i+1]:=by unfold usAt;rw[List.getD_eq_getElem?_getD,List.getElem?_eq_getElem hi];rfl
     have e2:usAt us (i+1-1)=us[i]:=by unfold usAt;rw[Nat.add_sub_cancel,List.getD_eq_getElem?_getD,List.getElem?_eq_getElem za];rfl
     rw[e1,e2]at h3;exact zBq h3)
  exact this.imp fun h=>zCc h
def z01:BA×BA:=(⟨#[48]⟩,⟨#[49]⟩)
def hasF(p:BA)(l:List Sh):BA×BA:=l.foldl (fun acc s=>if s.pt=p then (s.nu,s.de) else acc) z01
theorem hasF_succ{p:BA}{l:List Sh}{k:Nat}(h:k<l.length):hasF p (l.take (k+1))=if l[k].pt=p then (l[k].nu,l[k].de) else hasF p (l.take k):=by
 unfold hasF;rw[bA h,bB];rfl
theorem has_go(p:BA)(f:zAV):∀(K:List BA)(acc:BA×BA),((pairs K f).map shO).foldl (fun acc s=>if s.pt=p then (s.nu,s.de) else acc) acc=if memS K p=true then outQ (f p) else acc
 |[],acc=>rfl
 |q::K,acc=>by
  show((pairs K f).map shO).foldl _ (if q=p then ((outQ (f q)).1,(outQ (f q)).2) else acc)=_
  rw[has_go p f K]
  by_cases h:p∈K
  ·rw[aD (zBz.2 h),aD (zBz.2 (bM _ h))]
  ·rw[aW (fun hm=>h (zBz.1 hm))]
   by_cases e:q=p
   ·subst e
    rw[aD rfl,aD (zBz.2 bN)]
   ·rw[aW e,aW]
    intro hm
    rcases List.mem_cons.1 (zBz.1 hm)with h1|h1
    ·exact e h1.symm
    ·exact h h1
theorem has_pairs{K:List BA}{f:zAV}(h:HoldOk K f)(p:BA):hasF p ((pairs (holL K f) f).map shO)=if 0<f p then outQ (f p) else z01:=by
 unfold hasF;rw[has_go]
 by_cases e:f p=0
 ·rw[aW (fun hm=>(holL_mem h).1 (zBz.1 hm) e),e,aW zc]
 ·rw[aD (zBz.2 ((holL_mem h).2 e)),aD (Std.lt_of_le_of_ne (h.pos p) fun e2=>e e2.symm)]
def heldF(rs:List Rg)(use:BA)(day:Int)(pl:BA)(l:List PH):BA×BA:=l.foldl (fun acc r=>if mtB rs use day pl r=true then (r.2.2.2.2.1,r.2.2.2.2.2) else acc) z01
theorem heldF_succ{rs:List Rg}{use pl:BA}{day:Int}{l:List PH}{k:Nat}(h:k<l.length):heldF rs use day pl (l.take (k+1))=if mtB rs use day pl l[k]=true then (l[k].2.2.2.2.1,l[k].2.2.2.2.2) else heldF rs use day pl (l.take k):=by
 unfold heldF;rw[bA h,bB];rfl
theorem held_go{rs:List Rg}{use pl:BA}{day:Int}:∀(l:List PH)(acc:BA×BA), l.foldl (fun acc r=>if mtB rs use day pl r=true then (r.2.2.2.2.1,r.2.2.2.2.2) else acc) acc=((l.filter (mtB rs use day pl)).map fun r=>(r.2.2.2.2.1,r.2.2.2.2.2)).foldl (fun _ x=>x) acc
 |[],acc=>rfl
 |r::l,acc=>by
  rw[cO,held_go l]
  cases h:mtB rs use day pl r with
  |true=>rw[aD rfl,List.filter_cons_of_pos h];rfl
  |false=>rw[aW zd,List.filter_cons_of_neg (by simp[h])]
theorem held_fst{rs:List Rg}{use pl:BA}{day:Int}{l:List PH}{o:Option (BA×BA)}(h:((l.filter (mtB rs use day pl)).map fun r=>(r.2.2.2.2.1,r.2.2.2.2.2))=o.toList){k:Nat}(hk:k<l.length)(hm:mtB rs use day pl l[k]=true):
  heldF rs use day pl (l.take k)=z01:=by
 have hl:(l.filter (mtB rs use day pl)).length<=1:=by
  have:=bX List.length h;rw[dE]at this;rw[this]
  cases o<;>simp
 have he:l=l.take k++l[k]::l.drop (k+1):=by rw[<-bF hk,cM]
 rw[he,dQ,List.filter_cons_of_pos hm,dI,bP]at hl;have h0:(l.take k).filter (mtB rs use day pl)=[]:=dJ za;unfold heldF;rw[held_go,h0];rfl
theorem held_all{rs:List Rg}{use pl:BA}{day:Int}{l:List PH}{q:Rat}(h:((l.filter (mtB rs use day pl)).map fun r=>(r.2.2.2.2.1,r.2.2.2.2.2))=if 0<q then [outQ q] else []):heldF rs use day pl l=if 0<q then outQ q else z01:=by
 unfold heldF;rw[held_go,h]
 split<;>rfl
theorem hold_law{rs:List Rg}{us:List BA}{ds:List De}{th party pl use:BA}{day:Int}{R:List PH}(hc:zBQ rs us ds=0)(hn:zBi th=true)(hr:HdRes (fun F=>F party) rs us ds th R 0)(hs:(zBs rs us ds th pl use day).2=0):
  (∀r∈R,∃S,r.2.2.2.1=zAN rs S)/\R.length<=2000/\heldF rs use day pl R=hasF party ((zBs rs us ds th pl use day).1.map shO)/\∀k (h:k<R.length),mtB rs use day pl R[k]=true->heldF rs use day pl (R.take k)=z01:=by
 obtain⟨E,H,hE1,hE2,_,hcov,hres⟩:=hr
 rcases hres with ⟨_,_,rfl,hlen⟩|⟨h,_⟩
 case inr=>cases h
 obtain⟨D,hE,hD1,hD2,hD3⟩:=edges_split hc hE1 hE2
 by_cases sa:zCU rs us pl use day=0
 case neg=>rw[srF_sp hc hn sa]at hs;exact absurd hs sa
 have hat:=srF_at hc hn sa
 have hlong:zBN rs ds ((idx rs pl).getD 0) th use day ds.length=false:=by
  cases hl:zBN rs ds ((idx rs pl).getD 0) th use day ds.length with
  |false=>rfl
  |true=>rw[hat,aD hl]at hs;cases hs
 rw[aW (by rw[hlong];simp)]at hat;obtain⟨hcr,_,_⟩:=zBM hc;have g:=zDt hcr;unfold zCU at sa
 cases hlu:leafB rs pl&&memS us use with
 |false=>rw[hlu]at sa;simp at sa
 |true =>
  rw[hlu]at sa
  cases hdy:zCF day with
  |false=>rw[hdy]at sa;simp at sa
  |true =>
   rw[dN]at hlu;obtain⟨d1,d2⟩:=dayB_iff.1 hdy;obtain⟨i,n,hi,hnm,_,hnn⟩:=leaf_at g hlu.1;have hidx:(idx rs pl).getD 0=i:=by rw[<-hnm,g.inc.idx hi];rfl
   have hpl:zCg rs i=pl:=by rw[zAH hi];exact hnm
   have hil:i∈zAf rs:=List.mem_of_getElem? hnn;have key:=held_at (gq:=fun F:zAV=>F party) (rs:=rs) (us:=us) (ds:=ds) (th:=th) g hcov hE hD1 hD2 hD3 (uses_nodup hc) (zBz.1 hlu.2) d1 d2 hil;rw[hpl]at key;refine⟨?_,hlen,?_,?_⟩
   ·intro r hr
    rw[tot_hold hcov hE hD2]at hr;obtain⟨x,_,rfl⟩:=List.mem_map.1 hr;exact⟨_,rfl⟩
   ·rw[held_all key,hat,hidx]
    obtain⟨M,hB,_⟩:=zCn hc i th use day ds.length (aE _);show _=hasF party ((pairs (holL _ _) _).map shO)
    rw[has_pairs hB.ok]
    rfl
   ·intro k hk hm
    refine held_fst (o:=if 0<gP (fun F:zAV=>F party) rs ds th use day i then some (outQ (gP (fun F:zAV=>F party) rs ds th use day i)) else none) ?_ hk hm;rw[key]
    split<;>rfl
abbrev encV:Value->List Value:=fun v=>[v]
theorem elSets:ElemT Tryz.prog 104 108 (.slice none 0 0) 1 24:=⟨Tryz.underlying104,zb,rfl,zc⟩
def SlA(w:World)(B:Option Addr)(aa:List (List Ar)):Prop:=
 ∃b o:Nat,B=some ⟨b,o,none⟩/\b<w.heap.size/\∀i (h:i<aa.length),∃Ai ci,w.cell? ⟨b,o+i,none⟩=some (.slice Ai (aa[i]).length ci)/\Ars w Ai aa[i]
theorem SlA.below{w w':World}{B:Option Addr}{aa:List (List Ar)}(h:SlA w B aa)(hb:Below w.heap.size w w'):SlA w' B aa:=by
 obtain⟨b,o,rfl,hlt,hc⟩:=h;refine⟨b,o,rfl,aB hlt hb.size,fun i hi=>?_⟩;obtain⟨Ai,ci,h1,h2⟩:=hc i hi;exact⟨Ai,ci,(hb.cell hlt).trans h1,h2.below hb⟩
def SetsOf(w:World)(l:List Rg)(aa:List (List Ar))(vs:List Value):Prop:=
 ∀(i:Nat)(v:Value),vs[i]?=some v->∃a,aa[i]?=some a/\∃gi ci,v=.slice (some ⟨gi,0,none⟩) (inL l a).length ci/\w.heap[gi]?=some (.cells (bArr (inL l a) (inL l a).length) 4 (0,0))
theorem SetsOf.keep{w w':World}{l:List Rg}{aa:List (List Ar)}{vs:List Value}(h:SetsOf w l aa vs)(hk:∀(g:Nat)(cs:Array Value),w.heap[g]?=some (.cells cs 4 (0,0))->w'.heap[g]?=w.heap[g]?):SetsOf w' l aa vs:=fun i v hv=>by
 obtain⟨a,ha,gi,ci,h1,h2⟩:=h i v hv;exact⟨a,ha,gi,ci,h1,(hk _ _ h2).trans h2⟩
theorem SetsOf.below{w w':World}{l:List Rg}{aa:List (List Ar)}{vs:List Value}(h:SetsOf w l aa vs)(hb:Below w.heap.size w w'):SetsOf w' l aa vs:=
 h.keep fun _ _ hg=>hb.block _ (zAh hg)
theorem SetsOf.push{w:World}{l:List Rg}{aa:List (List Ar)}{vs:List Value}(h:SetsOf w l aa vs){a:List Ar}{gi ci:Nat}(ha:aa[vs.length]?=some a)(hg:w.heap[gi]?=some (.cells (bArr (inL l a) (inL l a).length) 4 (0,0))): SetsOf w l aa (vs++[.slice (some ⟨gi,0,none⟩) (inL l a).length ci]):=fun i v hv=>by
 rcases Nat.lt_trichotomy i vs.length with h1|h1|h1
 ·rw[List.getElem?_append_left h1]at hv
  exact h i v hv
 ·subst h1
  simp at hv
  exact⟨a,ha,gi,ci,hv.symm,hg⟩
 ·rw[List.getElem?_append_right za,List.getElem?_eq_none ze]at hv
  cases hv
theorem six_cells{w:World}{s:Nat}{a0 a1 a2 a3 a4 a5:Value}{T:TypeId}(h:w.heap[s]?=some (.cells #[a0,a1,a2,a3,a4,a5] T (0,0))): w.cell? ⟨s,0,none⟩=some a0/\w.cell? ⟨s,1,none⟩=some a1/\w.cell? ⟨s,2,none⟩=some a2/\w.cell? ⟨s,3,none⟩=some a3/\w.cell? ⟨s,4,none⟩=some a4/\w.cell? ⟨s,5,none⟩=some a5:=
 ⟨by rw[aX w _ 0 _ _ _ h];rfl,by rw[aX w _ 1 _ _ _ h];rfl,by rw[aX w _ 2 _ _ _ h];rfl,by rw[aX w _ 3 _ _ _ h];rfl,by rw[aX w _ 4 _ _ _ h];rfl,by rw[aX w _ 5 _ _ _ h];rfl⟩
theorem six_free{w:World}{s:Nat}{cs:Array Value}{T:TypeId}(h:w.heap[s]?=some (.cells cs T (0,0))): w.frozen? ⟨s,0,none⟩=false/\w.frozen? ⟨s,1,none⟩=false/\w.frozen? ⟨s,2,none⟩=false/\w.frozen? ⟨s,3,none⟩=false/\w.frozen? ⟨s,4,none⟩=false/\w.frozen? ⟨s,5,none⟩=false:=
 ⟨cU w _ 0 _ _ h,cU w _ 1 _ _ h,cU w _ 2 _ _ h,cU w _ 3 _ _ h,cU w _ 4 _ _ h,cU w _ 5 _ _ h⟩
theorem below6{B:Nat}{w w':World}{s:Nat}(h:Below B w w')(hs:B<=s)(b0 b1 b2 b3 b4 b5:Value):Below B w ((((((w'.setCell ⟨s,0,none⟩ b0).setCell ⟨s,1,none⟩ b1).setCell ⟨s,2,none⟩ b2).setCell ⟨s,3,none⟩ b3).setCell ⟨s,4,none⟩ b4).setCell ⟨s,5,none⟩ b5):=
 (((((h.setCell (p:=⟨s,0,none⟩) hs _).setCell (p:=⟨s,1,none⟩) hs _).setCell (p:=⟨s,2,none⟩) hs _).setCell (p:=⟨s,3,none⟩) hs _).setCell (p:=⟨s,4,none⟩) hs _).setCell (p:=⟨s,5,none⟩) hs _
theorem z6{j:Nat}{v:Value}(h:(#[zAm,.map none,zAm,.map none,zAm,zAm]:Array Value)[j]?=some v):v=zAm\/v=.map none:=by
 match j,h with
 |0,h=>simp at h;exact .inl h.symm
 |1,h=>simp at h;exact .inr h.symm
 |2,h=>simp at h;exact .inl h.symm
 |3,h=>simp at h;exact .inr h.symm
 |4,h=>simp at h;exact .inl h.symm
 |5,h=>simp at h;exact .inl h.symm
 |j+6,h=>rw[Array.getElem?_eq_none zd]at h;cases h
theorem rd1_set0{α:Type}{f:α->Value}{w w':World}{A:Option Addr}{L:List α}{s:Nat}{T:TypeId}(h:Rd1 f w A L)(hs:w.heap[s]?=some (.cells #[zAm,.map none,zAm,.map none,zAm,zAm] T (0,0)))(hk:∀x,x≠s->w'.heap[x]?=w.heap[x]?)(hf:∀x,f x≠zAm/\f x≠.map none):Rd1 f w' A L:=fun hl=>by
 obtain⟨b,o,rfl,hc⟩:=h hl;refine⟨b,o,rfl,fun i hi=>?_⟩
 have hne:b≠s:=fun e=>by
  subst e;have:=hc i hi;exact tbw
 rw[World.cell?_of_block (hk _ hne)];exact hc i hi
theorem rd2_set0{α:Type}{f f2:α->Value}{w w':World}{A:Option Addr}{L:List α}{s:Nat}{T:TypeId}(h:Rd2 f f2 w A L)(hs:w.heap[s]?=some (.cells #[zAm,.map none,zAm,.map none,zAm,zAm] T (0,0)))(hk:∀x,x≠s->w'.heap[x]?=w.heap[x]?)(hf:∀x,f x≠zAm/\f x≠.map none):Rd2 f f2 w' A L:=fun hl=>by
 obtain⟨b,o,rfl,hc⟩:=h hl;refine⟨b,o,rfl,fun i hi=>?_⟩
 have hne:b≠s:=fun e=>by
  subst e;have:=(hc i hi).1;exact tbw
 rw[World.cell?_of_block (hk _ hne),World.cell?_of_block (hk _ hne)];exact hc i hi
theorem WR.set0{w w':World}{A:Option Addr}{r1 r2 g1 g2:Nat}{AL:Option Addr}{l:List Rg}{s:Nat}(h:WR w A r1 r2 g1 g2 AL l)(hs:w.heap[s]?=some (.cells #[zAm,.map none,zAm,.map none,zAm,zAm] 103 (0,0)))(hk:∀x,x≠s->w'.heap[x]?=w.heap[x]?)(hsz:w.heap.size<=w'.heap.size):WR w' A r1 r2 g1 g2 AL l:=by
 obtain⟨cs,hcs⟩:=h.h3;have hg2:g2≠s:=zAA hcs hs zc;refine⟨rd2_set0 h.rg hs hk (fun x=>zd),h.m1.keep (hk _ (zAi h.m1 hs).symm),rd1_set0 h.lv hs hk (fun x=>zd),h.m2.keep (hk _ (zAi h.m2 hs).symm),fun i hi=>?_,fun i hi=>?_,aB h.h1 hsz,aB h.h2 hsz,cs,(hk _ hg2).trans hcs⟩
 ·have hne:g1≠s:=fun e=>by
   subst e;have:=h.up i hi;rw[aX w g1 _ _ _ _ hs]at this
   rcases z6 this with h1|h1<;>simp at h1
  rw[World.cell?_of_block (hk _ hne)];exact h.up i hi
 ·obtain⟨Ai,ci,h1,h2⟩:=h.bl i hi
  exact⟨Ai,ci,by rw[World.cell?_of_block (hk _ hg2)];exact h1,rd1_set0 h2 hs hk (fun x=>zd)⟩
theorem size6(w:World)(s:Nat)(b0 b1 b2 b3 b4 b5:Value):w.heap.size<=((((((w.setCell ⟨s,0,none⟩ b0).setCell ⟨s,1,none⟩ b1).setCell ⟨s,2,none⟩ b2).setCell ⟨s,3,none⟩ b3).setCell ⟨s,4,none⟩ b4).setCell ⟨s,5,none⟩ b5).heap.size:=zd
theorem own_rd{w w':World}{base n c:Nat}{T:TypeId}{O:Option Addr}{vs:List Value}(h:zAs encV 1 w base T (.slice O n c) vs)(hk:∀g,base<=g->w'.heap[g]?=w.heap[g]?):Rd1 id w' O vs:=by
 obtain⟨O',c',e,hr⟩:=(own_keepB h fun g h1 _=>hk g h1).rd1
 injection e with e1
 subst e1;exact hr
def zw:Value:=.agg #[zAm,.map none,zAm,.map none,zAm,zAm]
def areasF(l:List Rg)(aa:List (List Ar)):Int:=if chkR l≠0 then chkR l else ((aa.map (zCX l)).find? fun f=>decide (f≠0)).getD 0
def GivesAs(A:Option Addr)(c:Nat)(l:List Rg)(aa:List (List Ar))(w:World)(e:Ending)(w':World):Prop:=
 Below w.heap.size w w'/\((areasF l aa≠0/\e=.returned (.tuple #[zw,zAm,.int .i64 (areasF l aa)])) \/
  (chkR l=0/\(∀i (h:i<aa.length),zCX l aa[i]=0)/\∃r1 r2 g1 g2 AL cL O co vs,e=.returned (.tuple #[wv A c r1 r2 g1 g2 AL cL l,.slice O aa.length co,.int .i64 0])/\WR w' A r1 r2 g1 g2 AL l /\
   vs.length=aa.length/\Rd1 id w' O vs/\SetsOf w' l aa vs))
def ArRel(W:World)(l:List Rg)(aa:List (List Ar))(m:Nat)(out i:Value)(wr:World):Prop:=
 ∃(k:Nat)(vs:List Value),k+m=aa.length/\i=.int .i64 k/\vs.length=k/\(∀j (h:j<aa.length),j<k->zCX l aa[j]=0)/\zAs encV 1 wr W.heap.size 108 out vs/\SetsOf wr l aa vs/\Below W.heap.size W wr
theorem areasF_R{l:List Rg}{aa:List (List Ar)}(h:chkR l≠0):areasF l aa=chkR l:=by rw[areasF,aD h]
theorem areasF_A{l:List Rg}{aa:List (List Ar)}(h:chkR l=0){k:Nat}(hk:k<aa.length)(hpre:∀j (h:j<aa.length),j<k->zCX l aa[j]=0)(hf:zCX l aa[k]≠0):areasF l aa=zCX l aa[k]:=by
 rw[areasF,aW (by simp[h])]
 have:(aa.map (zCX l)).find? (fun f=>decide (f≠0))=some (zCX l aa[k]):=by
  rw[List.find?_eq_some_iff_getElem];refine⟨by simpa using hf,k,by simpa using hk,zd,fun j hj=>?_⟩;simp[hpre j za hj]
 rw[this];rfl
theorem areas_c(A B:Option Addr)(c cb:Nat)(l:List Rg)(aa:List (List Ar))(w:World)(h:Rgs w A l)(hz:∀i (h:i<l.length),(l[i]).nm.size<=9223372036854775807)(h2:SlA w B aa)(hn2:aa.length<=2): Calls Tryz.prog 38 #[.slice A l.length c,.slice B aa.length cb] w (GivesAs A c l aa w):=by
 have hwb:Below w.heap.size w (w.alloc (.cells #[zAm,.map none,zAm,.map none,zAm,zAm] 103)):=(aJ _ _).alloc (aE _) _;have hblk:=aK w (.cells #[zAm,.map none,zAm,.map none,zAm,zAm] 103);generalize hres:chkR l=res;have HR:=zq hres
 go_enter Tryz.func38,Tryz.ntmps38;(go_wp2_with fail);refine(CheckRegions_c _ _ _ _ (h.below hwb) hz).mono ?_;rintro e w1⟨rfl,hb1⟩;have hw1:Below w.heap.size w w1:=zAa hwb hb1;have hblk1:w1.heap[w.heap.size]?=some (.cells #[zAm,.map none,zAm,.map none,zAm,zAm] 103 (0,0)):=(hb1.block _ zd).trans hblk;have h1:=h.below hw1;have h21:=h2.below hw1;have HW1:=zq hw1;rw[hres];clear hwb hblk hb1 h h2 hw1
 by_cases hr:res=0
 ·subst hr
  have g:=zDt hres;clear hres;(go_wp2_with fail);refine(newWorld_c A c l w1 g h1).mono ?_;rintro e w2⟨r1,r2,g1,g2,AL,cL,rfl,hwr2,hb2⟩;unfold wv;have hblk2:w2.heap[w.heap.size]?=some (.cells #[zAm,.map none,zAm,.map none,zAm,zAm] 103 (0,0)):=(hb2.block _ (zAh hblk1)).trans hblk1;have hsl2:=h21.below hb2;have hwb2:Below w.heap.size w w2:=zAa HW1.o hb2;clear hb2 HW1 h1 h21 hblk1;go_wp2;generalize hW:w2.alloc (.cells #[.slice A l.length c,.map (some r1),.slice AL (zBF l (fun i=>!zAB l i) l.length).length cL,.map (some r2),.slice (some ⟨g1,0,none⟩) l.length l.length,.slice (some ⟨g2,0,none⟩) l.length l.length] 103)=W;have hWr:=aK w2 (.cells #[.slice A l.length c,.map (some r1),.slice AL (zBF l (fun i=>!zAB l i) l.length).length cL,.map (some r2),.slice (some ⟨g1,0,none⟩) l.length l.length,.slice (some ⟨g2,0,none⟩) l.length l.length] 103);have hWb:Below w2.heap.size w2 W:=zu;rw[hW]at hWr;have hw2W:w2.heap.size<W.heap.size:=zAh hWr;have hblkW:W.heap[w.heap.size]?=some (.cells #[zAm,.map none,zAm,.map none,zAm,zAm] 103 (0,0)):=(hWb.block _ (zAh hblk2)).trans hblk2;have hwW:w.heap.size<W.heap.size:=zAh hblkW;obtain⟨s8,hs8⟩:∃s8,s8=w2.heap.size:=⟨_,rfl⟩;rw[<-hs8]at hWr hw2W ⊢;have HWR:=zq (hwr2.below hWb);have HSL:=zq (hsl2.below hWb);have HWb:=zq (hwb2.trans (hWb.mono hwb2.size));have HWr:=zq hWr;have HBk:=zq hblkW;clear hW hWr hWb hblkW hblk2 hwr2 hsl2 hwb2 hs8;clear w1 w2
  go_loopg[9,23] aa.length (ArRel W l aa)
  case atStart=>exact⟨0,[],za,rfl,rfl,fun j _ hj=>absurd hj za,zAs.nil _ _ _ _ _,fun i v hv=>by simp at hv,aJ _ _⟩
  case round =>
   obtain⟨k,vs,hk,rfl,hvs,hpre,hown,hsets,hbel⟩:=hrel;have HK:=zq hk;have HP:=zq hpre;have HB:=zq hbel;have HV:=zq hvs;have hk1:k<=aa.length:=za;have hs8r:s8<wr.heap.size:=aB hw2W hbel.size;have hwr:w.heap.size<wr.heap.size:=aB hwW hbel.size;have hrow:wr.heap[s8]?=_:=(hbel.block _ hw2W).trans HWr.o;have hs0:wr.cell? ⟨s8,0,none⟩=some (.slice A l.length c):=by rw[aX _ s8 0 _ _ _ hrow];rfl
   have hs1:wr.cell? ⟨s8,1,none⟩=some (.map (some r1)):=by rw[aX _ s8 1 _ _ _ hrow];rfl
   have hs2:wr.cell? ⟨s8,2,none⟩=some (.slice AL (zBF l (fun i=>!zAB l i) l.length).length cL):=by rw[aX _ s8 2 _ _ _ hrow];rfl
   have hs3:wr.cell? ⟨s8,3,none⟩=some (.map (some r2)):=by rw[aX _ s8 3 _ _ _ hrow];rfl
   have hs4:wr.cell? ⟨s8,4,none⟩=some (.slice (some ⟨g1,0,none⟩) l.length l.length):=by rw[aX _ s8 4 _ _ _ hrow];rfl
   have hs5:wr.cell? ⟨s8,5,none⟩=some (.slice (some ⟨g2,0,none⟩) l.length l.length):=by rw[aX _ s8 5 _ _ _ hrow];rfl
   have HRow:=zq hrow;clear hk hpre hbel hvs hrow
   by_cases hlt:k<aa.length
   ·obtain⟨b,o,rfl,hb,hc⟩:=HSL.o.below HB.o
    obtain⟨Ai,ci,hci,hai⟩:=hc k hlt;have hwrr:=HWR.o.below HB.o;clear hc;generalize hak:zCX l aa[k]=fk;have HAK:=zq hak;(go_wp2_with fail);refine(checkArea_c A Ai c r1 r2 g1 g2 AL cL ci l aa[k] wr g hwrr hai).mono ?_;rintro e w3⟨rfl,hb3⟩;rw[hak]
    by_cases hf:fk=0
    ·subst hf
     have ga:=goodA_of hak;have hrow3:w3.heap[s8]?=_:=(hb3.block _ hs8r).trans HRow.o;obtain⟨hs0',hs1',hs2',hs3',hs4',hs5'⟩:=six_cells hrow3;have hs8':s8<w3.heap.size:=zAh hrow3;have hwr3:=hwrr.below hb3;have hai3:=hai.below hb3;have hown3:=hown.below hb3;have hsets3:=hsets.below hb3;have hbel3:Below W.heap.size W w3:=zAa HB.o hb3;clear hs0 hs1 hs2 hs3 hs4 hs5 hrow3 hb3 hwrr hai hown hsets hak hci hb hwr;(go_wp2_with fail);refine(in_c A Ai c r1 r2 g1 g2 AL cL ci l aa[k] w3 g ga hwr3 hai3).mono ?_;rintro e w4⟨gi,cgi,rfl,hgi,hb4⟩;have hown4:=hown3.below hb4;have hsets4:=hsets3.below hb4;have hbel4:Below W.heap.size W w4:=zAa hbel3 hb4;have hWle:W.heap.size<=w4.heap.size:=hbel4.size;clear hown3 hsets3 hbel3 hb4 hs0' hs1' hs2' hs3' hs4' hs5' hwr3 hai3 hs8';have hvl:vs.length+1<=2:=by have:=HV.o;omega
     have HSP:=zq (SetsOf.push (ci:=cgi) hsets4 (a:=aa[k]) (gi:=gi) (by rw[HV.o];simp[hlt]) hgi)
     go_wp2_with (at_builtin;refine zBS _ _ _ elSets rfl rfl W.heap.size _ vs rfl (hown4.alloc _) w4.heap.size 1 (.slice (some ⟨gi,0,none⟩) (inL l aa[k]).length cgi) rfl (aK _ _) rfl zt zm za ze ?_;intro v5 w5 hown5 hg5 hb5)
     have hkeep:∀(g:Nat)(cs:Array Value),w4.heap[g]?=some (.cells cs 4 (0,0))->w5.heap[g]?=w4.heap[g]?:=fun g cs hg =>
      (hg5.block _ (zAh (zAF hg)) fun e2=>by
       obtain⟨_,cs',hcs⟩:=zAM hown4 e2.symm;exact zAA hg hcs zc rfl).trans ((zAF hg).trans hg.symm)
     have HO5:=zq hown5;have HS5:=zq (HSP.o.keep hkeep);have HB5:=zq ((hbel4.alloc hWle _).trans hb5);clear hown4 hsets4 hbel4 hown5 hg5 hb5 hkeep hgi HSP;go_wp2
     go_roundg (gk-1)
     case measure=>have:=HK.o;omega
     case rel =>
      refine⟨k+1,_,zh,zi,by simp[HV.o],fun j hj hjk=>?_,HO5.o,HS5.o,HB5.o⟩
      rcases aQ j k with h1|h1
      ·exact HP.o j hj h1
      ·obtain rfl:j=k:=by omega
       exact HAK.o
    ·have hfb:(fk != 0)=true:=by simpa using hf
     have hblk3:w3.heap[w.heap.size]?=_:=(hb3.block _ hwr).trans ((HB.o.block _ hwW).trans HBk.o);obtain⟨hd0,hd1,hd2,hd3,hd4,hd5⟩:=six_cells hblk3;obtain⟨hf0,hf1,hf2,hf3,hf4,hf5⟩:=six_free hblk3;have ha:areasF l aa=fk:=by rw[areasF_A HR.o hlt HP.o (by rw[hak];exact hf)];exact hak
     have HA:=zq ha;have HB3:=zq (HWb.o.trans ((zAa HB.o hb3).mono (Nat.le_of_lt hwW)));clear hblk3 hs0 hs1 hs2 hs3 hs4 hs5 hb3 hwrr hai hown hsets hak hci hb hwr ha;go_wp2;refine aC (v:=.tuple #[zw,zAm,.int .i64 fk]) ?_ rfl ?_
     ·simp[results,Tryz.results38,go_sem,zw,hd0,hd1,hd2,hd3,hd4,hd5]
     ·exact⟨below6 HB3.o (aE _) _ _ _ _ _ _,.inl ⟨by rw[HA.o];exact hf,by rw[HA.o]⟩⟩
   ·have hke:k=aa.length:=by omega
    have HKE:=zq hke;have hblk3:wr.heap[w.heap.size]?=_:=(HB.o.block _ hwW).trans HBk.o;obtain⟨hd0,hd1,hd2,hd3,hd4,hd5⟩:=six_cells hblk3;obtain⟨hf0,hf1,hf2,hf3,hf4,hf5⟩:=six_free hblk3;have HO:=zq hown;have HS:=zq hsets;have HB3:=zq (HWb.o.trans (HB.o.mono (Nat.le_of_lt hwW)));obtain⟨O,co,rfl,hrd⟩:=hown.rd1;have HD:=zq hrd;have HBL:=zq hblk3;clear hblk3 hown hsets hke hrd;go_wp2;refine aC (v:=.tuple #[wv A c r1 r2 g1 g2 AL cL l,.slice O aa.length co,.int .i64 0]) ?_ rfl ?_
    ·have e:vs.length=aa.length:=by rw[HV.o,HKE.o]
     simp[results,Tryz.results38,go_sem,wv,hd0,hd1,hd2,hd3,hd4,hd5,e]
    ·refine⟨below6 HB3.o (aE _) _ _ _ _ _ _,.inr ⟨HR.o,fun i hi=>HP.o i hi (by rw[HKE.o];exact hi),r1,r2,g1,g2,AL,cL,O,co,vs,rfl,?_,by rw[HV.o,HKE.o],?_,?_⟩⟩
     ·exact(HWR.o.below HB.o).set0 HBL.o (setCells6 _ _ _ _ _ _) (size6 _ _ _ _ _ _ _ _)
     ·exact own_rd HO.o fun g hg=>setCells6 _ _ _ _ _ _ _ (Nat.ne_of_gt (aB hwW hg))
     ·exact HS.o.keep fun g cs hg=>setCells6 _ _ _ _ _ _ _ (fun e=>by rw[e,HBL.o]at hg;injection hg with hg;injection hg with _ hg;exact absurd hg zc)
 ·have hrb:(res != 0)=true:=by simpa using hr
  have hd0:w1.cell? ⟨w.heap.size,0,none⟩=some zAm:=by rw[aX w1 _ 0 _ _ _ hblk1];rfl
  have hd1:w1.cell? ⟨w.heap.size,1,none⟩=some (.map none):=by rw[aX w1 _ 1 _ _ _ hblk1];rfl
  have hd2:w1.cell? ⟨w.heap.size,2,none⟩=some zAm:=by rw[aX w1 _ 2 _ _ _ hblk1];rfl
  have hd3:w1.cell? ⟨w.heap.size,3,none⟩=some (.map none):=by rw[aX w1 _ 3 _ _ _ hblk1];rfl
  have hd4:w1.cell? ⟨w.heap.size,4,none⟩=some zAm:=by rw[aX w1 _ 4 _ _ _ hblk1];rfl
  have hd5:w1.cell? ⟨w.heap.size,5,none⟩=some zAm:=by rw[aX w1 _ 5 _ _ _ hblk1];rfl
  have hf0:=cU w1 _ 0 _ _ hblk1;have hf1:=cU w1 _ 1 _ _ hblk1;have hf2:=cU w1 _ 2 _ _ hblk1;have hf3:=cU w1 _ 3 _ _ hblk1;have hf4:=cU w1 _ 4 _ _ hblk1;have hf5:=cU w1 _ 5 _ _ hblk1;clear hblk1 hres;go_wp2;refine aC (v:=.tuple #[zw,zAm,.int .i64 res]) ?_ rfl ?_
  ·simp[results,Tryz.results38,go_sem,zw,hd0,hd1,hd2,hd3,hd4,hd5]
  ·have ha:areasF l aa=res:=by rw[areasF_R (by rw[HR.o];exact hr)];exact HR.o
   refine⟨(((((HW1.o.setCell (p:=⟨w.heap.size,0,none⟩) (aE _) _).setCell (p:=⟨w.heap.size,1,none⟩) (aE _) _).setCell (p:=⟨w.heap.size,2,none⟩) (aE _) _).setCell (p:=⟨w.heap.size,3,none⟩) (aE _) _).setCell (p:=⟨w.heap.size,4,none⟩) (aE _) _).setCell (p:=⟨w.heap.size,5,none⟩) (aE _) _,.inl ⟨by rw[ha];exact hr,by rw[ha]⟩⟩
theorem areasF_1(l:List Rg)(a:List Ar):areasF l [a]=if chkR l≠0 then chkR l else zCX l a:=by
 unfold areasF
 by_cases h:chkR l=0
 ·by_cases h2:zCX l a=0
  ·simp[h,h2]
  ·simp[h,h2]
 ·simp[h]
def lvTo(l:List Rg)(a:List Ar)(k:Nat):List BA:=(((zAf l).take k).filter (lies l a)).map (zCg l)
theorem lvTo_succ{l:List Rg}{a:List Ar}{k:Nat}(h:k<(zAf l).length):lvTo l a (k+1)=lvTo l a k++if lies l a (zAf l)[k] then [zCg l (zAf l)[k]] else []:=by
 unfold lvTo;rw[bA h,dQ,aA]
 congr 1
 cases hl:lies l a (zAf l)[k]<;>simp[hl]
theorem lvTo_le(l:List Rg)(a:List Ar)(k:Nat):(lvTo l a k).length<=k:=by
 unfold lvTo;rw[dE];refine dC (dR _ _) ?_;rw[cC];omega
def LvRel(W:World)(l:List Rg)(a:List Ar)(m:Nat)(out i:Value)(wr:World):Prop:=
 ∃k:Nat,k+m=(zAf l).length/\i=.int .i64 k/\zAs encS 1 wr W.heap.size 9 out (lvTo l a k)/\Below W.heap.size W wr
theorem Leaves_c(A A2:Option Addr)(c c2:Nat)(l:List Rg)(a:List Ar)(w:World)(h:Rgs w A l)(h2:Ars w A2 a)(hz:∀i (h:i<l.length),(l[i]).nm.size<=9223372036854775807): Calls Tryz.prog 11 #[.slice A l.length c,.slice A2 a.length c2] w (GivesS2 (leavesS l a) w):=by
 have hwb:Below w.heap.size w (w.alloc (.cells #[.slice A2 a.length c2] 41)):=(aJ _ _).alloc (aE _) _
 have hsl:SlA (w.alloc (.cells #[.slice A2 a.length c2] 41)) (some ⟨w.heap.size,0,none⟩) [a]:=
  ⟨w.heap.size,0,rfl,zd,fun i hi=>by
   have:i=0:=by simp at hi;omega
   subst this;exact⟨A2,c2,by rw[aX _ w.heap.size _ _ _ _ (aK _ _)];rfl,h2.below hwb⟩⟩
 generalize hres:leavesS l a=res;have HR:=zq hres;clear hres
 go_enter Tryz.func11,Tryz.ntmps11;(go_wp2_with fail);refine(areas_c A (some ⟨w.heap.size,0,none⟩) c 1 l [a] _ (h.below hwb) hz hsl zd).mono ?_;rintro e w1⟨hb1,⟨hf,rfl⟩|⟨hr,hc,r1,r2,g1,g2,AL,cL,O,co,vs,rfl,hwr,hvl,hrd,hsets⟩⟩
 ·have hw1:Below w.heap.size w w1:=zAa hwb hb1
  have hrs:res=([],areasF l [a]):=by
   rw[<-HR.o,leavesS];rw[areasF_1]at hf ⊢
   by_cases hq:chkR l=0
   ·rw[aW (by simp[hq])]at hf
    simp[hq,hf]
   ·simp[hq]
  have HS:=zq hrs;generalize areasF l [a]=f at *;have hfb:(f != 0)=true:=by simpa using hf
  have HB:=zq (hw1.alloc hw1.size (.cells #[zAm,.map none,zAm,.map none,zAm,zAm] 103));clear hrs hf hb1 hw1 hwb hsl h h2;unfold zw;go_wp2;go_ret2
  exact GivesS2.err HS.o HB.o
 ·have hw1:Below w.heap.size w w1:=zAa hwb hb1
  have g:=zDt hr;have hn:=g.len;have ha0:zCX l a=0:=hc 0 zd
  have hrs:res=(zAW l a,0):=by
   rw[<-HR.o,leavesS];simp[hr,ha0]
  have HS:=zq hrs;clear hrs hb1 hwb hsl h h2 hc ha0 hr
  obtain⟨v0,hv0⟩:∃v0,vs=[v0]:=by
   match vs,hvl with
   |[v0],_=>exact⟨v0,rfl⟩
  subst hv0;obtain⟨a',ha',gi,ci,rfl,hgi⟩:=hsets 0 v0 rfl;have:a'=a:=by simpa using ha'.symm
  subst this;obtain⟨bo,oo,rfl,hbo,hco⟩:=hrd.at_ zd;have hco0:w1.cell? ⟨bo,oo,none⟩=some (.slice (some ⟨gi,0,none⟩) (inL l a').length ci):=hco 0 zd;clear hco hsets hvl ha' hrd;unfold wv;go_wp2;have hgl:(zBF l (fun i=>!zAB l i) l.length).length=(zAf l).length:=by rw[gath_len l a',inL,dE]
  have hil:(zAf l).length<=200:=dC (leafTo_le l l.length) hn;rw[hgl];have HGL:=zq hgl;clear hgl;generalize hW:w1.alloc (.cells #[.slice A l.length c,.map (some r1),.slice AL (zAf l).length cL,.map (some r2),.slice (some ⟨g1,0,none⟩) l.length l.length,.slice (some ⟨g2,0,none⟩) l.length l.length] 103)=W;have hWb:Below w1.heap.size w1 W:=zu;have HLV:=zq (hwr.lv.below hWb);have hgW:gi<W.heap.size:=aB (zAh hgi) hWb.size;have HGI:=zq ((hWb.block _ (zAh hgi)).trans hgi);have hboW:bo<W.heap.size:=aB hbo hWb.size;have hcoW:=(hWb.cell hbo).trans hco0;have HWb:=zq (zAa hw1 hWb);clear hW hWb hwr hgi hbo hco0 hw1;obtain⟨s6,hs6⟩:∃s6,s6=w1.heap.size:=⟨_,rfl⟩;rw[<-hs6];clear hs6;clear w1;have hinl:(inL l a').length=(zAf l).length:=by rw[inL,dE]
  rw[hinl]at hcoW;have HIN:=zq hinl;clear hinl
  go_loopg[9,26] (zAf l).length (LvRel W l a')
  case atStart=>exact⟨0,za,rfl,zAs.nil _ _ _ _ _,aJ _ _⟩
  case round =>
   obtain⟨k,hk,rfl,hown,hbel⟩:=hrel;have HK:=zq hk;have hk1:k<=(zAf l).length:=za;clear hk
   by_cases hlt:k<(zAf l).length
   ·have hltG:k<(zBF l (fun i=>!zAB l i) l.length).length:=by rw[HGL.o];exact hlt
    obtain⟨b,o,rfl,hb,hc⟩:=HLV.o.at_ za;have hyl:=leafIdx_lt hlt
    have hc0:wr.cell? ⟨b,o+k,none⟩=some (.string (zCg l (zAf l)[k])):=by
     rw[hbel.cell hb,hc k hltG,gath_get l hltG hlt]
    have hbr:b<wr.heap.size:=aB hb hbel.size;have hcor:=(hbel.cell hboW).trans hcoW;have hbor:bo<wr.heap.size:=aB hboW hbel.size;have hgr:gi<wr.heap.size:=aB hgW hbel.size
    have hcs:wr.cell? ⟨gi,k,none⟩=some (.bool (lies l a' (zAf l)[k])):=by
     rw[hbel.cell hgW,aX _ gi k _ _ _ HGI.o,zCr _ _ (by rw[HIN.o];exact hlt)];simp[inL,hlt]
    have hle:=lvTo_le l a' k;have hwr:W.heap.size<=wr.heap.size:=hbel.size;have HSU:=zq (lvTo_succ (a:=a') hlt);clear hc;generalize hx:zCg l (zAf l)[k]=nm at *
    cases hq:lies l a' (zAf l)[k]with
    |false =>
     rw[hq]at hcs;have HQ:=zq hq;have HO:=zq hown;have HB:=zq hbel;clear hq hown hbel hx;exact ta9
    |true =>
     rw[hq]at hcs;have HQ:=zq hq;clear hq hx
     go_wp2_with (at_builtin;refine zBS _ _ _ elStr rfl rfl W.heap.size _ (lvTo l a' k) rfl (hown.alloc _) wr.heap.size 1 nm rfl (aK _ _) rfl zt zm za ze ?_;intro v1 w2 hown2 hg2 hb2)
     have HO:=zq hown2;have HB:=zq ((hbel.alloc hwr _).trans hb2);clear hown hbel hown2 hg2 hb2;exact ta9
   ·have hke:k=(zAf l).length:=by omega
    have e:lvTo l a' k=zAW l a':=by rw[hke,lvTo,aG];rfl
    rw[e]at hown;obtain⟨A',c',rfl,hrd⟩:=hown.rd1;have HB:=zq (zAa HWb.o hbel);have HD:=zq hrd;clear e hown hrd hbel hke;go_wp2;go_ret2
    exact GivesS2.ok HS.o HD.o HB.o
def sa:BA:=⟨#[97]⟩
theorem leaves_awake:leavesS [⟨sa,emp⟩] [⟨sa,false⟩]=([sa],0):=by decide +kernel
theorem awake_c(w:World):Calls Tryz.prog 10 #[] w (zAg (.bool true) w):=by
 have hb1:Below w.heap.size w (w.alloc (.cells #[.string ⟨#[97]⟩,.string ⟨#[]⟩] 97)):=(aJ _ _).alloc (aE _) _;have hb2:Below w.heap.size w ((w.alloc (.cells #[.string ⟨#[97]⟩,.string ⟨#[]⟩] 97)).alloc (.cells #[.string ⟨#[97]⟩,.bool false] 99)):=hb1.alloc hb1.size _
 have hr:Rgs ((w.alloc (.cells #[.string ⟨#[97]⟩,.string ⟨#[]⟩] 97)).alloc (.cells #[.string ⟨#[97]⟩,.bool false] 99)) (some ⟨w.heap.size,0,none⟩) [⟨sa,emp⟩]:=fun _ =>
  ⟨w.heap.size,0,rfl,fun i hi=>by
   have:i=0:=by simp at hi;omega
   subst this
   constructor
   ·rw[aX _ w.heap.size _ _ _ _ (zAF (aK _ _))];rfl
   ·rw[aX _ w.heap.size _ _ _ _ (zAF (aK _ _))];rfl⟩
 have ha:Ars ((w.alloc (.cells #[.string ⟨#[97]⟩,.string ⟨#[]⟩] 97)).alloc (.cells #[.string ⟨#[97]⟩,.bool false] 99)) (some ⟨w.heap.size+1,0,none⟩) [⟨sa,false⟩]:=fun _ =>
  ⟨w.heap.size+1,0,rfl,fun i hi=>by
   have:i=0:=by simp at hi;omega
   subst this;have hn:=aK (w.alloc (.cells #[.string ⟨#[97]⟩,.string ⟨#[]⟩] 97)) (.cells #[.string ⟨#[97]⟩,.bool false] 99);rw[show(w.alloc (.cells #[.string ⟨#[97]⟩,.string ⟨#[]⟩] 97)).heap.size=w.heap.size+1 by simp]at hn
   constructor
   ·rw[aX _ (w.heap.size+1) _ _ _ _ hn];rfl
   ·rw[aX _ (w.heap.size+1) _ _ _ _ hn];rfl⟩
 have hl:=Leaves_c (some ⟨w.heap.size,0,none⟩) (some ⟨w.heap.size+1,0,none⟩) 1 1 [⟨sa,emp⟩] [⟨sa,false⟩] _ hr ha (fun i hi=>by
  have:i=0:=by simp at hi;omega
  subst this;show(sa.size:Nat)<=9223372036854775807
  decide)
 rw[leaves_awake]at hl
 go_enter Tryz.func10,Tryz.ntmps10;(go_wp2_with fail);refine hl.mono ?_;rintro e w1⟨A1,c1,rfl,hx,hb⟩;have HB:=zq (hb2.trans (hb.mono hb2.size));obtain⟨b,o,rfl,hbl,hc⟩:=hx.at_ zd;have hc0:w1.cell? ⟨b,o,none⟩=some (.string ⟨#[97]⟩):=hc 0 zd;clear hl hr ha hb1 hb2 hb hx hc;go_wp2;go_ret
 exact zAg.mk rfl HB.o
theorem shares_len(rs:List Rg)(us:List BA)(ds:List De)(th pl use:BA)(day:Int):(zBs rs us ds th pl use day).1.length<=1000000:=by
 by_cases hc:zBQ rs us ds=0
 case neg=>rw[srF_chk hc];exact bW _
 cases hn:zBi th with
 |false=>rw[srF_nm hc hn];exact bW _
 |true =>
  by_cases hs:zCU rs us pl use day=0
  case neg=>rw[srF_sp hc hn hs];exact bW _
  rw[srF_at hc hn hs]
  split
  ·exact bW _
  ·show(pairs (holL _ _) _).length<=_
   unfold pairs;rw[dE];exact dC (dR _ _) (keys_len hc _ th use day ds.length (aE _))
end Go.Proofs.YtbbchlpccgkikaaGreatDoor
