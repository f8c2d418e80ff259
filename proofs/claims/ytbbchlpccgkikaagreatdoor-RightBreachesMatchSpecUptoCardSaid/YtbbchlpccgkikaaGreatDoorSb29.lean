/- The reference's days: those on which something can begin to be otherwise, increasing. The reference's Controls. -/
import Derived.Test.YtbbchlpccgkikaaGreatDoorSb26
import Derived.Test.YtbbchlpccgkikaaGreatDoorSb28
set_option maxRecDepth 100000
set_option maxHeartbeats 8000000
namespace Go.Proofs.YtbbchlpccgkikaaGreatDoor
open Go.RowKit Dw
def DyS(from_ to_:Int)(S:Int->Prop)(l:List Int):Prop:=l.Pairwise (· < ·)/\∀x,x∈l↔x=from_\/(from_<x/\x<to_/\S x)
section
variable {from_ to_ n:Int} {S:Int→Prop} {l:List Int} {k:Nat}
theorem DyS.one:DyS from_ to_ (fun _=>False) [from_]:=⟨ze,fun x=>ze⟩
theorem DyS.congr{T:Int->Prop}(h:DyS from_ to_ S l)(hs:∀x,S x↔T x):DyS from_ to_ T l:=⟨h.1,fun x=>by rw[h.2,hs]⟩
theorem DyS.out(h:DyS from_ to_ S l)(J:n<=from_\/to_<=n):DyS from_ to_ (fun x=>S x\/x=n) l:=⟨h.1,fun x=>by
 rw[h.2]
 constructor
 ·rintro(h|⟨a,b,c⟩)
  ·exact .inl h
  ·exact .inr ⟨a,b,.inl c⟩
 ·rintro(h|⟨a,b,c|rfl⟩)
  ·exact .inl h
  ·exact .inr ⟨a,b,c⟩
  ·omega⟩
theorem DyS.pos(h:DyS from_ to_ S l)(hup:∀j (hj:j<l.length),k<=j->n<l[j])(J:from_<n):0<k:=by
 rcases bI k with h0|h0
 ·obtain⟨j,hj,e⟩:=bD ((h.2 from_).2 (.inl rfl))
  have:=hup j hj za;omega
 ·exact h0
theorem DyS.there(h:DyS from_ to_ S l)(J:n∈l):DyS from_ to_ (fun x=>S x\/x=n) l:=⟨h.1,fun x=>by
 rw[h.2]
 constructor
 ·rintro(h|⟨a,b,c⟩)
  ·exact .inl h
  ·exact .inr ⟨a,b,.inl c⟩
 ·rintro(h1|⟨a,b,c|rfl⟩)
  ·exact .inl h1
  ·exact .inr ⟨a,b,c⟩
  ·exact(h.2 _).1 J⟩
theorem DyS.ins(h:DyS from_ to_ S l)(hk:k<=l.length)(hup:∀j (hj:j<l.length),k<=j->n<l[j])(h1:from_<n)(h2:n<to_)(hlo:∀hj:k-1<l.length,l[k-1]<n):DyS from_ to_ (fun x=>S x\/x=n) (l.take k++n::l.drop k):=by
 have h0:=h.pos hup h1;have hmem:∀x,x∈l↔x∈l.take k\/x∈l.drop k:=fun x=>by rw[<-eY,dE]
 have hle:∀x∈l.take k,x<n:=fun x hx=>by
  obtain⟨j,hj,rfl⟩:=bD hx;rw[bF]at hj;rw[bB];have h3:=hlo za
  rcases aI j (k-1)with h4|h4
  ·have:=List.pairwise_iff_getElem.1 h.1 j (k-1) za za h4
   omega
  ·obtain rfl:j=k-1:=by omega
   exact h3
 have hge:∀x∈l.drop k,n<x:=fun x hx=>by
  obtain⟨j,hj,rfl⟩:=bD hx;rw[dH]at hj;rw[List.getElem_drop];exact hup (k+j) za za
 refine⟨List.pairwise_append.2 ⟨h.1.sublist (List.take_sublist k l),List.pairwise_cons.2 ⟨hge,h.1.sublist (List.drop_sublist k l)⟩,fun x hx y hy=>?_⟩,fun x=>?_⟩
 ·have h3:=hle x hx
  rcases List.mem_cons.1 hy with rfl|hy
  ·exact h3
  ·have:=hge y hy;omega
 ·rw[eY,fD]
  have h3:=h.2 x;rw[hmem]at h3
  constructor
  ·rintro(hx|rfl|hx)
   ·rcases h3.1 (.inl hx)with h4|⟨a,b,c⟩
    ·exact .inl h4
    ·exact .inr ⟨a,b,.inl c⟩
   ·exact .inr ⟨h1,h2,.inr rfl⟩
   ·rcases h3.1 (.inr hx)with h4|⟨a,b,c⟩
    ·exact .inl h4
    ·exact .inr ⟨a,b,.inl c⟩
  ·rintro(h4|⟨a,b,c|rfl⟩)
   ·rcases h3.2 (.inl h4)with h5|h5
    ·exact .inl h5
    ·exact .inr (.inr h5)
   ·rcases h3.2 (.inr ⟨a,b,c⟩)with h5|h5
    ·exact .inl h5
    ·exact .inr (.inr h5)
   ·exact .inr (.inl rfl)
end
def dyP(U:List De)(k:Nat)(x:Int):Prop:=∃d∈U.take k,x=d.bg\/x=d.en
theorem elemI:Tryz.prog.underlying 68=some (.slice (Tryz.prog.elem 68)):=zc
theorem run_cutToI(A:OA)(n c k:Nat)(hk:k<=c)(W:World):(Instr.slice 68 (.slice A n c) none (some (.int .i64 (k:Int))) none).run Tryz.prog W=.ok (.slice A k c) W:=by
 have h0:(0:Int)<=(k:Int)/\(k:Int)<=(c:Int):=za;rw[run_slice_h (ht:=elemI) (kh:=.i64) (h:=(k:Int)) (h0:=h0.1) (h2:=h0.2)];have hs:(sizeOf (Tryz.prog.elem 68)).run Tryz.prog W=.ok 1 W:=zc;exact tds
theorem run_cutFromI(A:OA)(n c k:Nat)(hk:k<=n)(W:World):(Instr.slice 68 (.slice A n c) (some (.int .i64 (k:Int))) none none).run Tryz.prog W=.ok (.slice (if c=k then A else A.map (·.add k)) (n-k) (c-k)) W:=by
 have h0:(0:Int)<=(k:Int)/\(k:Int)<=(n:Int):=za;rw[run_slice_l (ht:=elemI) (kl:=.i64) (l:=(k:Int)) (h0:=h0.1) (h1:=h0.2)];have hs:(sizeOf (Tryz.prog.elem 68)).run Tryz.prog W=.ok 1 W:=zc;rw[hs];simp[sliced,Result.andThen]
theorem own_oneI(w:World)(a:Int):zAv zEh 1 (w.alloc (.cells #[.int .i64 a] 3)) w.heap.size 3 (.slice (some ⟨w.heap.size,0,none⟩) 1 1) [a]:=
 ⟨rfl,.inr ⟨w.heap.size,1,_,rfl,aK _,aJ _ _,aK _,zn,rfl,rfl⟩⟩
def GivesDy(from_ to_:Int)(U:List De)(w:World)(e:Ending)(w':World):Prop:=
 ∃(A:OA)(c:Nat)(l:List Int),e=.returned (.slice A l.length c)/\Rd1 (Value.int .i64) w' A l/\DyS from_ to_ (dyP U U.length) l/\l.length<=402/\Below w.heap.size w w'
def DyR1(W:World)(from_ to_:Int)(U:List De)(m:Nat)(ov iv:Value)(wr:World):Prop:=
 ∃(k:Nat)(v:Value)(l:List Int),v=ov/\k+m=U.length/\iv=.int .i64 (k:Nat)/\DyS from_ to_ (dyP U k) l/\l.length<=1+2*k/\zAv zEh 1 wr W.heap.size 3 v l/\Below W.heap.size W wr
def DyR2(W:World)(from_ to_:Int)(U:List De)(k:Nat)(ns:List Int)(b:Nat)(m:Nat)(ov iv:Value)(wr:World):Prop:=
 ∃(j:Nat)(v:Value)(l:List Int),v=ov/\j+m=2/\iv=.int .i64 (j:Nat)/\DyS from_ to_ (fun x=>dyP U k x\/x∈ns.take j) l/\l.length<=1+2*k+j/\zAv zEh 1 wr W.heap.size 3 v l/\Below W.heap.size W wr/\(∀q (h:q<ns.length),wr.cell? ⟨b,q,none⟩=some (.int .i64 ns[q]))
def DyR3(w0:World)(n:Int)(l:List Int)(m:Nat)(jv:Value)(wr:World):Prop:=
 w0=wr/\jv=.int .i64 m/\m<=l.length/\∀j (hj:j<l.length),m<=j->n<l[j]
theorem days_c(RA:OA)(rc:Nat)(V:List Rg)(UA:OA)(O:Nat)(us:List BA)(DA:OA)(dc:Nat)(U:List De)(from_ to_:Int)(w:World)(hd:Des w DA U)(hdl:U.length<=200): Calls Tryz.prog 56 #[.agg (tiC RA rc V UA O us DA dc U),.int .i64 from_,.int .i64 to_] w (GivesDy from_ to_ U w):=by
 have hbw:Below w.heap.size w (w.alloc (.cells (tiC RA rc V UA O us DA dc U) 26)):=(aR _ _).alloc (aK _) _;have HX:Hid (Bx (w.alloc (.cells (tiC RA rc V UA O us DA dc U) 26)) w.heap.size (tiC RA rc V UA O us DA dc U) 26):=Bx.new _ _ _;obtain⟨W,hW⟩:∃W,W=w.alloc (.cells (tiC RA rc V UA O us DA dc U) 26):=⟨_,rfl⟩;rw[<-hW]at hbw HX;have HDw:=zq hd;have HB:=zq hbw;clear hd hbw
 go_enter Tryz.func56,Tryz.ntmps56;(go_upto_region 1 with fail);rw[<-hW];clear hW;(go_upto_region 2 with fail);obtain⟨W1,hW1⟩:∃W1,W1=W.alloc (.cells #[.int .i64 from_] 3):=⟨_,rfl⟩;rw[<-hW1];have hb1:Below W.heap.size W W1:=by rw[hW1];exact(aR _ _).alloc (aK _) _
 have HO1:Hid (zAv zEh 1 W1 W.heap.size 3 (.slice (some ⟨W.heap.size,0,none⟩) 1 1) [from_]):=by show zAv _ _ _ _ _ _ _;rw[hW1];exact own_oneI W from_
 have HB1:=zq hb1;have x2:=(HX.o.below hb1).c 2 rfl;have hsx:=(HX.o.below hb1).lt;clear hW1 hb1;go_wp2
 go_loopg[7,8] U.length (DyR1 W from_ to_ U)
 case atStart=>exact⟨0,_,[from_],rfl,za,rfl,DyS.one.congr fun x=>by unfold dyP;simp,ze,HO1.o,HB1.o⟩
 clear x2 hsx HO1 HB1
 case round =>
  obtain⟨g1,hg1⟩:∃g1,g1=gk:=⟨_,rfl⟩;subst hg1;obtain⟨k,ov,l,rfl,hkm,rfl,hdy,hll,how,I⟩:=hrel;have HK:=zq hkm;have HDY:=zq hdy;have HO:=zq how;have HBR:=zq I;have HXR:=zq (HX.o.below I);have x2:=HXR.o.c 2 rfl;have hsx:=HXR.o.lt;clear hkm hdy how I
  by_cases Y:k<U.length
  ·obtain⟨b,o,hA,hb0,hc0⟩:=HDw.o za
   subst hA;have hp:=(hc0 k Y).1
   have HSU:Hid (∀x,dyP U (k+1) x↔(dyP U k x\/x∈[U[k].bg,U[k].en])):=fun x=>by
    unfold dyP;rw[aG Y];simp only[eY,fD,List.not_mem_nil,or_false]
    constructor
    ·rintro⟨d,h1|rfl,h2⟩
     ·exact .inl ⟨d,h1,h2⟩
     ·exact .inr h2
    ·rintro(⟨d,h1,h2⟩|h2)
     ·exact⟨d,.inl h1,h2⟩
     ·exact⟨_,.inr rfl,h2⟩
   generalize U[k]=d at *;have N:wr.rangeAt b (o+k*16) (deC d).toList:=fun q v hv=>zAe (zAa HB.o HBR.o) (hp q v hv)
   have d12:=N 12 _ rfl;have d13:=N 13 _ rfl;have hsb:b<wr.heap.size:=aB (aB hb0 HB.o.size) HBR.o.size;clear hp hc0 N;generalize d.bg=n1 at *;generalize d.en=n2 at *;go_upto_region 5 with fail
   go_region_held3 (fun w'=>w'.cell? ⟨w.heap.size,2,none⟩=some (.slice (some ⟨b,o,none⟩) U.length dc)/\w'.cell? ⟨b,o+k*16+12,none⟩=some (.int .i64 n1)/\w'.cell? ⟨b,o+k*16+13,none⟩=some (.int .i64 n2))
    ((refine⟨?_,?_,?_⟩<;>first|with_reducible assumption|go_simp))
    (fail)
   obtain⟨w2,hw2⟩:∃w2,w2=(wr.alloc (.cells #[.int .i64 n1,.int .i64 n2] 3)).drew:=⟨_,rfl⟩;rw[<-hw2];have D:Below wr.heap.size wr w2:=by rw[hw2];exact zAb ((aR _ _).alloc (aK _) _) 1
   have HNX:Hid (Bx w2 wr.heap.size #[.int .i64 n1,.int .i64 n2] 3):=by show Bx _ _ _ _;rw[hw2];exact(Bx.new _ _ _).drew
   have HB2:=zq (zAa HBR.o D);have HO2:=zq (HO.o.below D);obtain⟨bn,hbn⟩:∃bn,bn=wr.heap.size:=⟨_,rfl⟩;rw[<-hbn]at HNX ⊢;have HKL:=zq Y;clear hw2 D HO HBR HXR hbn x2 hsx d12 d13 hsb hb0;go_wp2
   go_loopg[7,36] 2 (DyR2 W from_ to_ U k [n1,n2] bn)
   case atStart =>
    refine⟨0,_,l,rfl,za,rfl,HDY.o.congr fun x=>ze,za,HO2.o,HB2.o,fun q hq=>?_⟩
    match q,hq with
    |0,_=>exact HNX.o.c 0 rfl
    |1,_=>exact HNX.o.c 1 rfl
   clear HO2 HB2 HNX HDY hll
   case round =>
    obtain⟨g2,hg2⟩:∃g2,g2=gk:=⟨_,rfl⟩;subst hg2;obtain⟨j,ov,l,rfl,hjm,rfl,hdy,hll,how,I,hcl⟩:=hrel;have HJ:=zq hjm;have HDY:=zq hdy;have HO:=zq how;have HBR:=zq I;have HCL:=zq hcl;clear hjm hdy how I hcl
    by_cases hlj:j<2
    ·have cn:=HCL.o j hlj
     have HT2:Hid (([n1,n2]:List Int).take (j+1)=([n1,n2]:List Int).take j++[([n1,n2]:List Int)[j]'hlj]):=aG (l:=[n1,n2]) hlj;generalize ([n1,n2]:List Int)[j]'hlj=n at *
     have HNS:Hid (∀l':List Int,DyS from_ to_ (fun x=>(dyP U k x\/x∈([n1,n2]:List Int).take j)\/x=n) l'->DyS from_ to_ (fun x=>dyP U k x\/x∈([n1,n2]:List Int).take (j+1)) l'):=fun l' h=>h.congr fun x=>by
      rw[HT2.o,eY,List.mem_singleton,or_assoc]
     obtain⟨A5,c5,rfl,hrd⟩:=HO.o.rd1;have hcc:=ownL_cap HO.o;have hl9:l.length<=402:=za;have HRD:=zq hrd;have hwr:W.heap.size<=wr.heap.size:=HBR.o.size;have HJL:=zq hlj;obtain⟨wo,hwo⟩:∃wo:World,wo=wr:=⟨_,rfl⟩;subst hwo;clear HT2 hrd;go_wp2
     go_loopg[11] l.length (DyR3 wo n l)
     case atStart=>exact⟨rfl,rfl,aK _,fun j hj hmj=>za⟩
     case round =>
      obtain⟨hw,rfl,hgl,hup⟩:=hrel;subst hw;have HUP:=zq hup;clear hup cn
      rcases bI gk with h0|h0
      ·have hnf:n<=from_:=Int.not_lt.1 fun h=>by
        have:=HDY.o.pos (k:=gk) HUP.o h;omega
       have hd:decide (0<gk)=false:=aE za;have e1:decide (n<=from_)=true:=aD hnf;have HN:=zq (HNS.o l (HDY.o.out (.inl hnf)));clear hnf HUP h0;exact tb5
      ·obtain⟨b8,o8,hA,hb8,hc8⟩:=HRD.o.at_ za
       subst hA;have hq:gk-1<l.length:=za;have hcq:wo.cell? ⟨b8,o8+(gk-1),none⟩=some (.int .i64 l[gk-1]):=hc8 (gk-1) hq;have hd:decide (0<gk)=true:=aD h0;obtain⟨y,hy⟩:∃y,y=l[gk-1]:=⟨_,rfl⟩;rw[<-hy]at hcq;have HYE:=zq hy;clear hc8 hy
       by_cases hgt:n<y
       ·have e0:decide (n<y)=true:=aD hgt
        have HGT:=zq hgt;clear hgt;go_wp2
        go_roundg (gk-1)
        case measure=>omega
        case rel =>
         refine⟨rfl,zi,za,fun q hq2 hmq=>?_⟩
         by_cases e:q=gk-1
         ·subst e;rw[<-HYE.o];exact HGT.o
         ·exact HUP.o q hq2 za
       ·have e0:decide (n<y)=false:=aE hgt
        by_cases hn1:n<=from_
        ·have e1:decide (n<=from_)=true:=aD hn1
         have HN:=zq (HNS.o l (HDY.o.out (.inl hn1)));clear hn1 hgt HUP HYE;exact tb5
        ·have e1:decide (n<=from_)=false:=aE hn1
         by_cases hn2:to_<=n
         ·have e2:decide (to_<=n)=true:=aD hn2
          have HN:=zq (HNS.o l (HDY.o.out (.inr hn2)));clear hn1 hn2 hgt HUP HYE;exact tb5
         ·have e2:decide (to_<=n)=false:=aE hn2
          by_cases hye:y=n
          ·have e3:(y == n)=true:=by simpa using hye
           have HN:=zq (HNS.o l (HDY.o.there (by rw[<-hye,HYE.o];exact aH _)));clear hn1 hn2 hgt HUP HYE hye;exact tb5
          ·have e3:(y == n)=false:=by simpa using hye
           have HN:=zq (HNS.o _ (HDY.o.ins hgl HUP.o za za fun _=>by rw[<-HYE.o];omega));have hcut:=fun W=>run_cutToI (some ⟨b8,o8,none⟩) l.length c5 gk za W
           have hrest:=rd1_cutFrom (k:=gk) HRD.o hcc;have hcut2:=fun W=>run_cutFromI (some ⟨b8,o8,none⟩) l.length c5 gk hgl W
           generalize (if c5=gk then some (⟨b8,o8,none⟩:Addr) else (some (⟨b8,o8,none⟩:Addr)).map (·.add gk))=AF at *;have HREST:=zq hrest;have HCT:=zq (rd1_cutTo HRD.o gk);clear hn1 hn2 hgt HUP HYE hye hrest
           go_wp2_with (first
            |(at_builtin;refine wpList_pushL (f:=Value.int .i64) (fun _=>rfl) (.tmp 72) (.tmp 75) _ elInt rfl rfl wo.heap.size _ [] rfl (zAv.nil _ _ _ _ _) _ gk c5 (l.take gk) yc rfl HCT.o jl zg (aK _) ?_;intro v1 w1 hown1 hg1 hb1 hat1;have hz1:wo.heap.size<=w1.heap.size:=hb1.size;have HB01:=zq hb1;clear hg1 hat1 hb1 hcq)
            |(at_builtin;refine zAT (.tmp 77) (.tmp 79) _ elInt rfl rfl wo.heap.size _ ([]++l.take gk) rfl (hown1.alloc _) w1.heap.size 1 n rfl (aJ _ _) rfl zr jl zg zg ?_;intro v2 w2 hown2 hg2 D;have HB02:=zq ((HB01.o.alloc hz1 _).trans D);have hrd2:Rd1 (Value.int .i64) w2 AF (l.drop gk):=HREST.o.below HB02.o;have hz2:wo.heap.size<=w2.heap.size:=HB02.o.size;clear hown1 hg2 D)
            |(at_builtin;refine wpList_pushL (f:=Value.int .i64) (fun _=>rfl) (.tmp 81) (.tmp 84) _ elInt rfl rfl wo.heap.size _ ([]++l.take gk++[n]) rfl hown2 AF (l.length-gk) (c5-gk) (l.drop gk) (by rw[dH]) rfl hrd2 jl zg hz2 ?_;intro v3 w3 hown3 hg3 hb3 hat3;have HB03:=zq (HB02.o.trans hb3);have HO3:=zq hown3;clear hown2 hown3 hg3 hat3 hb3 hrd2))
           go_roundg (g2-1)
           case measure=>have:=HJ.o;omega
           case rel =>
            refine⟨j+1,_,l.take gk++n::l.drop gk,rfl,by have:=HJ.o;have:=HJL.o;omega,zi,HN.o,zg,?_,HBR.o.trans (HB03.o.mono hwr),fun q hq=>zAe HB03.o (HCL.o q hq)⟩
            have e:l.take gk++n::l.drop gk=[]++l.take gk++[n]++l.drop gk:=ze;rw[e];exact ownL_base HO3.o hwr
    ·obtain rfl:j=2:=by have:=HJ.o;omega
     have HD2:Hid (DyS from_ to_ (dyP U (k+1)) l):=HDY.o.congr fun x=>by rw[HSU.o x];simp
     go_wp2
     go_roundg (g1-1)
     case measure=>have:=HK.o;have:=HKL.o;omega
     case rel=>exact⟨k+1,_,l,rfl,by have:=HK.o;have:=HKL.o;omega,zi,HD2.o,za,HO.o,HBR.o⟩
  ·obtain rfl:k=U.length:=by have:=HK.o;omega
   obtain⟨A,c,rfl,hst⟩:=HO.o.rd1;have M:=zq hst;clear hst;go_wp2;go_ret
   exact⟨A,c,l,rfl,M.o,HDY.o,za,zAa HB.o HBR.o⟩
theorem to_ne{V:List Rg}{us:List BA}{U:List De}(h:zBY V us U=0):∀d∈U,d.kd=3->d.to_≠emp:=fun d hd hk=>by
 obtain⟨j,hj,rfl⟩:=bD hd;have hc:=(zAP h).2 j hj;generalize U[j]=d at hc hk;unfold zEe at hc
 split at hc
 ·cases hc
 split at hc
 ·cases hc
 split at hc
 ·cases hc
 split at hc
 ·cases hc
 split at hc
 ·cases hc
 split at hc
 ·cases hc
 rw[aF (by rw[hk];rfl)]at hc;unfold giftF at hc
 split at hc
 ·cases hc
 next J =>
 refine isNm_ne ?_
 cases hh:zBw d.to_ with
 |true=>rfl
 |false=>exact absurd (.inr (.inr hh)) J
end Go.Proofs.YtbbchlpccgkikaaGreatDoor
