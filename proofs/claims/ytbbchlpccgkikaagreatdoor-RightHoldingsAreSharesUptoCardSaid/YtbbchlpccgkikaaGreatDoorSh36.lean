/- Parts of the proof, joined: The row's frame: a title opened to its lists, the law's post from Belo. -/
import Derived.Test.YtbbchlpccgkikaaGreatDoorSh10
import Derived.Test.YtbbchlpccgkikaaGreatDoorRows
import Derived.Test.YtbbchlpccgkikaaGreatDoorCards
import Derived.Test.YtbbchlpccgkikaaGreatDoorTie
import Derived.ProofKit
import Derived.OpenShut
import Derived.ReadAgain
import Derived.Deep.Slices
import Derived.Deep.Fields
import Derived.ChangeSame
import Derived.Lib.SmallJoins
import Derived.Deep.DeepHandedRow
import Derived.Lib.LaidTab
import Derived.Lib.LaidU8
import Derived.Lib.DecodeN
set_option maxRecDepth 100000
set_option maxHeartbeats 8000000
namespace Go.Proofs.YtbbchlpccgkikaaGreatDoor
open Go.ChangeShapes Go.WideShapes Go.ChangeAt Go.RowKit Go.Deep Go.Joins Dw
theorem kids:Kids Tryz.prog (· < Tryz.prog.types.size):=kids_rows zb zb
theorem full:∀t e,t<Tryz.prog.types.size->Tryz.prog.underlying t=some (.slice e)->0<Tryz.prog.cellsOf e:=slices_full_of Tryz.prog zb
theorem zCL{α:Type}{n:Nat}{P:Nat->α->Prop}(h:∀i,i<n->∃t,P i t):∃l:List α,l.length=n/\∀i (hi:i<l.length),P i l[i]:=by
 induction n with
 |zero=>exact⟨[],rfl,fun i hi=>absurd hi zd⟩
 |succ n ih =>
  obtain⟨l,hl,hp⟩:=ih fun i hi=>h i za
  obtain⟨t,ht⟩:=h n za;refine⟨l++[t],by simp[hl],fun i hi=>?_⟩
  rcases aQ i n with h1|h1
  ·rw[eY za];exact hp i za
  ·have:i=n:=by simp[hl]at hi;omega
   subst this;rw[List.getElem_append_right za]
   simpa[hl]using ht
theorem bulk_one{H:Type}(d:DataW H):1<=Rows.uptoBulk d:=by
 cases d with
 |lit l=>cases l<;>simp[Rows.uptoBulk]
 |_=>simp[Rows.uptoBulk]
theorem bulk_part{H:Type}{d:DataW H}:∀{l:List (DataW H)},d∈l->Rows.uptoBulk d<=Rows.uptoBulkAll l
 |x::r,h=>by
  simp only[Rows.uptoBulkAll]
  rcases List.mem_cons.1 h with e|e
  ·subst e;omega
  ·have:=bulk_part e;omega
theorem bulk_len{H:Type}:∀l:List (DataW H),l.length<=Rows.uptoBulkAll l
 |[]=>by simp[Rows.uptoBulkAll]
 |x::r=>by
  have h1:=bulk_one x;have h2:=bulk_len r;simp only[Rows.uptoBulkAll,bP];omega
theorem bulk_elem{H:Type}{d:DataW H}{l r:List (DataW H)}(h:d∈l):Rows.uptoBulk d<=Rows.uptoBulk (.slice l r):=by
 have:=bulk_part h;simp only[Rows.uptoBulk];omega
theorem bulk_field{H:Type}{d:DataW H}{l:List (DataW H)}(h:d∈l):Rows.uptoBulk d<=Rows.uptoBulk (.agg l):=by
 have:=bulk_part h;simp only[Rows.uptoBulk];omega
section
variable {H:Type} {enc:TypeId×Value→H} {P:Program} {W W':World} {sp:Nat→Bool}
theorem reads_later(hb:Below W.heap.size W W'):∀{ts:List TypeId}{vs:List Value}{ds:List (DataW H)}{ps:List MemPlace},(∀p∈ps,p.block<W.heap.size)->DataW.TrodAll enc P W 0 sp true ts vs ds ps->DataW.TrodAll enc P W' 0 sp true ts vs ds ps
 |[],[],[],_,_,h=>h
 |_::_,_::_,_::_,_,hl,⟨p,q,⟨n,h1⟩,h2,e⟩ =>
  ⟨p,q,⟨n,DataW.trod_carry n _ _ _ h1 fun x hx=>hb.same (hl x (by rw[e];exact List.mem_append_left _ hx))⟩,reads_later hb (fun x hx=>hl x (by rw[e];exact List.mem_append_right _ hx)) h2,e⟩
theorem law_post{f:Func}{s:ChangeSpec}{args:Array Value}{ds gs:List (DataW H)}{before:List MemPlace}{tb:TypeId}(hW:DataW.Whole enc Tryz.prog f.params.toList s.vars false W args.toList ds gs before)(hv:s.vars=[])(hr:f.resultTypes=#[tb])(htb:Tryz.prog.underlying tb=some .bool)(hts:∀t∈f.params.toList,t<Tryz.prog.types.size)(hfn:(s.fn H ds).results=[.lit (.bool true)]/\(s.fn H ds).args=ds/\(s.fn H ds).vars=[])(hb:Below W.heap.size W W'): s.post enc Tryz.prog f false true false false W args (.bool true) W':=by
 have hW':=hW;obtain⟨p,q,hA,hV,rfl,hfz,_⟩:=hW;rw[hv]at hV;obtain⟨rfl,rfl⟩:=trodVars_none hV;have hlt:∀x∈p,x.block<W.heap.size:=hA.lt;refine⟨ds,[],p++[],[],p,[],hW',?_,?_,?_,hb.frame _ |> World.keptBut_mono (fun x hx=>⟨hx,.inr (.inl (by simpa using hx))⟩),fun h=>qg⟩
 ·rw[bE,hfn.1,hr]
  exact trodAll_mk1 (shut_bool htb true)
 ·rw[bE,hfn.2.1]
  exact reads_later hb hlt (DataW.TrodAll.respare kids full hts hA fun x hx=>by simpa using hlt x hx)
 ·rw[bE,hfn.2.2,hv]
  rfl
theorem open_ones{α:Type}{f:α->Value}{g:α->Prop}{t e:TypeId}{n:Nat}{v:Value}{y:DataW H×List MemPlace}(ht:P.underlying t=some (.slice e))(hc:P.cellsOf e=1)(he:∀n u z,DataW.trod enc P W 0 (fun _=>true) true n e [u]=some z->∃x,u=f x/\g x)(h:DataW.trod enc P W 0 (fun _=>true) true n t [v]=some y):
  ∃(A:Option Addr)(c:Nat)(l:List α),v=.slice A l.length c/\Rd1 f W A l/\l.length<=c/\l.length<=9223372036854775807/\∀x∈l,g x:=by
 rcases open_slice1 ht hc h with ⟨hcs,_⟩|⟨a,len,cap,m,k,V,D,Pl,hcs,_,hl,hm,hmm,_,hx⟩
 ·simp only[eA,and_true]at hcs
  subst hcs;exact⟨none,0,[],rfl,Rd1.nil,aE _,zd,fun x hx=>by cases hx⟩
 ·simp only[eA,and_true]at hcs
  subst hcs;simp only[if_true]at hmm;subst hmm;obtain⟨l,rfl,hp⟩:=zCL (n:=len) (P:=fun i x=>V i=f x/\g x) fun i hi=>he _ _ _ (hx i za).2
  unfold maxLen at hm;refine⟨some a,m,l,rfl,fun hpos=>?_,hl,za,fun x hxl=>?_⟩
  ·obtain⟨b,o,spot⟩:=a
   have hspot:spot=none:=by simpa[Addr.add]using World.cell?_spot (hx 0 za).1
   subst hspot;refine⟨b,o,rfl,fun i hi=>?_⟩;have e1:=(hx i za).1;rw[(hp i hi).1,add_plain]at e1;exact e1
  ·obtain⟨i,hi,rfl⟩:=dO hxl
   exact(hp i hi).2
theorem slice_bulk{t e:TypeId}{n len c:Nat}{A:Option Addr}{y:DataW H×List MemPlace}(ht:P.underlying t=some (.slice e))(h:DataW.trod enc P W 0 (fun _=>true) true n t [.slice A len c]=some y):len<=Rows.uptoBulk y.1:=by
 rcases open_slice ht h with ⟨hcs,_⟩|⟨a,len',cap,m,k,D,Pl,hcs,_,_,_,_,hx,_⟩
 ·simp only[eA,and_true,Value.slice.injEq]at hcs
  omega
 ·simp only[eA,and_true,Value.slice.injEq]at hcs
  obtain⟨_,rfl,_⟩:=hcs;rw[hx];have:=bulk_len ((List.range len).map D);simp only[Rows.uptoBulk,dE,List.length_range]at this ⊢;omega
theorem open_rows{t e:TypeId}{fs:Array Field}{n K:Nat}{v:Value}{y:DataW H×List MemPlace}(ht:P.underlying t=some (.slice e))(he:P.underlying e=some (.struct fs))(hC:P.cellsOf e=K)(hK:0<K)(h:DataW.trod enc P W 0 (fun _=>true) true n t [v]=some y):
  ∃(A:Option Addr)(len c:Nat),v=.slice A len c/\len<=c/\len<=Rows.uptoBulk y.1/\(0<len->∃b o:Nat,A=some ⟨b,o,none⟩/\∀i,i<len->∃cs:List Value,cs.length=K/\(∀(c:Nat)(u:Value),cs[c]?=some u->W.cell? ⟨b,o+i*K+c,none⟩=some u) /\
   ∀(j:Nat)(f:Field),fs[j]?=some f->∃(z:DataW H×List MemPlace)(m:Nat),DataW.trod enc P W 0 (fun _=>true) true m f.type ((cs.drop f.offset).take (P.cellsOf f.type))=some z/\Rows.uptoBulk z.1<=Rows.uptoBulk y.1):=by
 have hbk:=fun(A:Option Addr)(len c:Nat)(e1:v=.slice A len c)=>slice_bulk (A:=A) (len:=len) (c:=c) ht (by rw[<-e1];exact h)
 rcases open_slice ht h with ⟨hcs,_⟩|⟨a,len,cap,m,k,D,Pl,hcs,_,hl,hm,hmm,hyd,hx⟩
 ·simp only[eA,and_true]at hcs
  subst hcs;exact⟨none,0,0,rfl,aE _,bW _,fun h=>absurd h zd⟩
 ·simp only[eA,and_true]at hcs
  have hbl:=hbk _ _ _ hcs;subst hcs;simp only[if_true]at hmm;subst hmm;rw[hC]at hx
  have key:∀i,i<len->∃cs:List Value,cs.length=K/\(∀(c:Nat)(u:Value),cs[c]?=some u->W.cell? (a.add (i*K+c))=some u) /\
    ∀(j:Nat)(f:Field),fs[j]?=some f->∃(z:DataW H×List MemPlace)(m:Nat),DataW.trod enc P W 0 (fun _=>true) true m f.type ((cs.drop f.offset).take (P.cellsOf f.type))=some z/\Rows.uptoBulk z.1<=Rows.uptoBulk y.1:=fun i hi=>by
   obtain⟨cs',hc,ht'⟩:=hx i za;obtain⟨ys,n',_,hdi,hlen,hyl,hf⟩:=DataW.trod_struct he ht';simp only[Prod.mk.injEq]at hdi;obtain⟨_,hcl,hat⟩:=World.cells?_some hc;refine⟨cs',hcl,fun c u hu=>?_,fun j f hj=>?_⟩
   ·have hcK:c<K:=by
     have:=(List.getElem?_eq_some_iff.1 hu).1;omega
    rw[<-Go.Deep.add_add,hat c hcK,hu]
   ·have hjl:j<fs.size:=(Array.getElem?_eq_some_iff.1 hj).1
    have hys:ys[j]?=some (ys[j]'(by omega)):=List.getElem?_eq_getElem za;refine⟨_,n',(hf j f hj).trans hys,?_⟩
    have h1:Rows.uptoBulk (ys[j]'(by omega)).1<=Rows.uptoBulk (D i):=by
     rw[hdi.1];exact bulk_field (aS (bI za))
    have h2:Rows.uptoBulk (D i)<=Rows.uptoBulk y.1:=by
     rw[hyd];exact bulk_elem (aS (List.mem_range.2 hi))
    omega
  refine⟨some a,len,m,rfl,hl,hbl,fun hpos=>?_⟩;obtain⟨b,o,spot⟩:=a;obtain⟨cs,hcl,hc,_⟩:=key 0 hpos
  have hspot:spot=none:=by
   have:=hc 0 (cs[0]'(by omega)) (List.getElem?_eq_getElem za)
   simpa[Addr.add]using World.cell?_spot this
  subst hspot;refine⟨b,o,rfl,fun i hi=>?_⟩;obtain⟨cs,hcl,hc,hf⟩:=key i hi;refine⟨cs,hcl,fun c u hu=>?_,hf⟩
  have:=hc c u hu;rw[add_plain]at this;rw[Nat.add_assoc];exact this
theorem int_of{t:TypeId}{n:Nat}{u:Value}{z:DataW H×List MemPlace}(ht:P.underlying t=some (.int .i64))(h:DataW.trod enc P W 0 (fun _=>true) true n t [u]=some z):∃x:Int,u=.int .i64 x:=by
 obtain⟨x,hx,_⟩:=DataW.trod_int ht h;simp only[eA,and_true]at hx;exact⟨x,hx⟩
theorem bool_of{t:TypeId}{n:Nat}{u:Value}{z:DataW H×List MemPlace}(ht:P.underlying t=some .bool)(h:DataW.trod enc P W 0 (fun _=>true) true n t [u]=some z):∃x:Bool,u=.bool x:=by
 obtain⟨x,hx,_⟩:=DataW.trod_bool ht h;simp only[eA,and_true]at hx;exact⟨x,hx⟩
theorem zDj{t:TypeId}{n:Nat}{u:Value}{z:DataW H×List MemPlace}(ht:P.underlying t=some .string)(h:DataW.trod enc P W 0 (fun _=>true) true n t [u]=some z):∃x:BA,u=.string x/\x.size<=9223372036854775807:=by
 obtain⟨x,hx,_,hs⟩:=DataW.trod_string ht h;simp only[eA,and_true]at hx;unfold maxLen at hs;exact⟨x,hx,za⟩
theorem c_str:Tryz.prog.cellsOf 9=1:=zb
theorem c_int:Tryz.prog.cellsOf 3=1:=zb
theorem c_bool:Tryz.prog.cellsOf 4=1:=zb
theorem c_rat:Tryz.prog.cellsOf 36=2:=zb
theorem c_ars:Tryz.prog.cellsOf 41=1:=zb
theorem c_strs:Tryz.prog.cellsOf 23=1:=zb
theorem c_shs:Tryz.prog.cellsOf 31=1:=zb
theorem open_rat{n:Nat}{u v:Value}{z:DataW H×List MemPlace}(h:DataW.trod enc Tryz.prog W 0 (fun _=>true) true n 36 [u,v]=some z):∃a b:BA,u=.string a/\v=.string b/\a.size<=9223372036854775807/\b.size<=9223372036854775807:=by
 obtain⟨xs,m,_,_,_,hl,hf⟩:=DataW.trod_struct Tryz.underlying36 h;have h0:=hf 0 _ rfl;have h1:=hf 1 _ rfl;simp only[c_str,eM,cY,cT,aO,aN,aL,aM]at h0 h1
 match xs,hl with
 |[x0,x1],_ =>
  obtain⟨a,rfl,ha⟩:=zDj Tryz.underlying9 (h0.trans rfl);obtain⟨b,rfl,hb⟩:=zDj Tryz.underlying9 (h1.trans rfl);exact⟨a,b,rfl,rfl,ha,hb⟩
theorem open_strs{n:Nat}{v:Value}{z:DataW H×List MemPlace}(h:DataW.trod enc Tryz.prog W 0 (fun _=>true) true n 23 [v]=some z):∃(A:Option Addr)(c:Nat)(l:List BA),v=.slice A l.length c/\Strs W A l/\l.length<=Rows.uptoBulk z.1/\∀x∈l,x.size<=9223372036854775807:=by
 obtain⟨A,c,l,e,hl,_,_,hs⟩:=open_ones (f:=Value.string) (g:=fun s:BA=>s.size<=9223372036854775807) Tryz.underlying23 c_str (fun _ _ _ hh=>zDj Tryz.underlying9 hh) h;subst e;exact⟨A,c,l,rfl,hl,slice_bulk Tryz.underlying23 h,hs⟩
theorem open_ars{n:Nat}{v:Value}{z:DataW H×List MemPlace}(h:DataW.trod enc Tryz.prog W 0 (fun _=>true) true n 41 [v]=some z):∃(A:Option Addr)(c:Nat)(l:List Ar),v=.slice A l.length c/\Ars W A l/\l.length<=Rows.uptoBulk z.1:=by
 obtain⟨A,len,c,rfl,_,hm,hall⟩:=open_rows (K:=2) Tryz.underlying41 Tryz.underlying99 zb zc h
 by_cases hz:0<len
 ·obtain⟨b,o,rfl,hal2⟩:=hall hz
  obtain⟨l,rfl,hp⟩:=zCL (n:=len) (P:=fun i (x:Ar)=>W.cell? ⟨b,o+i*2,none⟩=some (.string x.rg)/\W.cell? ⟨b,o+i*2+1,none⟩=some (.bool x.out)) fun i hi=>by
   obtain⟨cs,hl,hc,hf⟩:=hal2 i hi
   match cs,hl with
   |[c0,c1],_ =>
    obtain⟨z0,m0,h0,b0⟩:=hf 0 _ rfl;obtain⟨z1,m1,h1,b1⟩:=hf 1 _ rfl;simp only[c_str,c_bool,eM,cY,cT,aO,aN,aL,aM]at h0 h1;obtain⟨a,rfl,_⟩:=zDj Tryz.underlying9 h0;obtain⟨b,rfl⟩:=bool_of Tryz.underlying4 h1;exact⟨⟨a,b⟩,hc 0 _ rfl,hc 1 _ rfl⟩
  exact⟨_,c,l,rfl,fun _=>⟨b,o,rfl,fun i hi=>hp i hi⟩,hm⟩
 ·obtain rfl:len=0:=by omega
  exact⟨A,c,[],rfl,Rd2.nil,bW _⟩
theorem open_shs{n:Nat}{v:Value}{z:DataW H×List MemPlace}(h:DataW.trod enc Tryz.prog W 0 (fun _=>true) true n 31 [v]=some z):
  ∃(A:Option Addr)(c:Nat)(l:List Sh),v=.slice A l.length c/\Shs W A l/\l.length<=Rows.uptoBulk z.1/\∀s∈l,s.pt.size<=9223372036854775807/\s.nu.size<=9223372036854775807/\s.de.size<=9223372036854775807:=by
 obtain⟨A,len,c,rfl,_,hm,hall⟩:=open_rows (K:=3) Tryz.underlying31 Tryz.underlying38 zb zc h
 by_cases hz:0<len
 ·obtain⟨b,o,rfl,hal2⟩:=hall hz
  obtain⟨l,rfl,hp⟩:=zCL (n:=len) (P:=fun i (x:Sh)=>(W.cell? ⟨b,o+i*3,none⟩=some (.string x.pt)/\W.cell? ⟨b,o+i*3+1,none⟩=some (.string x.nu)/\W.cell? ⟨b,o+i*3+2,none⟩=some (.string x.de)) /\
    x.pt.size<=9223372036854775807/\x.nu.size<=9223372036854775807/\x.de.size<=9223372036854775807) fun i hi=>by
   obtain⟨cs,hl,hc,hf⟩:=hal2 i hi
   match cs,hl with
   |[c0,c1,c2],_ =>
    obtain⟨z0,m0,h0,b0⟩:=hf 0 _ rfl;obtain⟨z1,m1,h1,b1⟩:=hf 1 _ rfl;simp only[c_str,c_rat,eM,cY,cT,aO,aN,aL,aM]at h0 h1;obtain⟨a,rfl,ha⟩:=zDj Tryz.underlying9 h0;obtain⟨p,q,rfl,rfl,hp,hq⟩:=open_rat h1;exact⟨⟨a,p,q⟩,⟨hc 0 _ rfl,hc 1 _ rfl,hc 2 _ rfl⟩,ha,hp,hq⟩
  refine⟨_,c,l,rfl,fun _=>⟨b,o,rfl,fun i hi=>(hp i hi).1⟩,hm,fun s hs=>?_⟩;obtain⟨i,hi,rfl⟩:=dO hs;exact(hp i hi).2
 ·obtain rfl:len=0:=by omega
  exact⟨A,c,[],rfl,(fun h=>absurd h zd),bW _,fun s hs=>by cases hs⟩
theorem open_rgs{n:Nat}{v:Value}{z:DataW H×List MemPlace}(h:DataW.trod enc Tryz.prog W 0 (fun _=>true) true n 22 [v]=some z):∃(A:Option Addr)(c:Nat)(l:List Rg),v=.slice A l.length c/\Rgs W A l/\l.length<=Rows.uptoBulk z.1/\∀i (h:i<l.length),(l[i]).nm.size<=9223372036854775807:=by
 obtain⟨A,len,c,rfl,_,hm,hall⟩:=open_rows (K:=2) Tryz.underlying22 Tryz.underlying97 zb zc h
 by_cases hz:0<len
 ·obtain⟨b,o,rfl,hal2⟩:=hall hz
  obtain⟨l,rfl,hp⟩:=zCL (n:=len) (P:=fun i (x:Rg)=>(W.cell? ⟨b,o+i*2,none⟩=some (.string x.nm)/\W.cell? ⟨b,o+i*2+1,none⟩=some (.string x.par))/\x.nm.size<=9223372036854775807) fun i hi=>by
   obtain⟨cs,hl,hc,hf⟩:=hal2 i hi
   match cs,hl with
   |[c0,c1],_ =>
    obtain⟨z0,m0,h0,b0⟩:=hf 0 _ rfl;obtain⟨z1,m1,h1,b1⟩:=hf 1 _ rfl;simp only[c_str,eM,cY,cT,aO,aN,aL,aM]at h0 h1;obtain⟨a,rfl,ha⟩:=zDj Tryz.underlying9 h0;obtain⟨b,rfl,_⟩:=zDj Tryz.underlying9 h1;exact⟨⟨a,b⟩,⟨hc 0 _ rfl,hc 1 _ rfl⟩,ha⟩
  exact⟨_,c,l,rfl,fun _=>⟨b,o,rfl,fun i hi=>(hp i hi).1⟩,hm,fun i hi=>(hp i hi).2⟩
 ·obtain rfl:len=0:=by omega
  exact⟨A,c,[],rfl,Rd2.nil,bW _,fun i hi=>absurd hi zd⟩
theorem open_des{n:Nat}{v:Value}{z:DataW H×List MemPlace}(hB:Rows.uptoBulk z.1<=1048576)(h:DataW.trod enc Tryz.prog W 0 (fun _=>true) true n 24 [v]=some z):∃(A:Option Addr)(c:Nat)(l:List De),v=.slice A l.length c/\Des W A l/\l.length<=Rows.uptoBulk z.1/\l.length<=c:=by
 obtain⟨A,len,c,rfl,hcp,hm,hall⟩:=open_rows (K:=16) Tryz.underlying24 Tryz.underlying126 zb zc h
 by_cases hz:0<len
 ·obtain⟨b,o,rfl,hal2⟩:=hall hz
  obtain⟨l,rfl,hp⟩:=zCL (n:=len) (P:=fun i (x:De)=>W.rangeAt b (o+i*16) (deC x).toList/\DeOk W x) fun i hi=>by
   obtain⟨cs,hl,hc,hf⟩:=hal2 i hi
   match cs,hl with
   |[c0,c1,c2,c3,c4,c5,c6,c7,c8,c9,c10,c11,c12,c13,c14,c15],_ =>
    obtain⟨z0,m0,h0,b0⟩:=hf 0 _ rfl;obtain⟨z1,m1,h1,b1⟩:=hf 1 _ rfl;obtain⟨z2,m2,h2,b2⟩:=hf 2 _ rfl;obtain⟨z3,m3,h3,b3⟩:=hf 3 _ rfl;obtain⟨z4,m4,h4,b4⟩:=hf 4 _ rfl;obtain⟨z5,m5,h5,b5⟩:=hf 5 _ rfl;obtain⟨z6,m6,h6,b6⟩:=hf 6 _ rfl;obtain⟨z7,m7,h7,b7⟩:=hf 7 _ rfl;obtain⟨z8,m8,h8,b8⟩:=hf 8 _ rfl;obtain⟨z9,m9,h9,b9⟩:=hf 9 _ rfl;obtain⟨z10,m10,h10,b10⟩:=hf 10 _ rfl;obtain⟨z11,m11,h11,b11⟩:=hf 11 _ rfl;obtain⟨z12,m12,h12,b12⟩:=hf 12 _ rfl;obtain⟨z13,m13,h13,b13⟩:=hf 13 _ rfl;obtain⟨z14,m14,h14,b14⟩:=hf 14 _ rfl;clear hf;simp only[c_str,c_int,c_bool,c_rat,c_ars,c_strs,c_shs,eM,cY,cT,aO,aN,aL,aM]at h0 h1 h2 h3 h4 h5 h6 h7 h8 h9 h10 h11 h12 h13 h14;obtain⟨x0,rfl,s0⟩:=zDj Tryz.underlying9 h0;obtain⟨x1,rfl⟩:=int_of Tryz.underlying3 h1;obtain⟨x2,rfl⟩:=int_of Tryz.underlying3 h2;obtain⟨x3,rfl,s3⟩:=zDj Tryz.underlying9 h3;obtain⟨x4,rfl,s4⟩:=zDj Tryz.underlying9 h4;obtain⟨x5,rfl,s5⟩:=zDj Tryz.underlying9 h5;obtain⟨x6,x7,rfl,rfl,s6,s7⟩:=open_rat h6;obtain⟨x8,rfl⟩:=bool_of Tryz.underlying4 h7;obtain⟨x9,rfl⟩:=bool_of Tryz.underlying4 h8;obtain⟨A1,n1,l1,rfl,r1,q1⟩:=open_ars h9;obtain⟨A2,n2,l2,rfl,r2,q2,_⟩:=open_strs h10;obtain⟨x12,rfl⟩:=int_of Tryz.underlying3 h11;obtain⟨x13,rfl⟩:=int_of Tryz.underlying3 h12;obtain⟨A3,n3,l3,rfl,r3,q3,z3⟩:=open_shs h13;obtain⟨x15,rfl,_⟩:=zDj Tryz.underlying9 h14;exact⟨⟨x0,x1,x2,x3,x4,x5,x6,x7,x8,x9,A1,l1,n1,A2,l2,n2,x12,x13,A3,l3,n3,x15⟩,fun c u hu=>hc c u hu,r1,r2,r3,⟨(show l1.length<=_ by omega),(show l2.length<=_ by omega),(show l3.length<=_ by omega)⟩,⟨s0,s3,s4,s5,s6,s7⟩,z3⟩
  have hb:b<W.heap.size:=by
   have:=(hp 0 hz).1 0 _ rfl;exact World.block_lt_of_cell? W _ this
  exact⟨_,c,l,rfl,fun _=>⟨b,o,rfl,hb,fun i hi=>hp i hi⟩,hm,hcp⟩
 ·obtain rfl:len=0:=by omega
  exact⟨A,c,[],rfl,(fun h=>absurd h zd),bW _,bW _⟩
structure TiOk (W:World) (RA:Option Addr) (rs:List Rg) (UA:Option Addr) (us:List BA) (DA:Option Addr) (ds:List De):Prop where
 rg:Rgs W RA rs
 st:Strs W UA us
 de:Des W DA ds
 rz:∀i (h:i<rs.length),(rs[i]).nm.size<=9223372036854775807
 uz:∀i (h:i<us.length),(us[i]).size<=9223372036854775807
 lens:rs.length<=1048576/\us.length<=1048576/\ds.length<=1048576
theorem open_title{r:Reach}{b0:Nat}{v:Value}{d:DataW H}{p:List MemPlace}(hB:Rows.uptoBulk d<=1048576)(hok:Value.okWide Tryz.prog W r b0 26 v)(h:DataW.Trod enc Tryz.prog W 0 (fun _=>true) true 26 v d p):
  ∃(RA:Option Addr)(rc:Nat)(rs:List Rg)(UA:Option Addr)(uc:Nat)(us:List BA)(DA:Option Addr)(dc:Nat)(ds:List De),v=.agg (tiC RA rc rs UA uc us DA dc ds)/\TiOk W RA rs UA us DA ds/\ds.length<=dc:=by
 obtain⟨v0,v1,v2,y0,y1,y2,n,rfl,hd,_,h0,h1,h2⟩:=open_agg3 Tryz.underlying26 zb zb hok h;have k0:Rows.uptoBulk y0.1<=Rows.uptoBulk d:=by rw[hd];exact bulk_field zd
 have k1:Rows.uptoBulk y1.1<=Rows.uptoBulk d:=by rw[hd];exact bulk_field zd
 have k2:Rows.uptoBulk y2.1<=Rows.uptoBulk d:=by rw[hd];exact bulk_field zd
 obtain⟨RA,rc,rs,rfl,hr,hrl,hrz⟩:=open_rgs h0;obtain⟨UA,uc,us,rfl,hu,hul,huz⟩:=open_strs h1;obtain⟨DA,dc,ds,rfl,hd,hdl,hcp⟩:=open_des za h2;exact⟨RA,rc,rs,UA,uc,us,DA,dc,ds,rfl,⟨hr,hu,hd,hrz,fun i hi=>huz _ (bI hi),za,za,za⟩,hcp⟩
theorem open_i{v:Value}{d:DataW H}{p:List MemPlace}{r:Reach}{b0:Nat}(hok:Value.okWide Tryz.prog W r b0 3 v)(h:DataW.Trod enc Tryz.prog W 0 (fun _=>true) true 3 v d p):∃n:Int,v=.int .i64 n/\-9223372036854775808<=n/\n<=9223372036854775807:=by
 obtain⟨n,rfl⟩:=okWide_int Tryz.underlying3 hok;obtain⟨fuel,hf⟩:=h;obtain⟨m,hm,_,hw⟩:=DataW.trod_int Tryz.underlying3 hf;simp only[Value.cells]at hm;have e:n=m:=by simpa using hm
 subst e;simp only[Lit.wf,dN,bG]at hw;have h1:IntKind.i64.min=-9223372036854775808:=zc;have h2:IntKind.i64.max=9223372036854775807:=zc;rw[h1,h2]at hw;exact⟨n,rfl,hw.1,hw.2⟩
theorem open_s{v:Value}{d:DataW H}{p:List MemPlace}{r:Reach}{b0:Nat}(hok:Value.okWide Tryz.prog W r b0 9 v)(h:DataW.Trod enc Tryz.prog W 0 (fun _=>true) true 9 v d p):∃s:BA,v=.string s/\s.size<=9223372036854775807:=by
 obtain⟨n,rfl⟩:=okWide_string Tryz.underlying9 hok;obtain⟨fuel,hf⟩:=h
 exact⟨n,rfl,by
  obtain⟨m,e,hs⟩:=zDj Tryz.underlying9 (u:=.string n) (by simpa[Value.cells]using hf)
  injection e with e;subst e;exact hs⟩
end
end Go.Proofs.YtbbchlpccgkikaaGreatDoor
namespace Go.Proofs.YtbbchlpccgkikaaGreatDoor
open Go.ChangeShapes Go.WideShapes Go.ChangeAt Go.RowKit Go.Deep Dw
theorem own:ownKnob Tryz.prog.godebug=none:=zb
noncomputable def laidWorld (os:Os):World:=
 let w0:=World.holding Tryz.prog os ⟨#[],#[],[]⟩
 let put (h:Array Obj) (g:Nat) (cs:Array Value):Array Obj:=h.modify g fun
  |.cells _ t frozen=>.cells cs t frozen
  |o=>o
 { w0 with heap:=put (put (put (put (put w0.heap 2 (Lib.firstTab.map fun z=>Value.int .u8 z).toArray) 3 ((List.range 16).flatMap fun i=>[Value.int .u8 (Lib.accLo i),Value.int .u8 (Lib.accHi i)]).toArray) 6 (([0,1,28,2,29,14,24,3,30,22,20,15,25,17,4,8,31,27,13,23,21,19,16,7,26,12,18,6,11,5,10,9]:List Int).map fun z=>Value.int .u8 z).toArray) 7 (([0,1,56,2,57,49,28,3,61,58,42,50,38,29,17,4,62,47,59,36,45,43,51,22,53,39,33,30,24,18,12,5,63,55,48,27,60,41,37,16,46,35,44,21,52,32,23,11,54,26,40,15,34,20,31,10,25,14,19,9,13,8,7,6]:List Int).map fun z=>Value.int .u8 z).toArray) 1 (([1,10,100,1000,10000,100000,1000000,10000000,100000000,1000000000,10000000000,100000000000,1000000000000,10000000000000,100000000000000,1000000000000000,10000000000000000,100000000000000000,1000000000000000000,10000000000000000000]:List Int).map fun z=>Value.int .u64 z).toArray }
end Go.Proofs.YtbbchlpccgkikaaGreatDoor
