/- Parts of the proof, joined: The reference's numbers: times, small. append(v, xs...) at elements of. -/
import Derived.Test.YtieoifkdobcpiaaGreatDoorSa19
import Derived.Shelf.Strconv.Atoi
set_option maxRecDepth 100000
set_option maxHeartbeats 8000000
namespace Go.Proofs.YtieoifkdobcpiaaGreatDoor
open Go.RowKit Dw
def MulLRel (w:World) (g:Nat) (l r:List Nat) (m:Nat) (iv:Value) (wr:World):Prop :=
 ∃ (k:Nat) (L:List Nat),k+m=l.length∧iv = .int .i64 k∧ArrI wr g L∧L.length=l.length+r.length∧WLt BT L∧zAf BT L=zAf BT (l.take k)*zAf BT r ∧
  (∀ x (h:x<L.length),k+r.length≤x→L[x]=0)∧Below w.heap.size w wr∧w.heap.size≤g
def MulLRel2 (w:World) (g:Nat) (l r:List Nat) (k x:Nat) (m:Nat) (cv jv:Value) (wr:World):Prop :=
 ∃ (j cy:Nat) (L:List Nat),j+m=r.length∧jv = .int .i64 j∧cv = .int .i64 (cy:Int)∧cy≤9999∧ArrI wr g L∧L.length=l.length+r.length∧WLt BT L ∧
  zAf BT L+BT ^ (k+j)*cy=zAf BT (l.take k)*zAf BT r+BT ^ k*(x*zAf BT (r.take j))∧(∀ x (h:x<L.length),k+r.length≤x→L[x]=0)∧Below w.heap.size w wr∧w.heap.size≤g
theorem MulLRel2.step {w wr:World} {g:Nat} {l r L:List Nat} {k x j cy gk t:Nat} (hkm:j+gk=r.length) (hlt:j<r.length) (hk:k<l.length) (hcy:cy≤9999) (hx:x≤9999) (hA:ArrI wr g L) (hL:L.length=l.length+r.length) (hr:WLt BT r) (hLt:WLt BT L)
  (hV:zAf BT L+BT ^ (k+j)*cy=zAf BT (l.take k)*zAf BT r+BT ^ k*(x*zAf BT (r.take j))) (hZ:∀ x (h:x<L.length),k+r.length≤x→L[x]=0) (hbw:Below w.heap.size w wr) (hwg:w.heap.size≤g)
  (ht:t=cy+(x*r[j]+L[k+j])) {cv iv mv:Value} (hc:cv = .int .i64 ((t / 10000:Nat):Int)) (hi:iv = .int .i64 ((j:Int)+1)) (hm:mv = .int .i64 ((t % 10000:Nat):Int)) :
  MulLRel2 w g l r k x (gk - 1) cv iv (wr.setCell ⟨g,k+j,none⟩ mv):=by
 subst hc hi hm;have hy:r[j]≤9999:=by have:=hr.get j hlt;rw [BT_eq] at this;omega
 have hz:L[k+j]≤9999:=by have:=hLt.get (k+j) za;rw [BT_eq] at this;omega
 have hxy:x*r[j]≤9999*9999:=Nat.mul_le_mul hx hy;refine ⟨j+1,t / 10000,L.set (k+j) (t % 10000),za,zi,rfl,by rw [ht];generalize x*r[j]=p at *;omega,hA.set (k+j) _,by simpa using hL,hLt.set (show t % 10000<BT from Nat.mod_lt t BT_pos) _,?_,fun i hi hki=>?_,hbw.setCell hwg _,hwg⟩
 ·have e1:=zDF BT L (k+j) (t % 10000) za
  rw [zAr hlt]
  have e2:BT ^ (k+j)*(t % 10000)+BT ^ (k+(j+1))*(t / 10000)=BT ^ (k+j)*t:=by
   rw [show k+(j+1)=(k+j)+1 by omega,Nat.pow_succ,Nat.mul_assoc,←Nat.mul_add,BT_eq,Nat.mod_add_div]
  have e3:BT ^ (k+j)*t=BT ^ (k+j)*cy+BT ^ (k+j)*(x*r[j])+BT ^ (k+j)*L[k+j]:=by
   rw [ht,Nat.mul_add,Nat.mul_add,Nat.add_assoc]
  have e4:BT ^ k*(x*(zAf BT (r.take j)+BT ^ j*r[j]))=BT ^ k*(x*zAf BT (r.take j))+BT ^ (k+j)*(x*r[j]):=by
   rw [Nat.mul_add,Nat.mul_add,Nat.pow_add,Nat.mul_left_comm x,Nat.mul_assoc]
  rw [e4];omega
 ·rw [List.getElem_set_ne za]
  exact hZ i yh za
theorem MulLRel.next {w wr:World} {g:Nat} {l r L:List Nat} {k cy gk:Nat} (hkm:k+1+gk=l.length) (hlt:k<l.length) (hcy:cy≤9999) (hA:ArrI wr g L) (hL:L.length=l.length+r.length) (hLt:WLt BT L)
  (hV:zAf BT L+BT ^ (k+r.length)*cy=zAf BT (l.take k)*zAf BT r+BT ^ k*(l[k]*zAf BT (r.take r.length))) (hZ:∀ x (h:x<L.length),k+r.length≤x→L[x]=0) (hbw:Below w.heap.size w wr) (hwg:w.heap.size≤g)
  {iv mv:Value} (hi:iv = .int .i64 ((k:Int)+1)) (hm:mv = .int .i64 (cy:Int)) :
  MulLRel w g l r gk iv (wr.setCell ⟨g,k+r.length,none⟩ mv):=by
 subst hi hm;refine ⟨k+1,L.set (k+r.length) cy,za,zi,hA.set _ _,by simpa using hL,hLt.set yt _,?_,fun i hi hki=>?_,hbw.setCell hwg _,hwg⟩
 ·have e1:=zDF BT L (k+r.length) cy za
  rw [hZ (k+r.length) za (Nat.le_refl _)] at e1;rw [List.take_of_length_le (Nat.le_refl _)] at hV;rw [zAr hlt,Nat.add_mul,Nat.mul_assoc (BT ^ k)];omega
 ·rw [List.getElem_set_ne za]
  exact hZ i yh za
theorem timesL_c (A A2:Option Addr) (c c2:Nat) (a b:Nat) (w:World) (h:Lms w A (zAc BT a)) (h2:Lms w A2 (zAc BT b)) (hn:(zAc BT a).length≤400000000) (hm:(zAc BT b).length≤400000000) :
  Calls Tryz.prog 43 #[lmV A c a,lmV A2 c2 b] w (zCE (a*b) w):=by
 have hmk:∀ w:World,(Instr.makeSlice 27 (.int .i64 (((zAc BT a).length:Int)+((zAc BT b).length:Int))) (.int .i64 (((zAc BT a).length:Int)+((zAc BT b).length:Int)))).run Tryz.prog w =
   .ok (.slice (some ⟨w.heap.size,0,none⟩) ((zAc BT a).length+(zAc BT b).length) ((zAc BT a).length+(zAc BT b).length)) (w.alloc (.cells (Array.replicate ((zAc BT a).length+(zAc BT b).length) (.int .i64 0)) 3)) :=
  mk_ints ((zAc BT a).length+(zAc BT b).length) za
 unfold lmV
 go_enter Tryz.func43,Tryz.ntmps43
 go_wp2;clear hmk;have hnew:=ArrI.new w ((zAc BT a).length+(zAc BT b).length);have hbel:Below w.heap.size w (w.alloc (.cells (Array.replicate ((zAc BT a).length+(zAc BT b).length) (.int .i64 0)) 3)):=(Below.refl _ _).alloc (Nat.le_refl _) _;obtain ⟨g,hg⟩:∃ g,g=w.heap.size:=⟨_,rfl⟩;rw [←hg] at hnew;obtain ⟨w1,hw1⟩:∃ w1,w1=w.alloc (.cells (Array.replicate ((zAc BT a).length+(zAc BT b).length) (.int .i64 0)) 3):=⟨_,rfl⟩;rw [←hw1] at hnew hbel;rw [←hg,←hw1];have HG:=zq hg;have HB:=zq hbel;clear hg hbel hw1;have hl:=zAE zAV a;have hr:=zAE zAV b;have HVA:=zq (zAj zAV a);have HVB:=zq (zAj zAV b);generalize zAc BT a=l at *;generalize zAc BT b=r at *
 go_loopg [6] l.length (MulLRel w g l r)
 case atStart=>exact ⟨0,List.replicate (l.length+r.length) 0,za,rfl,hnew,zd,WLt.zeros BT_pos _,by rw [wval_zeros];simp [zAf],fun x hx _=>zd,HB.o,ya⟩
 case round =>
  obtain ⟨k,L,hkm,rfl,hA,hL,hLt,hV,hZ,hbw,hwg⟩:=hrel;have HM:=zq hkm;have HV:=zq hV;have HZ:=zq hZ;have HL:=zq hL;clear hkm hV hZ hL
  by_cases hlt:k<l.length
  ·have hx:l[k]<10000:=hl.get k hlt
   go_wp2;obtain ⟨wo,hwo⟩:∃ wo:World,wo=wr:=⟨_,rfl⟩;subst hwo
   go_loopg [7,8] r.length (MulLRel2 w g l r k l[k])
   case atStart=>exact ⟨0,0,L,za,rfl,rfl,za,hA,HL.o,hLt,by rw [HV.o];simp [zAf],HZ.o,hbw,hwg⟩
   case round =>
    clear hA hbw;obtain ⟨j,cy,L2,hjm,rfl,rfl,hcy,hA2,hL2,hLt2,hV2,hZ2,hbw2,hwg2⟩:=hrel;have HM2:=zq hjm;have HV2:=zq hV2;have HZ2:=zq hZ2;have HL2:=zq hL2;clear hjm hV2 hZ2 hL2
    by_cases hj:j<r.length
    ·obtain ⟨b1,o1,hA0,hb1,hcl⟩:=(h.below hbw2).at_ za
     subst hA0;have hc0:=hcl k hlt;obtain ⟨b2,o2,hA02,hb2,hcl2⟩:=(h2.below hbw2).at_ za;subst hA02;have hc2:=hcl2 j hj;have hy:r[j]<10000:=hr.get j hj;have hkj:k+j<L2.length:=by have:=HL2.o;omega
     have hz:L2[k+j]<10000:=hLt2.get (k+j) hkj;have hc1:=hA2.cell (k+j) hkj;have hf1:=hA2.frozen (k+j);have hsz:=hA2.lt;obtain ⟨p,hp⟩:∃ p,p=l[k]*r[j]:=⟨_,rfl⟩;have hpB:p≤9999*9999:=by rw [hp];exact Nat.mul_le_mul za za
     have hpe:(l[k]:Int)*(r[j]:Int)=(p:Int):=by rw [hp];exact (Int.natCast_mul _ _).symm
     obtain ⟨T,hT⟩:∃ T,T=cy+(p+L2[k+j]):=⟨_,rfl⟩;have hTe:(L2[k+j]:Int)+(p:Int)+(cy:Int)=(T:Int):=by rw [hT];omega
     have hTB:T≤99999999:=za;have HT:Hid (T=cy+(l[k]*r[j]+L2[k+j])):=by show _=_;rw [hT,hp]
     clear hcl hcl2 hT hp;go_wp2
     go_quiet (fail)
     go_wp2
     go_roundg (gk - 1)
     case measure=>have:=HM2.o;omega
     case rel=>exact MulLRel2.step (wr:=wr.drewN _) HM2.o hj hlt hcy za (hA2.drewN _) HL2.o hr hLt2 HV2.o HZ2.o (zAd hbw2 _) hwg2 HT.o zd rfl zd
    ·obtain rfl:j=r.length:=by have:=HM2.o;omega
     have hkj:k+r.length<L2.length:=by have:=HL2.o;omega
     have hc1:=hA2.cell (k+r.length) hkj;rw [HZ2.o _ hkj (Nat.le_refl _)] at hc1;have hf1:=hA2.frozen (k+r.length);have hsz:=hA2.lt;go_wp2
     go_roundg (l.length - k - 1)
     case measure=>have:=HM.o;omega
     case rel=>exact MulLRel.next zx hlt hcy hA2 HL2.o hLt2 HV2.o HZ2.o hbw2 hwg2 rfl zd
  ·obtain rfl:k=l.length:=by have:=HM.o;omega
   go_wp2_with fail
   have HT:Hid (zAf BT L=a*b):=by
    show zAf BT L=_
    have:=HV.o
    rwa [List.take_of_length_le (Nat.le_refl _),HVA.o,HVB.o] at this
   have hl2:=HL.o;rw [←hl2];with_reducible refine (trimL_n _ _ L _ w za (Nat.le_refl _) hA.rd hLt hbw HT.o).mono ?_
   rintro e w' ⟨A,c,rfl,hn,hb⟩;clear hl2;go_wp2;go_ret
   exact ⟨A,c,rfl,hn,hb⟩
theorem lms_one (w:World) (n:Nat):Lms (w.alloc (.cells #[.int .i64 (n:Int)] 3)) (some ⟨w.heap.size,0,none⟩) [n]:=fun _=>⟨w.heap.size,0,rfl,fun i hi=>by
 have:i=0:=by simp at hi;omega
 subst this;rw [cell_of_row _ w.heap.size _ _ _ _ (heap_alloc_new _ _)];rfl⟩
theorem smallL_c (A:Option Addr) (c a n:Nat) (w:World) (h:Lms w A (zAc BT a)) (hn:(zAc BT a).length≤400000000) (hm:n≤9999) :
  Calls Tryz.prog 122 #[lmV A c a,.int .i64 (n:Int)] w (zCE (a*n) w):=by
 have hb:Below w.heap.size w (w.alloc (.cells #[.int .i64 (n:Int)] 3)):=(Below.refl _ _).alloc (Nat.le_refl _) _
 have HT:Hid (Calls Tryz.prog 85 #[.slice (some ⟨w.heap.size,0,none⟩) 1 1] (w.alloc (.cells #[.int .i64 (n:Int)] 3)) (zCE n w)) :=
  trimL_n (some ⟨w.heap.size,0,none⟩) 1 [n] (w.alloc (.cells #[.int .i64 (n:Int)] 3)) w zd zd (lms_one w n) (WLt.cons yt WLt.nil) hb (n:=n) (zBt BT n)
 go_enter Tryz.func122,Tryz.ntmps122
 go_wp2_with fail
 with_reducible refine HT.o.mono ?_
 rintro e w1 ⟨A1,c1,rfl,h1,hb1⟩
 have hl1:(zAc BT n).length≤400000000:=by
  have:=zAY zAV (a:=n) (k:=1) yt;omega
 clear HT hb
 go_wp2_with fail
 with_reducible refine (timesL_c A A1 c c1 a n w1 (h.below hb1) h1.rd hn hl1).mono ?_
 rintro e w2 ⟨A2,c2,rfl,h2,hb2⟩;have HB:=zq (zAb hb1 hb2);clear hb1 hb2;go_wp2;go_ret
 exact ⟨A2,c2,rfl,h2,HB.o⟩
end Go.Proofs.YtieoifkdobcpiaaGreatDoor
namespace Dw
open Go Go.RowKit
def RdK {α:Type} (enc:α→List Value) (w:World) (A:Option Addr) (l:List α):Prop :=
 0<l.length→∃ b o:Nat,A=some ⟨b,o,none⟩∧∀ j v,(l.flatMap enc)[j]?=some v→w.cell? ⟨b,o+j,none⟩=some v
theorem flat_cells {α:Type} {enc:α→List Value} {k:Nat} (hk:∀ x,(enc x).length=k) {w:World} {b:Nat}:∀ (l:List α) (o:Nat),
  (∀ i (h:i<l.length) c v,(enc l[i])[c]?=some v→w.cell? ⟨b,o+i*k+c,none⟩=some v)→∀ j v,(l.flatMap enc)[j]?=some v→w.cell? ⟨b,o+j,none⟩=some v
 | [],_,_,j,v,h=>by simp at h
 | a::t,o,hc,j,v,h=>by
  rw [List.flatMap_cons] at h
  by_cases hj:j<k
  ·rw [List.getElem?_append_left (by rw [hk];exact hj)] at h
   have:=hc 0 zd j v h
   simpa using this
  ·rw [List.getElem?_append_right (by rw [hk];omega),hk] at h
   have:=flat_cells hk t (o+k) (fun i hi c u hu=>by
    have h2:=hc (i+1) ze c u (by simpa using hu)
    rwa [show o+(i+1)*k+c=o+k+i*k+c by rw [Nat.add_mul];omega] at h2) (j - k) v h
   rwa [show o+k+(j - k)=o+j by omega] at this
theorem flat_len {α:Type} {enc:α→List Value} {k:Nat} (hk:∀ x,(enc x).length=k):∀ (l:List α),(l.flatMap enc).length=l.length*k
 | []=>zd
 | a::t=>by rw [List.flatMap_cons,List.length_append,hk,flat_len hk t,List.length_cons,Nat.add_mul];omega
theorem flat_at {α:Type} {enc:α→List Value} {k:Nat} (hk:∀ x,(enc x).length=k):∀ (l:List α) (i:Nat) (h:i<l.length) (c:Nat),c<k→(l.flatMap enc)[i*k+c]?=(enc l[i])[c]?
 | [],i,h,_,_=>by simp at h
 | a::t,0,_,c,hc=>by
  rw [List.flatMap_cons,List.getElem?_append_left (by rw [hk];omega)];simp
 | a::t,i+1,h,c,hc=>by
  rw [List.flatMap_cons,List.getElem?_append_right (by rw [hk,Nat.add_mul];omega),hk,show (i+1)*k+c - k=i*k+c by rw [Nat.add_mul];omega,flat_at hk t i zv c hc]
  simp
theorem addN (b o j:Nat):(⟨b,o,none⟩:Addr).add j=⟨b,o+j,none⟩:=by unfold Addr.add;split<;>simp_all
theorem wpList_pushK {P:Program} {α:Type} {enc:α→List Value} {k:Nat} (hk:∀ x,(enc x).length=k) (hf:∀ x,∀ u∈enc x,u.oneCell'=true) {ops:Array Oper} {rest:List Oper} {o:Oper} {a:Act} {w:World} {Q:Exit→Act→World→Prop}
  {e:TypeId} {z:Value} {bytes:Nat} (s x:Operand) (t:TypeId) (hT:ElemT P t e z k bytes) (hgd:o.guard=none) (ho:o.op = .call { callee:=.builtin .append,args:=#[s,x],argTypes:=#[t,t] })
  (base:Nat) (v:Value) (l:List α) (hs:a.eval s=v) (hown:zAQ enc k w base e v l)
  (A:Option Addr) (m cp:Nat) (ys:List α) (hm:m=ys.length) (hx:a.eval x = .slice A m cp) (hr:RdK enc w A ys) (hA:A≠none∨ys=[])
  (hlen:l.length+ys.length≤maxLen) (hbytes:(l.length+ys.length)*bytes≤140737488355328) (hbase:base≤w.heap.size)
  (h:∀ v' w',zAQ enc k w' base e v' (l++ys)→w.grownBy w' v.ownBlock→Below base w w'→(v'.ownBlock=v.ownBlock∨v'.ownBlock=some w.heap.size)→wpList P ops Q rest (a.put o.dst v') w'):wpList P ops Q (o::rest) a w:=by
 obtain ⟨i,hi,hz0,hz1,hz2⟩:=info_parts hT.info;subst hm
 have hfin:∀ v' w',w'.ownsRow base e k v' (l.length+ys.length) (l.flatMap enc++ys.flatMap enc)→zAQ enc k w' base e v' (l++ys):=fun v' w' h1=>by
  unfold zAQ;rw [List.length_append,List.flatMap_append];exact h1
 have hbel:∀ w',w.grownBy w' v.ownBlock→Below base w w':=fun w' hg=>(Below.refl _ _).grown hg hbase fun j hj=>(World.ownsRow.lt hown j hj).1
 cases A with
 | none =>
  have hy:ys=[]:=hA.resolve_left (fun h=>h rfl)
  subst hy;refine wpList_plain hgd fun _ hK=>?_
  have hrun:(Builtin.append_ #[t,t] o.type #[v,.slice none 0 cp]).run P w = .ok v w:=by
   rcases hown.2 with ⟨rfl,_⟩ | ⟨g,cap,cur,rfl,_,_,hnc,_⟩
   ·simp [Builtin.append_,run_underlying hT.ty,Go.sizeOf,typeInfo,hi,Builtin.lenOf,Builtin.firstCells]
   ·simp [Builtin.append_,run_underlying hT.ty,Go.sizeOf,typeInfo,hi,Builtin.lenOf,Builtin.firstCells,hnc,storeCells]
  unfold Oper.wp execOp;simp only [List.length_nil] at hx;simp only [ho,resolve,invoke,builtin,Sem.run_bind,Sem.run_pure,Result.andThen_ok,List.map_toArray,List.map_cons,List.map_nil,hs,hx,hrun];exact hK _ _ (h v w (by simpa using hown) (World.grownBy.refl w _) (hbel w (World.grownBy.refl w _)) (.inl rfl))
 | some ad =>
  refine wpList_append_own_at _ hgd s x t ho base e i z k bytes hT.ty hi hz0 hz1 hz2 hT.zs hT.pos v l.length _ hs hown ad ys.length cp (ys.flatMap enc) hx (flat_len hk ys) ?_ ?_ hlen hbytes hbase ?_
  ·intro j u hj
   have hjl:0<ys.length:=by
    refine Nat.pos_of_ne_zero fun e=>?_
    rw [List.eq_nil_of_length_eq_zero e] at hj;simp at hj
   obtain ⟨b,o,h1,hc⟩:=hr hjl
   injection h1 with h1
   subst h1;rw [addN];exact hc j u hj
  ·intro u hu
   obtain ⟨y,_,hy⟩:=List.mem_flatMap.1 hu;exact hf y u hy
  ·intro v' w' h1 h2 _ h4
   exact h v' w' (hfin v' w' h1) h2 (hbel w' h2) h4
theorem zAQ.rdk {α:Type} {enc:α→List Value} {k:Nat} {w:World} {base:Nat} {e:TypeId} {v:Value} {l:List α} (h:zAQ enc k w base e v l):∃ A c,v = .slice A l.length c∧RdK enc w A l:=by
 rcases h.2 with ⟨rfl,hn⟩ | ⟨g,cap,cur,rfl,hb,hgg,hnc,_,hsz,htake⟩
 ·exact ⟨none,0,by rw [hn],fun hl=>za⟩
 ·refine ⟨_,_,rfl,fun _=>⟨g,0,rfl,fun j v hv=>?_⟩⟩
  rw [←htake,List.getElem?_take] at hv
  split at hv
  ·rw [Nat.zero_add,cell_of_row w g j _ _ _ hgg]
   simpa using hv
  ·cases hv
section
variable {w:World} {A:Option Addr}
theorem RdK.of1 {α:Type} {f:α→Value} {l:List α} (h:Rd1 f w A l):RdK (fun x=>[f x]) w A l:=fun hl=>by
 obtain ⟨b,o,rfl,hc⟩:=h hl;refine ⟨b,o,rfl,flat_cells (k:=1) (fun _=>rfl) l o fun i hi c v hv=>?_⟩
 match c,hv with
 | 0,hv=>simp at hv;subst hv;rw [Nat.mul_one,Nat.add_zero];exact hc i hi
end
end Dw
namespace Go.Proofs.YtieoifkdobcpiaaGreatDoor
open Go.RowKit Dw
theorem own_one (w:World) (base n:Nat) (hb:base≤w.heap.size):OwnI (w.alloc (.cells #[.int .i64 (n:Int)] 3)) base (.slice (some ⟨w.heap.size,0,none⟩) 1 1) [n] :=
 ⟨rfl,.inr ⟨w.heap.size,1,_,rfl,hb,heap_alloc_new _ _,Nat.le_refl _,zk,rfl,rfl⟩⟩
theorem cmpN_le {a b:Nat} (h:a≤b):decide (zCM a b≤0)=true:=by
 rcases Nat.lt_or_ge a b with h1 | h1
 ·rw [zBw h1];rfl
 ·rw [zCq za];rfl
theorem cmpN_nle {a b:Nat} (h:¬ a≤b):decide (zCM a b≤0)=false:=by rw [zBu za];rfl
def DivLRel (w:World) (g:Nat) (l:List Nat) (b:Nat) (m:Nat) (rv iv:Value) (wr:World):Prop :=
 ∃ (L:List Nat) (R:Nat) (A:Option Addr) (c:Nat) (z:Int),m≤l.length∧z=(m:Int) - 1∧iv = .int .i64 z∧rv=lmV A c R∧Lt wr A c R∧ArrI wr g L∧L.length=l.length∧WLt BT L ∧
  R=zAf BT (l.drop m) % b∧zAf BT (L.drop m)=zAf BT (l.drop m) / b∧Below w.heap.size w wr∧w.heap.size≤g
def BsRel (w:World) (q:Nat) (m:Nat) (lv hv:Value) (wr:World):Prop :=
 ∃ lo hi:Nat,lv = .int .i64 (lo:Int)∧hv = .int .i64 (hi:Int)∧lo≤q∧q≤hi∧hi≤9999∧hi=lo+m∧Below w.heap.size w wr
theorem lms_some {w:World} {A:Option Addr} {l:List Nat} (h:Lms w A l):A≠none∨l=[]:=by
 rcases Nat.eq_zero_or_pos l.length with h0 | h0
 ·exact .inr (List.length_eq_zero_iff.1 h0)
 ·obtain ⟨b,o,rfl,_⟩:=h h0
  exact .inl zd
theorem divL_c (A A2:Option Addr) (c c2 a b:Nat) (w:World) (h:Lms w A (zAc BT a)) (h2:Lms w A2 (zAc BT b)) (hn:(zAc BT a).length≤200000000) (hm:(zAc BT b).length≤200000000) (hb0:0<b) :
  Calls Tryz.prog 83 #[lmV A c a,lmV A2 c2 b] w (fun e w'=>∃ A3 c3 A4 c4,e = .returned (.tuple #[lmV A3 c3 (a / b),lmV A4 c4 (a % b)])∧Lt w' A3 c3 (a / b)∧Lt w' A4 c4 (a % b)∧Below w.heap.size w w'):=by
 have hmk:∀ w:World,(Instr.makeSlice 27 (.int .i64 (((zAc BT a).length:Nat):Int)) (.int .i64 (((zAc BT a).length:Nat):Int))).run Tryz.prog w =
   .ok (.slice (some ⟨w.heap.size,0,none⟩) (zAc BT a).length (zAc BT a).length) (w.alloc (.cells (Array.replicate (zAc BT a).length (.int .i64 0)) 3)) :=
  mk_ints (zAc BT a).length za
 obtain ⟨l,hl⟩:∃ l,l=zAc BT a:=⟨_,rfl⟩;have ea:lmV A c a = .slice A l.length c:=by rw [hl]
 rw [ea];rw [←hl] at h hn hmk;have hlw:WLt BT l:=by rw [hl];exact zAE zAV a
 have HL:Hid (zAf BT l=a):=by show _=_;rw [hl];exact zAj zAV a
 clear hl ea
 go_enter Tryz.func83,Tryz.ntmps83
 go_wp2;clear hmk;have hnew:=ArrI.new w l.length;have hbel:Below w.heap.size w (w.alloc (.cells (Array.replicate l.length (.int .i64 0)) 3)):=(Below.refl _ _).alloc (Nat.le_refl _) _;obtain ⟨g,hg⟩:∃ g,g=w.heap.size:=⟨_,rfl⟩;rw [←hg] at hnew;obtain ⟨w1,hw1⟩:∃ w1,w1=w.alloc (.cells (Array.replicate l.length (.int .i64 0)) 3):=⟨_,rfl⟩;rw [←hw1] at hnew hbel;rw [←hg,←hw1];have HG:=zq hg;have HB:=zq hbel;clear hg hbel hw1
 go_loopg [7,8] l.length (DivLRel w g l b)
 case atStart =>
  refine ⟨List.replicate l.length 0,0,none,0,(l.length:Int) - 1,Nat.le_refl _,rfl,zi,rfl,⟨Rd1.nil,Nat.zero_le _⟩,hnew,zd,WLt.zeros BT_pos _,?_,?_,HB.o,ya⟩
  ·rw [List.drop_of_length_le (Nat.le_refl _)];simp [zAf]
  ·rw [List.drop_of_length_le (Nat.le_refl _),List.drop_of_length_le zd];simp [zAf]
 case round =>
  obtain ⟨L,R,A3,c3,z,hml,hz,rfl,rfl,hR,hA,hLl,hLw,hRv,hLv,hbw,hwg⟩:=hrel;have HRV:=zq hRv;have HLV:=zq hLv;have HLL:=zq hLl;have HRB:Hid (R<b):=by show R<b;rw [hRv];exact Nat.mod_lt _ hb0
  have hRl:(zAc BT R).length≤200000000:=by have:=zAq zAV (Nat.le_of_lt HRB.o);omega
  clear hRv hLv hLl
  rcases Nat.eq_zero_or_pos gk with h0 | h0
  ·subst h0
   obtain rfl:z = -1:=hz;have e1:zAf BT L=a / b:=by have:=HLV.o;rwa [List.drop_zero,List.drop_zero,HL.o] at this
   have e2:R=a % b:=by have:=HRV.o;rwa [List.drop_zero,HL.o] at this
   have HE2:=zq e2;have hll:=HLL.o;have HT:=zq (trimL_n (some ⟨g,0,none⟩) l.length L wr wr za za hA.rd hLw (Below.refl _ _) e1);rw [hll] at HT;clear e1 e2 hll
   go_wp2_with fail
   with_reducible refine HT.o.mono ?_
   rintro e w2 ⟨A5,c5,rfl,h5,hb5⟩;have HB5:=zq (zAb hbw hb5);have HR5:=zq (hR.below hb5);have H5:=zq h5;clear hb5 h5 HT hbw hR;go_wp2;go_ret2
   refine ⟨A5,c5,A3,c3,?_,H5.o,?_,HB5.o⟩
   ·rw [←HE2.o];rfl
   ·rw [←HE2.o];exact HR5.o
  ·obtain ⟨j,rfl⟩:∃ j,gk=j+1:=⟨gk - 1,za⟩
   obtain rfl:z=(j:Int):=za;clear hz;have hj:j<l.length:=za;obtain ⟨q0,o0,hA0,hq0,hcl⟩:=(h.below hbw).at_ za;subst hA0;have hc0:=hcl j hj;have hx:l[j]<10000:=hlw.get j hj;clear hcl;obtain ⟨V,hV⟩:∃ V,V=l[j]+BT*R:=⟨_,rfl⟩;have HVL:Hid (V<b*BT):=by show V<b*BT;rw [hV];exact next_lt HRB.o (by rw [BT_eq];exact hx)
   obtain ⟨q,hq⟩:∃ q,q=V / b:=⟨_,rfl⟩
   have hq9:q≤9999:=by
    have:=quot_lt (B:=BT) (u:=V) (v:=b) HVL.o;rw [←hq,BT_eq] at this;omega
   have HV:=zq hV;have HQ:=zq hq;clear hV hq
   go_wp2_with (at_builtin;refine wpList_pushK (k:=1) (enc:=encLm) (fun _=>rfl) (fun _ _ h=>by simp at h;subst h;rfl) _ _ _ elI rfl rfl wr.heap.size _ [l[j]] rfl (own_one wr wr.heap.size l[j] (Nat.le_refl _)) A3 _ c3 (zAc BT R) rfl rfl (RdK.of1 (Rd1.alloc hR.rd _)) (lms_some hR.rd) (by unfold maxLen;simp;omega) ze zd ?_;intro v7 w7 hown7 hg7 hb7 _)
   have hb8:=((Below.refl wr.heap.size wr).alloc (Nat.le_refl _) (.cells #[.int .i64 ((l[j]:Nat):Int)] 3)).trans hb7;obtain ⟨A7,c7,rfl⟩:=own_slice' hown7;have hcap:=own_capI hown7;have hT2:=trimL_x A7 c7 ([l[j]]++zAc BT R) w7 ze hcap.1 (own_lms hown7) (WLt.append (WLt.cons (by rw [BT_eq];exact hx) WLt.nil) (zAE zAV R)) (n:=V) (by rw [zAH,zBt,zAj zAV,HV.o];simp)
   have HT:=zq hT2.1;have H8:=zq hT2.2;have hgs:=hA.lt
   have HAN:Hid (∀ x o,A7=some ⟨x,o,none⟩→x≠g):=fun x o e=>by
    have h1:=(World.ownsRow.lt hown7 x (by rw [e];rfl)).1
    omega
   have hlen7:([l[j]]++zAc BT R).length=1+(zAc BT R).length:=ze;clear hown7 hg7 hb7 hc0 hcap hT2 hgs
   go_wp2_with fail
   with_reducible refine HT.o.mono ?_
   rintro e w7 ⟨rfl,rfl⟩;clear HT hlen7;have HBW7:=zq (zAb hbw hb8);have HA7:=zq (hA.below hb8)
   have hVl:(zAc BT V).length≤200000001:=by
    have h9:V<BT ^ ((zAc BT b).length+1):=by
     refine Nat.lt_of_lt_of_le HVL.o ?_
     rw [Nat.pow_succ];exact Nat.mul_le_mul_right _ (Nat.le_of_lt (zBe zAV b))
    have:=zAY zAV h9;omega
   clear hb8 hA hR hbw;go_wp2
   go_loopg [10,11] 9999 (BsRel w7 q)
   case atStart=>exact ⟨0,9999,rfl,rfl,za,hq9,za,za,Below.refl _ _⟩
   case round =>
    obtain ⟨lo,hi,rfl,rfl,hlo,hhi,hh9,hlh,hbs⟩:=hrel;have HBS:=zq hbs;have HLH:=zq hlh;clear hbs hlh
    by_cases hlt:lo<hi
    ·obtain ⟨md,hmd⟩:∃ md,md=(lo+hi+1) / 2:=⟨_,rfl⟩
     have hmdi:((lo:Int)+(hi:Int)+1) / 2=(md:Int):=by rw [hmd];omega
     have hm9:md≤9999:=za;have hm1:lo<md∧md≤hi:=za;have HMD:=zq hmd;clear hmd
     go_wp2_with fail
     with_reducible refine (smallL_c A2 c2 b md wr ((h2.below HBW7.o).below HBS.o) za hm9).mono ?_
     rintro e w9 ⟨A9,c9,rfl,h9,hb9⟩;have HBS9:=zq (zAb HBS.o hb9)
     have hl9:(zAc BT (b*md)).length≤1000000000:=by
      have h10:b*md<BT ^ ((zAc BT b).length+1):=by
       have e1:=zBe zAV b;have e2:b*md≤b*BT:=Nat.mul_le_mul_left _ yt;have e3:b*BT<BT ^ (zAc BT b).length*BT:=Nat.mul_lt_mul_of_pos_right e1 BT_pos;rw [Nat.pow_succ];omega
      have:=zAY zAV h10;omega
     have H9:=zq h9;clear hb9 h9
     go_wp2_with fail
     with_reducible refine (cmpL_c A9 A7 c9 c7 (b*md) V w9 H9.o.rd (H8.o.rd.below HBS9.o) hl9).mono ?_
     rintro e w10 ⟨rfl,nd,rfl⟩;clear hl9 H9
     by_cases hc:b*md≤V
     ·have hcb:=cmpN_le hc
      have hmq:md≤q:=by rw [HQ.o];exact (Nat.le_div_iff_mul_le hb0).2 (by rw [Nat.mul_comm];exact hc)
      clear hc;go_wp2
      go_roundg (hi - md)
      case measure=>have:=HLH.o;omega
      case rel=>exact ⟨md,hi,rfl,rfl,hmq,hhi,hh9,za,zAd HBS9.o _⟩
     ·have hcb:=cmpN_nle hc
      have hmq:q<md:=by rw [HQ.o];exact (Nat.div_lt_iff_lt_mul hb0).2 (by rw [Nat.mul_comm];omega)
      clear hc;go_wp2
      go_roundg (md - 1 - lo)
      case measure=>have:=HLH.o;omega
      case rel=>exact ⟨lo,md - 1,rfl,zi,hlo,za,za,za,zAd HBS9.o _⟩
    ·obtain rfl:lo=q:=by omega
     have HA:=zq (HA7.o.below HBS.o);have hcg:=HA.o.cell j (by have:=HLL.o;omega)
     have hfg:=HA.o.frozen j;have hsg:=HA.o.lt;have hll:=HLL.o;have HBV:=zq (zAb HBW7.o HBS.o);have HBE:=zq (HBV.o.setCell (p:=⟨g,j,none⟩) hwg (.int .i64 (lo:Int)));have HAE:=zq (HA.o.set j lo);have HVE:Hid (Lms (wr.setCell ⟨g,j,none⟩ (.int .i64 (lo:Int))) A7 (zAc BT V)):=lms_set (H8.o.rd.below HBS.o) HAN.o _;have hlV:b*lo≤V:=by rw [HQ.o];exact Nat.mul_div_le V b
     have HLV2:=zq hlV;clear hhi hh9 HLH hlV;obtain ⟨wS,hwS⟩:∃ wS,wS=wr.setCell ⟨g,j,none⟩ (.int .i64 (lo:Int)):=⟨_,rfl⟩;rw [←hwS] at HBE HAE HVE
     go_wp2_with fail
     rw [←hwS];clear hcg hfg hsg hll hwS hlt;with_reducible refine (smallL_c A2 c2 b lo wS (h2.below HBE.o) za hq9).mono ?_
     rintro e w9 ⟨A9,c9,rfl,h9,hb9⟩;have H9:=zq h9;have HB9:=zq hb9;clear h9 hb9
     go_wp2_with fail
     with_reducible refine (lessL_c A7 A9 c7 c9 V (b*lo) w9 (HVE.o.below HB9.o) H9.o.rd za HLV2.o).mono ?_
     rintro e w10 ⟨A10,c10,rfl,h10,hb10⟩;have HBX:=zq (zAb HB9.o hb10);have H10:=zq h10;clear h10 hb10 H9 HB9;go_wp2
     go_roundg j
     case measure=>omega
     case rel =>
      have e1:=zCU (B:=BT) hj;have e2:=div_next (B:=BT) (r:=R) (v:=b) (x:=l[j]) hb0 (zAf BT (L.drop (j+1)))
      have e3:zAf BT (l.drop (j+1))=zAf BT (L.drop (j+1))*b+R:=by
       rw [HLV.o,HRV.o,Nat.mul_comm];exact (Nat.div_add_mod _ _).symm
      rw [←e3,←e1,←HV.o] at e2;have hjL:j<L.length:=by have:=HLL.o;omega
      refine ⟨L.set j lo,V - b*lo,A10,c10,_,za,rfl,zi,rfl,H10.o,HAE.o.below HBX.o,by rw [List.length_set];exact HLL.o,hLw.set yt j,?_,?_,zAb HBE.o HBX.o,hwg⟩
      ·rw [e2.2]
       have:=Nat.div_add_mod V b;rw [←HQ.o] at this;omega
      ·rw [zDx L j lo hjL,e2.1]
       show lo+BT*_=_
       rw [←HQ.o];omega
def ComRel (w:World) (a b:Nat) (m:Nat) (v0 v1:Value) (wr:World):Prop :=
 ∃ (x y:Nat) (A:Option Addr) (c:Nat) (A2:Option Addr) (c2:Nat),y=m∧v0=lmV A c x∧v1=lmV A2 c2 y∧Lt wr A c x∧Lt wr A2 c2 y∧Nat.gcd x y=Nat.gcd a b∧(zAc BT x).length≤200000000∧(zAc BT y).length≤200000000∧Below w.heap.size w wr
theorem commonL_c (A A2:Option Addr) (c c2 a b:Nat) (w:World) (h:Lt w A c a) (h2:Lt w A2 c2 b) (hn:(zAc BT a).length≤200000000) (hm:(zAc BT b).length≤200000000) :
  Calls Tryz.prog 42 #[lmV A c a,lmV A2 c2 b] w (zCE (Nat.gcd a b) w):=by
 go_enter Tryz.func42,Tryz.ntmps42
 go_wp2
 go_loopg [0,1] b (ComRel w a b)
 case atStart=>exact ⟨a,b,A,c,A2,c2,rfl,rfl,rfl,h,h2,rfl,hn,hm,Below.refl _ _⟩
 case round =>
  obtain ⟨x,y,A3,c3,A4,c4,hy,rfl,rfl,h3,h4,hg,hl1,hl2,hbw⟩:=hrel;have HG:=zq hg;have HB:=zq hbw;have HY:=zq hy;clear hg hbw hy
  rcases Nat.eq_zero_or_pos y with h0 | h0
  ·subst h0
   have hz:(zAc BT 0).length=0:=rfl;have HGE:Hid (x=Nat.gcd a b):=by show _=_;rw [←HG.o,Nat.gcd_zero_right]
   unfold lmV;rw [hz];go_wp2;go_ret
   exact ⟨A3,c3,by rw [←HGE.o];rfl,by rw [←HGE.o];exact h3,HB.o⟩
  ·have hp:0<(zAc BT y).length:=by
    refine Nat.pos_of_ne_zero fun e=>?_
    have:=(zCa zAV (n:=y)).1 (List.eq_nil_of_length_eq_zero e);omega
   have hr:(zAc BT (x % y)).length≤200000000:=by have:=zAq zAV (Nat.le_of_lt (Nat.mod_lt x h0));omega
   go_wp2_with fail
   with_reducible refine (divL_c A3 A4 c3 c4 x y wr h3.rd h4.rd hl1 hl2 h0).mono ?_
   rintro e w2 ⟨A5,c5,A6,c6,rfl,h5,h6,hb2⟩;have HB2:=zq (zAb HB.o hb2);have H4:=zq (h4.below hb2);have H6:=zq h6;clear hb2 h5 h6 h3 h4 hp;go_wp2
   go_roundg (x % y)
   case measure=>have:=Nat.mod_lt x h0;have:=HY.o;omega
   case rel=>exact ⟨y,x % y,A4,c4,A6,c6,rfl,rfl,rfl,H4.o,H6.o,by rw [←HG.o];exact gcd_step.symm,hl2,hr,HB2.o⟩
end Go.Proofs.YtieoifkdobcpiaaGreatDoor
namespace Go.Proofs
open Go.Shelf
def Tryz.lays172_ren:Go.Shelf.Ren:=⟨fun | 172=>84 | 244=>123 | 245=>124 | 247=>182 | 279=>183 | 280=>184 | 281=>185 | 282=>186 | 287=>232 | 316=>233 | 171=>144 | 205=>234 | 321=>264 | 322=>265 | 243=>198 | 246=>246 | 283=>125 | 284=>126 | 285=>127 | 286=>128 | 129=>161 | 317=>187 | 318=>188 | 319=>189 | 320=>190 | 337=>235 | 338=>236 | n=>n,fun | 9=>9 | 3=>3 | 75=>162 | 76=>163 | 4=>4 | 5=>5 | 167=>253 | 37=>131 | 0=>0 | 85=>254 | 2=>2 | 168=>256 | 53=>95 | 175=>293 | 46=>188 | 210=>297 | 127=>308 | 145=>322 | 143=>320 | 21=>21 | 171=>202 | 173=>205 | 212=>261 | 51=>197 | 20=>20 | 213=>262 | 232=>323 | 233=>324 | 80=>192 | n=>n,fun | 15=>1 | 16=>2 | 17=>0 | 18=>3 | 19=>4 | n=>n⟩
theorem Tryz.lays172:Go.Proofs.Lays.n172 Tryz.prog Tryz.lays172_ren:={
 mixed:=zb
 f129:=Tryz.func161.trans (congrArg some zb)
 f171:=Tryz.func144.trans (congrArg some zb)
 f172:=Tryz.func84.trans (congrArg some zb)
 f205:=Tryz.func234.trans (congrArg some zb)
 f243:=Tryz.func198.trans (congrArg some zb)
 f244:=Tryz.func123.trans (congrArg some zb)
 f245:=Tryz.func124.trans (congrArg some zb)
 f246:=Tryz.func246.trans (congrArg some zb)
 f247:=Tryz.func182.trans (congrArg some zb)
 f279:=Tryz.func183.trans (congrArg some zb)
 f280:=Tryz.func184.trans (congrArg some zb)
 f281:=Tryz.func185.trans (congrArg some zb)
 f282:=Tryz.func186.trans (congrArg some zb)
 f283:=Tryz.func125.trans (congrArg some zb)
 f284:=Tryz.func126.trans (congrArg some zb)
 f285:=Tryz.func127.trans (congrArg some zb)
 f286:=Tryz.func128.trans (congrArg some zb)
 f287:=Tryz.func232.trans (congrArg some zb)
 f316:=Tryz.func233.trans (congrArg some zb)
 f317:=Tryz.func187.trans (congrArg some zb)
 f318:=Tryz.func188.trans (congrArg some zb)
 f319:=Tryz.func189.trans (congrArg some zb)
 f320:=Tryz.func190.trans (congrArg some zb)
 f321:=Tryz.func264.trans (congrArg some zb)
 f322:=Tryz.func265.trans (congrArg some zb)
 f337:=Tryz.func235.trans (congrArg some zb)
 f338:=Tryz.func236.trans (congrArg some zb)
 t0:=Tryz.underlying0
 a0:=Tryz.isAgg0
 z0:=Tryz.sizeOf0
 v0:=Tryz.zeroValue0
 t2:=Tryz.underlying2
 a2:=Tryz.isAgg2
 z2:=Tryz.sizeOf2
 v2:=Tryz.zeroValue2
 t3:=Tryz.underlying3
 a3:=Tryz.isAgg3
 z3:=Tryz.sizeOf3
 v3:=Tryz.zeroValue3
 t4:=Tryz.underlying4
 a4:=Tryz.isAgg4
 z4:=Tryz.sizeOf4
 v4:=Tryz.zeroValue4
 t5:=Tryz.underlying5
 a5:=Tryz.isAgg5
 z5:=Tryz.sizeOf5
 v5:=Tryz.zeroValue5
 t9:=Tryz.underlying9
 a9:=Tryz.isAgg9
 z9:=Tryz.sizeOf9
 v9:=Tryz.zeroValue9
 t20:=Tryz.underlying20
 a20:=Tryz.isAgg20
 z20:=Tryz.sizeOf20
 v20:=Tryz.zeroValue20
 t21:=Tryz.underlying21
 a21:=Tryz.isAgg21
 z21:=Tryz.sizeOf21
 v21:=Tryz.zeroValue21
 t37:=Tryz.underlying131
 a37:=Tryz.isAgg131
 z37:=Tryz.sizeOf131
 v37:=Tryz.zeroValue131
 t46:=Tryz.underlying188
 a46:=Tryz.isAgg188
 z46:=Tryz.sizeOf188
 v46:=Tryz.zeroValue188
 t51:=Tryz.underlying197
 a51:=Tryz.isAgg197
 z51:=Tryz.sizeOf197
 v51:=Tryz.zeroValue197
 t53:=Tryz.underlying95
 a53:=Tryz.isAgg95
 z53:=Tryz.sizeOf95
 v53:=Tryz.zeroValue95
 t75:=Tryz.underlying162
 a75:=Tryz.isAgg162
 z75:=Tryz.sizeOf162
 v75:=Tryz.zeroValue162
 t76:=Tryz.underlying163
 a76:=Tryz.isAgg163
 z76:=Tryz.sizeOf163
 v76:=Tryz.zeroValue163
 t85:=Tryz.underlying254
 a85:=Tryz.isAgg254
 z85:=Tryz.sizeOf254
 v85:=Tryz.zeroValue254
 t127:=Tryz.underlying308
 a127:=Tryz.isAgg308
 z127:=Tryz.sizeOf308
 v127:=Tryz.zeroValue308
 t143:=Tryz.underlying320
 a143:=Tryz.isAgg320
 z143:=Tryz.sizeOf320
 v143:=Tryz.zeroValue320
 t145:=Tryz.underlying322
 a145:=Tryz.isAgg322
 z145:=Tryz.sizeOf322
 v145:=Tryz.zeroValue322
 t167:=Tryz.underlying253
 a167:=Tryz.isAgg253
 z167:=Tryz.sizeOf253
 v167:=Tryz.zeroValue253
 t168:=Tryz.underlying256
 a168:=Tryz.isAgg256
 z168:=Tryz.sizeOf256
 v168:=Tryz.zeroValue256
 t171:=Tryz.underlying202
 a171:=Tryz.isAgg202
 z171:=Tryz.sizeOf202
 v171:=Tryz.zeroValue202
 t173:=Tryz.underlying205
 a173:=Tryz.isAgg205
 z173:=Tryz.sizeOf205
 v173:=Tryz.zeroValue205
 t175:=Tryz.underlying293
 a175:=Tryz.isAgg293
 z175:=Tryz.sizeOf293
 v175:=Tryz.zeroValue293
 t210:=Tryz.underlying297
 a210:=Tryz.isAgg297
 z210:=Tryz.sizeOf297
 v210:=Tryz.zeroValue297
 t212:=Tryz.underlying261
 a212:=Tryz.isAgg261
 z212:=Tryz.sizeOf261
 v212:=Tryz.zeroValue261
 t213:=Tryz.underlying262
 a213:=Tryz.isAgg262
 z213:=Tryz.sizeOf262
 t232:=Tryz.underlying323
 a232:=Tryz.isAgg323
 z232:=Tryz.sizeOf323
 v232:=Tryz.zeroValue323
 t233:=Tryz.underlying324
 a233:=Tryz.isAgg324
 z233:=Tryz.sizeOf324
 v233:=Tryz.zeroValue324
 g15:=zb
 g16:=zb
 g17:=zb
 g18:=zb
 g19:=by kernel_rfl }
end Go.Proofs
namespace Go.Proofs.YtieoifkdobcpiaaGreatDoor
open Go.Shelf Go.RowKit Go.Lib Dw
theorem zDc (c:UInt8):dgB c=true↔48≤c.toNat∧c.toNat≤57:=by unfold dgB;simp
theorem decFrom_dec:∀ (l:List UInt8) (n:Nat),l.all dgB=true→Lib.decFrom n l=some (l.foldl (fun n c=>10*n+(c.toNat - 48)) n)
 | [],n,_=>rfl
 | c::l,n,h=>by
  simp only [List.all_cons,Bool.and_eq_true] at h;have hd:Lib.digitVal c=some (c.toNat - 48):=by unfold Lib.digitVal;rw [if_pos ((zDc c).1 h.1)]
  unfold Lib.decFrom;rw [hd]
  show Lib.decFrom (n*10+(c.toNat - 48)) l=_
  rw [decFrom_dec l _ h.2,List.foldl_cons,Nat.mul_comm n 10]
theorem atoi_dec {l:List UInt8} (hl:l≠[]) (h:l.all dgB=true):Lib.atoi l=some ((zBv l:Nat):Int):=by
 cases l with
 | nil=>exact absurd rfl hl
 | cons c l =>
  have hc:48≤c.toNat∧c.toNat≤57:=by
   simp only [List.all_cons,Bool.and_eq_true] at h;exact (zDc c).1 h.1
  have e1:(c == 45)=false:=by
   rw [beq_eq_false_iff_ne];intro e;rw [e] at hc;have h2:=hc.1;simp at h2
  have e2:(c == 43)=false:=by
   rw [beq_eq_false_iff_ne];intro e;rw [e] at hc;have h2:=hc.1;simp at h2
  show (if (c == 45)=true then _ else if (c == 43)=true then _ else (Lib.decNat (c::l)).map fun (m:Nat)=>(m:Int))=_
  rw [e1,e2];have e3:Lib.decNat (c::l)=some (zBv (c::l)):=decFrom_dec (c::l) 0 h;simp [e3]
theorem below_bytes (w:World) (e:TypeId) (t:ByteArray):Below w.heap.size w (Lib.bytesWorld w e t) :=
 ⟨rfl,rfl,rfl,by simp [Lib.bytesWorld,World.freeze,World.alloc,World.drew,-World.alloc_eq,-World.drew_eq],fun k hk=>Lib.bytesWorld_at_old w e t k hk⟩
theorem atoi_c (s:ByteArray) (w:World) (h0:0<s.size) (h1:s.size≤18) (h:s.data.toList.all dgB=true) :
  Calls Tryz.prog 84 #[.string s] w (zAe (.tuple #[.int .i64 ((zBv s.data.toList:Nat):Int),.nilIface]) w):=by
 have hn:s.data.toList≠[]:=fun e=>by
  have:=Lib.size_eq s;rw [e,List.length_nil] at this;omega
 have hA:=Any.strconv_Atoi Tryz.lays172 s _ h1 (atoi_dec hn h) w
 change Calls Tryz.prog 84 _ _ _ at hA
 refine hA.mono fun e w' ⟨he,t,hw⟩=>⟨he,?_⟩
 rw [hw];exact below_bytes w _ t
theorem len_data (s:ByteArray):s.data.toList.length=s.size:=(Lib.size_eq s).symm
def LmbRel (w:World) (l:List UInt8) (m:Nat) (sv ov:Value) (wr:World):Prop :=
 ∃ (t:ByteArray) (out:List Nat),t.size=m∧sv = .string t∧t.data.toList.all dgB=true∧WLt BT out∧out.length+t.size≤l.length∧zBv l=zBv t.data.toList*BT ^ out.length+zAf BT out∧OwnI wr w.heap.size ov out∧Below w.heap.size w wr
theorem zCL (s:ByteArray) (w:World) (hd:s.data.toList.all dgB=true) (hs:s.size≤400000000):Calls Tryz.prog 38 #[.string s] w (zCE (zBv s.data.toList) w):=by
 have hsl:=len_data s
 go_enter Tryz.func38,Tryz.ntmps38
 go_wp2
 go_loopg [0,3] s.size (LmbRel w s.data.toList)
 case atStart=>exact ⟨s,[],rfl,rfl,hd,WLt.nil,by simp [hsl],qe,zAQ.nil _ _ _ _ _,Below.refl _ _⟩
 case round =>
  obtain ⟨t,out,hm,rfl,htd,how,hol,hv,hown,hbw⟩:=hrel;have HTD:=zq htd;have HW:=zq how;have HV:=zq hv;have HB:=zq hbw;have htl:=len_data t;have HM:=zq hm;clear htd how hv hbw hm
  rcases Nat.eq_zero_or_pos t.size with h0 | h0
  ·have htn:t.data.toList=[]:=List.length_eq_zero_iff.1 za
   have HE:Hid (zAf BT out=zBv s.data.toList):=by
    show _=_
    have:=HV.o;rw [htn] at this;rw [this];simp [zBv]
   obtain ⟨A9,c9,rfl⟩:=own_slice' hown;have HT:=zq (trimL_n A9 c9 out wr w za (own_capI hown).1 (own_lms hown) HW.o HB.o HE.o)
   go_wp2_with fail
   with_reducible refine HT.o.mono ?_
   rintro e w7 ⟨A7,c7,rfl,hl7,hb7⟩;have HL7:=zq hl7;have HB7:=zq hb7;clear hl7 hb7 HT;go_wp2;go_ret
   exact ⟨A7,c7,rfl,HL7.o,HB7.o⟩
  ·obtain ⟨k,hk⟩:∃ k,k=t.size - 4:=⟨_,rfl⟩
   have hki:max (0:Int) ((t.size:Int) - 4)=(k:Int):=za;have hk2:k<t.size∧t.size≤k+4:=za;have HK:=zq hk;clear hk
   have hxl:(t.extract k t.size).data.toList=t.data.toList.drop k:=by
    rw [Lib.extract_data,List.take_of_length_le (by rw [List.length_drop,htl];omega)]
   have hyl:(t.extract 0 k).data.toList=t.data.toList.take k:=by
    rw [Lib.extract_data,List.drop_zero,Nat.sub_zero]
   have hxs:(t.extract k t.size).size=t.size - k:=by rw [←len_data,hxl,List.length_drop,htl]
   have hys:(t.extract 0 k).size=k:=by rw [←len_data,hyl,List.length_take,htl];omega
   have HXL:=zq hxl;have HYL:=zq hyl;obtain ⟨x,hx⟩:∃ x,x=zBv (t.data.toList.drop k):=⟨_,rfl⟩
   have hxB:x<10000:=by
    have h1:=decV_lt (l:=t.data.toList.drop k) (fun c hc=>by
     have:=List.all_eq_true.1 HTD.o c (List.mem_of_mem_drop hc);have:=(zDc c).1 this;omega)
    rw [←hx,List.length_drop,htl] at h1;have h2:(10:Nat) ^ (t.size - k)≤10 ^ 4:=Nat.pow_le_pow_right zc za;have h3:(10:Nat) ^ 4=10000:=zc;omega
   have HA:=zq (atoi_c (t.extract k t.size) wr za za (by rw [hxl,List.all_eq_true];exact fun c hc=>List.all_eq_true.1 HTD.o c (List.mem_of_mem_drop hc)))
   rw [hxl,←hx] at HA
   have HC:Hid (zBv t.data.toList=zBv (t.data.toList.take k)*10 ^ (t.size - k)+x):=by
    show _=_
    rw [hx,←htl];exact decV_cut _ k
   clear hxl hyl hx
   go_wp2_with fail
   with_reducible refine HA.o.mono ?_
   rintro e w2 ⟨rfl,hb2⟩;have HO2:=zq (hown.below hb2);have HB2:=zq (zAb HB.o hb2);clear HA hb2 hown HB
   go_wp2_with (at_builtin;refine zAT _ _ _ elI rfl rfl w.heap.size _ out rfl (zAQ.alloc HO2.o _) w2.heap.size 1 x rfl (heap_alloc_new _ _) rfl zt zk za (by simp;exact Nat.le_succ_of_le HB2.o.size) ?_;intro A7 c7 w7 hown7 hg7 hb7 hat7)
   have HB7:=zq ((HB2.o.alloc HB2.o.size _).trans hb7);have HN7:=zq hown7;clear hown7 hg7 hb7 hat7 HO2 HB2;go_wp2
   go_roundg k
   case measure=>have:=HM.o;omega
   case rel =>
    refine ⟨t.extract 0 k,out++[x],hys,rfl,?_,HW.o.append (WLt.cons yt WLt.nil),by rw [List.length_append,List.length_singleton,hys];omega,?_,HN7.o,HB7.o⟩
    ·rw [HYL.o,List.all_eq_true];exact fun c hc=>List.all_eq_true.1 HTD.o c (List.mem_of_mem_take hc)
    ·rw [HYL.o,List.length_append,List.length_singleton,zAH,zBt,HV.o,HC.o]
     have e1:zBv (t.data.toList.take k)*10 ^ (t.size - k)=zBv (t.data.toList.take k)*BT:=by
      rcases Nat.eq_zero_or_pos k with h1 | h1
      ·subst h1;simp [zBv]
      ·have:=HK.o
       rw [show t.size - k=4 by omega];rfl
     rw [e1,Nat.add_mul,Nat.pow_succ,Nat.mul_assoc,Nat.mul_comm BT,Nat.mul_comm x];omega
end Go.Proofs.YtieoifkdobcpiaaGreatDoor
namespace Go.Proofs.YtieoifkdobcpiaaGreatDoor
open Go.RowKit Dw
abbrev zCG:Array Value:=#[.bool false,.slice none 0 0,.slice none 0 0]
abbrev nuC (ng:Bool) (A:Option Addr) (c n:Nat) (A2:Option Addr) (c2 d:Nat):Array Value:=#[.bool ng,.slice A (zAc BT n).length c,.slice A2 (zAc BT d).length c2]
abbrev nuV (ng:Bool) (A:Option Addr) (c n:Nat) (A2:Option Addr) (c2 d:Nat):Value:=.agg (nuC ng A c n A2 c2 d)
def zCY (ng:Bool) (n d:Nat) (w:World) (e:Ending) (w':World):Prop:=∃ A c A2 c2,e = .returned (nuV ng A c n A2 c2 d)∧Lt w' A c n∧Lt w' A2 c2 d∧Below w.heap.size w w'
theorem lms_ne {w:World} {A:Option Addr} {l:List Nat} (h:Lms w A l) (hl:0<l.length) {R:Nat} {cs:Array Value} {T:TypeId} (hb:Bx w R cs T) (hc:∀ (i:Nat) (n:Int),cs[i]?≠some (Value.int .i64 n)):∀ b o,A=some ⟨b,o,none⟩→b≠R:=fun b o e1 e2=>by
 subst e2;obtain ⟨b',o',e3,hcl⟩:=h hl;rw [e1] at e3
 injection e3 with e3
 injection e3 with e4 e5 _
 subst e4 e5;have h1:=hcl 0 hl;rw [cell_of_row w b _ _ _ _ hb] at h1;exact hc _ _ h1
theorem Lms.setR {w:World} {A:Option Addr} {l:List Nat} (h:Lms w A l) {R:Nat} {cs:Array Value} {T:TypeId} (hb:Bx w R cs T) (hc:∀ (i:Nat) (n:Int),cs[i]?≠some (Value.int .i64 n)) (i:Nat) (u:Value):Lms (w.setCell ⟨R,i,none⟩ u) A l:=fun hl =>
 lms_set h (lms_ne h hl hb hc) u hl
theorem zNum_no:∀ (i:Nat) (n:Int),zCG[i]?≠some (Value.int .i64 n):=fun i n h=>by
 match i,h with
 | 0,h=>simp [zCG] at h
 | 1,h=>simp [zCG] at h
 | 2,h=>simp [zCG] at h
 | i+3,h=>simp [zCG] at h
theorem Bx.set0 {w:World} {R:Nat} {a b c:Value} {T:TypeId} (h:Bx w R #[a,b,c] T) (u:Value):Bx (w.setCell ⟨R,0,none⟩ u) R #[u,b,c] T:=heap_setCell_same w R 0 _ _ u h
theorem Bx.set1 {w:World} {R:Nat} {a b c:Value} {T:TypeId} (h:Bx w R #[a,b,c] T) (u:Value):Bx (w.setCell ⟨R,1,none⟩ u) R #[a,u,c] T:=heap_setCell_same w R 1 _ _ u h
theorem no3 {a b c:Value} (ha:∀ n,a≠.int .i64 n) (hb:∀ n,b≠.int .i64 n) (hc:∀ n,c≠.int .i64 n):∀ (i:Nat) (n:Int),(#[a,b,c]:Array Value)[i]?≠some (Value.int .i64 n):=fun i n h=>by
 match i,h with
 | 0,h=>simp at h;exact ha n h
 | 1,h=>simp at h;exact hb n h
 | 2,h=>simp at h;exact hc n h
 | i+3,h=>simp at h
theorem Lt.setR {w:World} {A:Option Addr} {c n R:Nat} {T:TypeId} (h:Lt w A c n) (hb:Bx w R zCG T) (ng:Bool) (A1:Option Addr) (n1 c1:Nat) (v:Value):Lt (((w.setCell ⟨R,0,none⟩ (.bool ng)).setCell ⟨R,1,none⟩ (.slice A1 n1 c1)).setCell ⟨R,2,none⟩ v) A c n:=by
 refine ⟨?_,h.cap⟩
 have k0:=h.rd.setR hb zNum_no 0 (.bool ng);have b1:=Bx.set0 hb (.bool ng);have k1:=k0.setR b1 (no3 zd zd zd) 1 (.slice A1 n1 c1);have b2:=Bx.set1 b1 (.slice A1 n1 c1);exact k1.setR b2 (no3 zd zd zd) 2 v
theorem zBF {w0 w:World} {R:Nat} (h:Below w0.heap.size w0 w) (hR:w0.heap.size≤R) (a b c:Value):Below w0.heap.size w0 (((w.setCell ⟨R,0,none⟩ a).setCell ⟨R,1,none⟩ b).setCell ⟨R,2,none⟩ c) :=
 ((h.setCell (p:=⟨R,0,none⟩) hR a).setCell (p:=⟨R,1,none⟩) hR b).setCell (p:=⟨R,2,none⟩) hR c
theorem words_oneT:zAc BT 1=[1]:=qi
theorem zCS (w:World):Lt (w.alloc (.cells #[.int .i64 1] 3)) (some ⟨w.heap.size,0,none⟩) 1 1 :=
 ⟨by rw [words_oneT];exact lms_one w 1,by rw [words_oneT];exact Nat.le_refl _⟩
theorem cmp1_c (A:Option Addr) (c a:Nat) (w:World) (h:Lms w A (zAc BT a)) (hn:(zAc BT a).length≤1000000000) :
  Calls Tryz.prog 41 #[lmV A c a,.slice (some ⟨w.heap.size,0,none⟩) 1 1] (w.alloc (.cells #[.int .i64 1] 3)) (zBc (.int .i64 (zCM a 1)) (w.alloc (.cells #[.int .i64 1] 3))) :=
 cmpL_c A (some ⟨w.heap.size,0,none⟩) c 1 a 1 _ (Rd1.alloc h _) (zCS w).rd hn
theorem pos_lenT {n:Nat} (h:0<n):0<(zAc BT n).length:=by
 refine Nat.pos_of_ne_zero fun e=>?_
 have:=(zCa zAV (n:=n)).1 (List.eq_nil_of_length_eq_zero e);omega
theorem lowP_zeroT (d:Nat) (h:0<d):zBS 0 d=(0,1):=by unfold zBS;rw [Nat.gcd_zero_left,Nat.div_self h,Nat.zero_div]
theorem lowest_c (ng:Bool) (A A2:Option Addr) (c c2 n d:Nat) (w:World) (h:Lt w A c n) (h2:Lt w A2 c2 d) (hd0:0<d) (hn:(zAc BT n).length≤200000000) (hm:(zAc BT d).length≤200000000) :
  Calls Tryz.prog 37 #[.bool ng,lmV A c n,lmV A2 c2 d] w (zCY (ng&&decide (n≠0)) (zBS n d).1 (zBS n d).2 w):=by
 have HB0:Hid (Below w.heap.size w (w.alloc (.cells zCG 45))):=(Below.refl w.heap.size w).alloc (Nat.le_refl _) _;have HZ0:Hid (Bx (w.alloc (.cells zCG 45)) w.heap.size zCG 45):=Bx.new _ _ _;have HA0:=zq (h.below HB0.o);have HD0:=zq (h2.below HB0.o)
 rcases Nat.eq_zero_or_pos n with h0 | h0
 ·subst h0
  have e1:(ng&&decide (0≠0))=false:=zd;rw [lowP_zeroT d hd0,e1];unfold lmV;have hz:(zAc BT 0).length=0:=rfl;have hz1:(zAc BT 1).length=1:=by rw [words_oneT];rfl
  rw [hz]
  go_enter Tryz.func37,Tryz.ntmps37
  go_wp2;refine bodyPost_ret (v:=nuV false none 0 0 (some ⟨w.heap.size+1,0,none⟩) 1 1) (by simp [results,Tryz.results37,go_sem,hz,hz1]) rfl ⟨none,0,_,1,rfl,⟨Rd1.nil,Nat.zero_le _⟩,?_,((Below.refl w.heap.size w).alloc (Nat.le_refl _) _).alloc zd _⟩
  have:=zCS (w.alloc (.cells #[.bool false,.slice none 0 0,.slice (some ⟨w.heap.size+1,0,none⟩) 1 1] 45))
  simpa using this
 ·have hl:=pos_lenT h0
  have hlb:(((zAc BT n).length:Int) == 0)=false:=by simp;intro e;rw [e] at hl;simp at hl
  have e1:(ng&&decide (n≠0))=ng:=ze;rw [e1];have hg0:0<Nat.gcd n d:=Nat.gcd_pos_of_pos_right n hd0;have hgl:(zAc BT (Nat.gcd n d)).length≤200000000:=Nat.le_trans (zAq zAV (Nat.gcd_le_right n hd0)) hm;have HLP:Hid (zBS n d=(n / Nat.gcd n d,d / Nat.gcd n d)):=rfl;rw [HLP.o];have HC:=zq (commonL_c A A2 c c2 n d _ HA0.o HD0.o hn hm);obtain ⟨G,hG⟩:∃ G,Nat.gcd n d=G:=⟨_,rfl⟩;rw [hG] at hg0 hgl HC ⊢;clear hG HLP e1;obtain ⟨W,hW⟩:∃ W,W=w.alloc (.cells zCG 45):=⟨_,rfl⟩;rw [←hW] at HC HA0 HD0 HZ0 HB0;unfold lmV at HC ⊢
  go_enter Tryz.func37,Tryz.ntmps37
  go_wp2_with fail
  rw [←hW];clear hW;with_reducible refine HC.o.mono ?_
  rintro e w1 ⟨A5,c5,rfl,h5,hb5⟩;have HB1:=zq (zAb HB0.o hb5);have HZ1:=zq (HZ0.o.below hb5);have HA1:=zq (HA0.o.below hb5);have HD1:=zq (HD0.o.below hb5);have H5:=zq h5;clear hb5 h5 HC HA0 HD0 HZ0 HB0 hlb
  go_wp2_with fail
  with_reducible refine (cmp1_c A5 c5 G w1 H5.o.rd za).mono ?_
  rintro e w2 ⟨rfl,nd,rfl⟩;have hba:Below w1.heap.size w1 ((w1.alloc (.cells #[.int .i64 1] 3)).drewN nd):=zAd ((Below.refl w1.heap.size w1).alloc (Nat.le_refl _) _) nd;have HB2:=zq (zAb HB1.o hba);have HZ2:=zq (HZ1.o.below hba);have HA2:=zq (HA1.o.below hba);have HD2:=zq (HD1.o.below hba);have H52:=zq (H5.o.below hba);clear hba HB1 HZ1 HA1 HD1 H5;obtain ⟨w2,hw2⟩:∃ w2,w2=(w1.alloc (.cells #[.int .i64 1] 3)).drewN nd:=⟨_,rfl⟩;rw [←hw2] at HB2 HZ2 HA2 HD2 H52 ⊢;clear hw2
  by_cases h1:G=1
  ·have hcb:(zCM G 1 == 0)=true:=by rw [h1];rfl
   have HG1:=zq h1;have z0:=HZ2.o.cell (i:=0) rfl;have z1:=HZ2.o.cell (i:=1) rfl;have z2:=HZ2.o.cell (i:=2) rfl;have f0:=HZ2.o.frozen;have hsz:=HZ2.o.lt;clear h1;go_wp2;rw [HG1.o,Nat.div_one,Nat.div_one];refine bodyPost_ret (v:=nuV ng A c n A2 c2 d) (by simp [results,Tryz.results37,go_sem,z0,z1,z2]) rfl ⟨A,c,A2,c2,rfl,HA2.o.setR HZ2.o _ _ _ _ _,HD2.o.setR HZ2.o _ _ _ _ _,zBF HB2.o (Nat.le_refl _) _ _ _⟩
  ·have hcb:(zCM G 1 == 0)=false:=by rw [zBu za];rfl
   clear h1
   go_wp2_with fail
   with_reducible refine (divL_c A A5 c c5 n G w2 HA2.o.rd H52.o.rd hn hgl hg0).mono ?_
   rintro e w3 ⟨A6,c6,A7,c7,rfl,h6,_,hb3⟩;have HB3:=zq (zAb HB2.o hb3);have HZ3:=zq (HZ2.o.below hb3);have HD3:=zq (HD2.o.below hb3);have H53:=zq (H52.o.below hb3);have H6:=zq h6;clear hb3 h6 HB2 HZ2 HD2 H52 HA2 hcb
   go_wp2_with fail
   with_reducible refine (divL_c A2 A5 c2 c5 d G w3 HD3.o.rd H53.o.rd hm hgl hg0).mono ?_
   rintro e w4 ⟨A8,c8,A9,c9,rfl,h8,_,hb4⟩;have HB4:=zq (zAb HB3.o hb4);have HZ4:=zq (HZ3.o.below hb4);have H64:=zq (H6.o.below hb4);have H8:=zq h8;clear hb4 h8 HB3 HZ3 HD3 H53 H6;have z0:=HZ4.o.cell (i:=0) rfl;have z1:=HZ4.o.cell (i:=1) rfl;have z2:=HZ4.o.cell (i:=2) rfl;have f0:=HZ4.o.frozen;have hsz:=HZ4.o.lt;go_wp2;refine bodyPost_ret (v:=nuV ng A6 c6 (n / G) A8 c8 (d / G)) (by simp [results,Tryz.results37,go_sem,z0,z1,z2]) rfl ⟨A6,c6,A8,c8,rfl,H64.o.setR HZ4.o _ _ _ _ _,H8.o.setR HZ4.o _ _ _ _ _,zBF HB4.o (Nat.le_refl _) _ _ _⟩
theorem smallF_0 (w:World):Calls Tryz.prog 125 #[.int .i64 0] w (zAP (.string ⟨#[48]⟩) w):=by
 go_enter Tryz.func125,Tryz.ntmps125
 go_wp2;go_ret
 exact zAP.mk zn rfl
theorem fmtI_0 (w:World):Calls Tryz.prog 86 #[.int .u64 0,.int .i64 10] w (zAP (.string ⟨#[48]⟩) w):=by
 go_enter Tryz.func86,Tryz.ntmps86
 go_wp2_with fail
 with_reducible refine (smallF_0 w).mono ?_
 rintro e w1 ⟨rfl,rfl⟩;go_wp2;go_ret
 exact zAP.mk rfl rfl
theorem fmt_0 (w:World):Calls Tryz.prog 39 #[.int .u64 0,.int .i64 10] w (zAP (.string ⟨#[48]⟩) w):=by
 go_enter Tryz.func39,Tryz.ntmps39
 go_wp2_with fail
 with_reducible refine (fmtI_0 w).mono ?_
 rintro e w1 ⟨rfl,rfl⟩;go_wp2;go_ret
 exact zAP.mk rfl rfl
theorem Int_0 (w:World):Calls Tryz.prog 14 #[.int .i64 0] w (zCY false 0 1 w):=by
 have HB0:Hid (Below w.heap.size w (w.alloc (.cells zCG 45))):=(Below.refl w.heap.size w).alloc (Nat.le_refl _) _;have HZ0:Hid (Bx (w.alloc (.cells zCG 45)) w.heap.size zCG 45):=Bx.new _ _ _
 go_enter Tryz.func14,Tryz.ntmps14
 go_wp2_with fail
 with_reducible refine (fmt_0 _).mono ?_
 rintro e w1 ⟨rfl,rfl⟩;have HL:=zq (zCL ⟨#[48]⟩ (w.alloc (.cells zCG 45)) zc zc);have hd:zBv (⟨#[48]⟩:ByteArray).data.toList=0:=zc;rw [hd] at HL;clear hd
 go_wp2_with fail
 with_reducible refine HL.o.mono ?_
 rintro e w1 ⟨A1,c1,rfl,h1,hb1⟩;have hba:Below w1.heap.size w1 (w1.alloc (.cells #[.int .i64 1] 3)):=(Below.refl w1.heap.size w1).alloc (Nat.le_refl _) _;have HB1:=zq (zAb (zAb HB0.o hb1) hba);have HZ1:=zq ((HZ0.o.below hb1).below hba)
 have HW:Hid (Calls Tryz.prog 37 #[.bool false,lmV A1 c1 0,.slice (some ⟨w1.heap.size,0,none⟩) 1 1] (w1.alloc (.cells #[.int .i64 1] 3)) (zCY false 0 1 (w1.alloc (.cells #[.int .i64 1] 3)))) :=
  lowest_c false A1 (some ⟨w1.heap.size,0,none⟩) c1 1 0 1 _ (h1.below hba) (zCS w1) za qi qi
 clear hb1 h1 hba HB0 HZ0 HL
 go_wp2_with fail
 with_reducible refine HW.o.mono ?_
 rintro e w2 ⟨A2,c2,A3,c3,rfl,h2,h3,hb2⟩;have HB2:=zq (zAb HB1.o hb2);have HZ2:=zq (HZ1.o.below hb2);have H2:=zq h2;have H3:=zq h3;clear hb2 h2 h3 HB1 HZ1 HW;have z0:=HZ2.o.cell (i:=0) rfl;have z1:=HZ2.o.cell (i:=1) rfl;have z2:=HZ2.o.cell (i:=2) rfl;have f0:=HZ2.o.frozen;have hsz:=HZ2.o.lt;go_wp2;refine bodyPost_ret (v:=nuV false A2 c2 0 A3 c3 1) (by simp [results,Tryz.results14,go_sem,z0,z1,z2]) rfl ⟨A2,c2,A3,c3,rfl,H2.o.setR HZ2.o _ _ _ _ _,H3.o.setR HZ2.o _ _ _ _ _,zBF HB2.o (Nat.le_refl _) _ _ _⟩
def GivesMi (ng:Bool) (A:Option Addr) (c n:Nat) (A2:Option Addr) (c2 d:Nat) (w:World) (e:Ending) (w':World):Prop:=e = .returned (nuV (!ng&&decide (n≠0)) A c n A2 c2 d)∧Below w.heap.size w w'
theorem minus_c (ng:Bool) (A A2:Option Addr) (c c2 n d:Nat) (w:World):Calls Tryz.prog 46 #[nuV ng A c n A2 c2 d] w (GivesMi ng A c n A2 c2 d w):=by
 have HB0:Hid (Below w.heap.size w ((w.alloc (.cells (nuC ng A c n A2 c2 d) 45)).alloc (.cells #[.bool (!ng&&decide (n≠0)),.slice A (zAc BT n).length c,.slice A2 (zAc BT d).length c2] 45))):=((Below.refl w.heap.size w).alloc (Nat.le_refl _) _).alloc zd _
 cases ng with
 | true =>
  go_enter Tryz.func46,Tryz.ntmps46
  go_wp2;refine bodyPost_ret (v:=nuV false A c n A2 c2 d) (by simp [results,Tryz.results46,go_sem]) rfl ⟨rfl,?_⟩
  exact HB0.o
 | false =>
  rcases Nat.eq_zero_or_pos n with h0 | h0
  ·subst h0
   have hz:(zAc BT 0).length=0:=rfl;unfold nuV nuC;rw [hz]
   go_enter Tryz.func46,Tryz.ntmps46
   go_wp2;refine bodyPost_ret (v:=nuV false A c 0 A2 c2 d) (by simp [results,Tryz.results46,go_sem,hz]) rfl ⟨rfl,?_⟩
   exact HB0.o
  ·have hl:=pos_lenT h0
   have hn:decide (n≠0)=true:=ze;rw [hn] at HB0
   go_enter Tryz.func46,Tryz.ntmps46
   go_wp2;refine bodyPost_ret (v:=nuV true A c n A2 c2 d) (by simp [results,Tryz.results46,go_sem]) rfl ⟨by rw [hn];rfl,?_⟩
   exact HB0.o
end Go.Proofs.YtieoifkdobcpiaaGreatDoor
