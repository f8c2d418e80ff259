/- Package right: needless (its walks printed by gen_need.py). -/
import Derived.Test.YtbbchlpccgkikaaGreatDoorSh02
import Derived.Laws.StructEq
import Derived.BigCall
import Derived.BigGuard
set_option maxRecDepth 100000
set_option maxHeartbeats 8000000
namespace Go.Proofs.YtbbchlpccgkikaaGreatDoor
open Go.RowKit Dw
def pbB(nu de:BA):Bool:=!(nu.toList.isEmpty&&de.toList.isEmpty)
theorem neqRat(nu de:BA)(W:World):(binOp .neq 36 (.agg #[.string nu,.string de]) (.agg #[.string ⟨#[]⟩,.string ⟨#[]⟩])).run Tryz.prog W=.ok (.bool (pbB nu de)) W:=by
 have h1:=Tryz.underlying36;unfold pbB;simp[go_sem,binOp,Op.equal,Op.maxDepth]
 by_cases h2:nu.toList=[]
 ·by_cases h3:de.toList=[]
  ·simp[h2,h3]
  ·simp[h2,h3]
 ·simp[h2]
theorem pb_zero{nu de:BA}(h1:nu=emp)(h2:de=emp):pbB nu de=false:=by
 unfold pbB;rw[zAv h1,zAv h2];rfl
theorem pb_one{nu de:BA}(h:¬(nu=emp/\de=emp)):pbB nu de=true:=by
 unfold pbB
 by_cases h1:nu=emp
 ·rw[zAx (s:=de) (fun e=>h ⟨h1,e⟩)];simp
 ·rw[zAx h1];rfl
theorem ex_or{a b:Bool}(h:¬(a=false/\b=false)):a=true\/(a=false/\b=true):=by
 cases a<;>cases b<;>simp_all
theorem len_pos2{α β:Type}{a:List α}{b:List β}(h:¬(a=[]/\b=[])):(0:Int)<(a.length:Int)+(b.length:Int):=by
 by_cases h1:a=[]
 ·have:0<b.length:=List.length_pos_iff.2 fun e=>h ⟨h1,e⟩
  omega
 ·have:0<a.length:=List.length_pos_iff.2 h1
  omega
theorem len_pos1{α:Type}{a:List α}(h:¬a=[]):(0:Int)<(a.length:Int):=by
 have:0<a.length:=List.length_pos_iff.2 h;omega
theorem needless_1(d:De)(w:World)(hk:d.kd=1)(hl:d.ar.length<=140737488355328/\d.us.length<=140737488355328/\d.sh.length<=140737488355328): Calls Tryz.prog 152 #[deV d] w (zAg (.bool (zAw d)) w):=by
 have hf:=fun W=>zBX d.kd W za
 have HK:=zq hk;have e:fldC d.kd=#[.bool true,.bool false,.bool false,.bool false,.bool false,.bool false,.bool false,.bool true,.bool false]:=by rw[hk];rfl
 rw[e]at hf;have HF:=zq hf;obtain⟨l1,l2,l3⟩:=hl;clear e hf hk;have HX:Hid (Bx (w.alloc (.cells (deC d) 126)) w.heap.size (deC d) 126):=Bx.new _ _ _;have HB:Hid (Below w.heap.size w (w.alloc (.cells (deC d) 126))):=(aJ w.heap.size w).alloc (aE _) _;have hnr:=neqRat d.nu d.de
 go_enter Tryz.func152,Tryz.ntmps152;simp only[List.append];(go_wp2_with fail);(with_reducible refine(HF.o _).mono ?_);rintro e w1⟨rfl,hb1⟩;have HX1:=HX.o.below hb1;have HB2:Hid (Below w.heap.size w (w1.alloc (.cells #[.bool true,.bool false,.bool false,.bool false,.bool false,.bool false,.bool false,.bool true,.bool false] 128))):=(HB.o.trans (hb1.mono HB.o.size)).alloc (HB.o.trans (hb1.mono HB.o.size)).size _;have hlt:=HX1.lt;clear HF hb1;have x0:=HX1.c 0 rfl;have x1:=HX1.c 1 rfl;have x2:=HX1.c 2 rfl;have x3:=HX1.c 3 rfl;have x4:=HX1.c 4 rfl;have x5:=HX1.c 5 rfl;have x6:=HX1.c 6 rfl;have x7:=HX1.c 7 rfl;have x8:=HX1.c 8 rfl;have x9:=HX1.c 9 rfl;have x10:=HX1.c 10 rfl;have x11:=HX1.c 11 rfl;have x12:=HX1.c 12 rfl;have x13:=HX1.c 13 rfl;have x14:=HX1.c 14 rfl;have x15:=HX1.c 15 rfl;clear HX1 HX HB
 by_cases t1:d.fr=emp
 case neg =>
  have q1:=zAx t1;have HS:Hid (zAw d=true):=by show _=_;unfold zAw zAl;rw[HK.o];simp[t1]
  clear t1;exact tdc
 have q1:=zAv t1
 by_cases t2:d.to_=emp
 case neg =>
  have q2:=zAx t2;have HS:Hid (zAw d=true):=by show _=_;unfold zAw zAl;rw[HK.o];simp[t1,t2]
  clear t1 t2;exact tdc
 have q2:=zAv t2
 by_cases t3:(d.nu=emp/\d.de=emp)
 case neg =>
  have q3:=pb_one t3;rw[q3]at hnr;have t3:¬d.nu=emp\/¬d.de=emp:=Classical.not_and_iff_not_or_not.1 t3;have HS:Hid (zAw d=true):=by show _=_;unfold zAw zAl;rw[HK.o];simp[t1,t2,t3]
  clear t1 t2 t3;exact tdc
 have q3:=pb_zero t3.1 t3.2;rw[q3]at hnr
 by_cases t4:(d.ex=false/\d.sb=false)
 case neg =>
  have q4:d.ex=true\/(d.ex=false/\d.sb=true):=ex_or t4;have t4:d.ex=true\/d.sb=true:=q4.imp id And.right;have HS:Hid (zAw d=true):=by show _=_;unfold zAw zAl;rw[HK.o];simp[t1,t2,t3,t4]
  clear t1 t2 t3 t4;exact tbc
 have q4:=t4.1;have q4b:=t4.2
 by_cases t5:(d.ar=[]/\d.us=[])
 case neg =>
  have q5:=len_pos2 t5;have t5:¬d.ar=[]\/¬d.us=[]:=Classical.not_and_iff_not_or_not.1 t5;have HS:Hid (zAw d=true):=by show _=_;unfold zAw zAl;rw[HK.o];simp[t1,t2,t3,t4,t5]
  clear t1 t2 t3 t4 t5;exact tdc
 have q5:=bX List.length t5.1;have q5b:=bX List.length t5.2;rw[dW]at q5 q5b
 by_cases t6:d.en=0
 case neg =>
  have q6:(d.en != 0)=true:=by simpa using t6
  have HS:Hid (zAw d=true):=by show _=_;unfold zAw zAl;rw[HK.o];simp[t1,t2,t3,t4,t5,t6]
  clear t1 t2 t3 t4 t5 t6;exact tdc
 have q6:(d.en != 0)=false:=by simpa using t6
 by_cases t8:d.ot=emp
 case neg =>
  have q8:=zAx t8;have HS:Hid (zAw d=true):=by show _=_;unfold zAw zAl;rw[HK.o];simp[t1,t2,t3,t4,t5,t6,t8]
  clear t1 t2 t3 t4 t5 t6 t8;exact tdc
 have q8:=zAv t8;have HS:Hid (zAw d=false):=by show _=_;unfold zAw zAl;rw[HK.o];simp[t1,t2,t3,t4,t5,t6,t8]
 clear t1 t2 t3 t4 t5 t6 t8;go_wp2;go_ret
 exact zAg.mk (zDm HS.o.symm) HB2.o
theorem needless_2(d:De)(w:World)(hk:d.kd=2)(hl:d.ar.length<=140737488355328/\d.us.length<=140737488355328/\d.sh.length<=140737488355328): Calls Tryz.prog 152 #[deV d] w (zAg (.bool (zAw d)) w):=by
 have hf:=fun W=>zBX d.kd W za
 have HK:=zq hk;have e:fldC d.kd=#[.bool true,.bool true,.bool true,.bool true,.bool false,.bool true,.bool true,.bool false,.bool false]:=by rw[hk];rfl
 rw[e]at hf;have HF:=zq hf;obtain⟨l1,l2,l3⟩:=hl;clear e hf hk;have HX:Hid (Bx (w.alloc (.cells (deC d) 126)) w.heap.size (deC d) 126):=Bx.new _ _ _;have HB:Hid (Below w.heap.size w (w.alloc (.cells (deC d) 126))):=(aJ w.heap.size w).alloc (aE _) _;have hnr:=neqRat d.nu d.de
 go_enter Tryz.func152,Tryz.ntmps152;simp only[List.append];(go_wp2_with fail);(with_reducible refine(HF.o _).mono ?_);rintro e w1⟨rfl,hb1⟩;have HX1:=HX.o.below hb1;have HB2:Hid (Below w.heap.size w (w1.alloc (.cells #[.bool true,.bool true,.bool true,.bool true,.bool false,.bool true,.bool true,.bool false,.bool false] 128))):=(HB.o.trans (hb1.mono HB.o.size)).alloc (HB.o.trans (hb1.mono HB.o.size)).size _;have hlt:=HX1.lt;clear HF hb1;have x0:=HX1.c 0 rfl;have x1:=HX1.c 1 rfl;have x2:=HX1.c 2 rfl;have x3:=HX1.c 3 rfl;have x4:=HX1.c 4 rfl;have x5:=HX1.c 5 rfl;have x6:=HX1.c 6 rfl;have x7:=HX1.c 7 rfl;have x8:=HX1.c 8 rfl;have x9:=HX1.c 9 rfl;have x10:=HX1.c 10 rfl;have x11:=HX1.c 11 rfl;have x12:=HX1.c 12 rfl;have x13:=HX1.c 13 rfl;have x14:=HX1.c 14 rfl;have x15:=HX1.c 15 rfl;clear HX1 HX HB
 by_cases t4:(d.ex=false/\d.sb=false)
 case neg =>
  have q4:d.ex=true\/(d.ex=false/\d.sb=true):=ex_or t4;have t4:d.ex=true\/d.sb=true:=q4.imp id And.right;have HS:Hid (zAw d=true):=by show _=_;unfold zAw zAl;rw[HK.o];simp[t4]
  clear t4;exact tbc
 have q4:=t4.1;have q4b:=t4.2
 by_cases t7:d.sh=[]
 case neg =>
  have q7:=len_pos1 t7;have q7b:0<d.sh.length:=List.length_pos_iff.2 t7;have HS:Hid (zAw d=true):=by show _=_;unfold zAw zAl;rw[HK.o];simp[t4,t7]
  clear t4 t7;exact tdc
 have q7:=bX List.length t7;rw[dW]at q7
 by_cases t8:d.ot=emp
 case neg =>
  have q8:=zAx t8;have HS:Hid (zAw d=true):=by show _=_;unfold zAw zAl;rw[HK.o];simp[t4,t7,t8]
  clear t4 t7 t8;exact tdc
 have q8:=zAv t8;have HS:Hid (zAw d=false):=by show _=_;unfold zAw zAl;rw[HK.o];simp[t4,t7,t8]
 clear t4 t7 t8;go_wp2;go_ret
 exact zAg.mk (zDm HS.o.symm) HB2.o
theorem needless_3(d:De)(w:World)(hk:d.kd=3)(hl:d.ar.length<=140737488355328/\d.us.length<=140737488355328/\d.sh.length<=140737488355328): Calls Tryz.prog 152 #[deV d] w (zAg (.bool (zAw d)) w):=by
 have hf:=fun W=>zBX d.kd W za
 have HK:=zq hk;have e:fldC d.kd=#[.bool true,.bool true,.bool true,.bool false,.bool true,.bool true,.bool true,.bool false,.bool false]:=by rw[hk];rfl
 rw[e]at hf;have HF:=zq hf;obtain⟨l1,l2,l3⟩:=hl;clear e hf hk;have HX:Hid (Bx (w.alloc (.cells (deC d) 126)) w.heap.size (deC d) 126):=Bx.new _ _ _;have HB:Hid (Below w.heap.size w (w.alloc (.cells (deC d) 126))):=(aJ w.heap.size w).alloc (aE _) _;have hnr:=neqRat d.nu d.de
 go_enter Tryz.func152,Tryz.ntmps152;simp only[List.append];(go_wp2_with fail);(with_reducible refine(HF.o _).mono ?_);rintro e w1⟨rfl,hb1⟩;have HX1:=HX.o.below hb1;have HB2:Hid (Below w.heap.size w (w1.alloc (.cells #[.bool true,.bool true,.bool true,.bool false,.bool true,.bool true,.bool true,.bool false,.bool false] 128))):=(HB.o.trans (hb1.mono HB.o.size)).alloc (HB.o.trans (hb1.mono HB.o.size)).size _;have hlt:=HX1.lt;clear HF hb1;have x0:=HX1.c 0 rfl;have x1:=HX1.c 1 rfl;have x2:=HX1.c 2 rfl;have x3:=HX1.c 3 rfl;have x4:=HX1.c 4 rfl;have x5:=HX1.c 5 rfl;have x6:=HX1.c 6 rfl;have x7:=HX1.c 7 rfl;have x8:=HX1.c 8 rfl;have x9:=HX1.c 9 rfl;have x10:=HX1.c 10 rfl;have x11:=HX1.c 11 rfl;have x12:=HX1.c 12 rfl;have x13:=HX1.c 13 rfl;have x14:=HX1.c 14 rfl;have x15:=HX1.c 15 rfl;clear HX1 HX HB
 by_cases t3:(d.nu=emp/\d.de=emp)
 case neg =>
  have q3:=pb_one t3;rw[q3]at hnr;have t3:¬d.nu=emp\/¬d.de=emp:=Classical.not_and_iff_not_or_not.1 t3;have HS:Hid (zAw d=true):=by show _=_;unfold zAw zAl;rw[HK.o];simp[t3]
  clear t3;exact tdc
 have q3:=pb_zero t3.1 t3.2;rw[q3]at hnr
 by_cases t7:d.sh=[]
 case neg =>
  have q7:=len_pos1 t7;have q7b:0<d.sh.length:=List.length_pos_iff.2 t7;have HS:Hid (zAw d=true):=by show _=_;unfold zAw zAl;rw[HK.o];simp[t3,t7]
  clear t3 t7;exact tdc
 have q7:=bX List.length t7;rw[dW]at q7
 by_cases t8:d.ot=emp
 case neg =>
  have q8:=zAx t8;have HS:Hid (zAw d=true):=by show _=_;unfold zAw zAl;rw[HK.o];simp[t3,t7,t8]
  clear t3 t7 t8;exact tdc
 have q8:=zAv t8;have HS:Hid (zAw d=false):=by show _=_;unfold zAw zAl;rw[HK.o];simp[t3,t7,t8]
 clear t3 t7 t8;go_wp2;go_ret
 exact zAg.mk (zDm HS.o.symm) HB2.o
theorem needless_4(d:De)(w:World)(hk:d.kd=4)(hl:d.ar.length<=140737488355328/\d.us.length<=140737488355328/\d.sh.length<=140737488355328): Calls Tryz.prog 152 #[deV d] w (zAg (.bool (zAw d)) w):=by
 have hf:=fun W=>zBX d.kd W za
 have HK:=zq hk;have e:fldC d.kd=#[.bool false,.bool false,.bool false,.bool false,.bool false,.bool false,.bool false,.bool false,.bool true]:=by rw[hk];rfl
 rw[e]at hf;have HF:=zq hf;obtain⟨l1,l2,l3⟩:=hl;clear e hf hk;have HX:Hid (Bx (w.alloc (.cells (deC d) 126)) w.heap.size (deC d) 126):=Bx.new _ _ _;have HB:Hid (Below w.heap.size w (w.alloc (.cells (deC d) 126))):=(aJ w.heap.size w).alloc (aE _) _;have hnr:=neqRat d.nu d.de
 go_enter Tryz.func152,Tryz.ntmps152;simp only[List.append];(go_wp2_with fail);(with_reducible refine(HF.o _).mono ?_);rintro e w1⟨rfl,hb1⟩;have HX1:=HX.o.below hb1;have HB2:Hid (Below w.heap.size w (w1.alloc (.cells #[.bool false,.bool false,.bool false,.bool false,.bool false,.bool false,.bool false,.bool false,.bool true] 128))):=(HB.o.trans (hb1.mono HB.o.size)).alloc (HB.o.trans (hb1.mono HB.o.size)).size _;have hlt:=HX1.lt;clear HF hb1;have x0:=HX1.c 0 rfl;have x1:=HX1.c 1 rfl;have x2:=HX1.c 2 rfl;have x3:=HX1.c 3 rfl;have x4:=HX1.c 4 rfl;have x5:=HX1.c 5 rfl;have x6:=HX1.c 6 rfl;have x7:=HX1.c 7 rfl;have x8:=HX1.c 8 rfl;have x9:=HX1.c 9 rfl;have x10:=HX1.c 10 rfl;have x11:=HX1.c 11 rfl;have x12:=HX1.c 12 rfl;have x13:=HX1.c 13 rfl;have x14:=HX1.c 14 rfl;have x15:=HX1.c 15 rfl;clear HX1 HX HB
 by_cases t0:d.th=emp
 case neg =>
  exact ta4
 have q0:=zAv t0
 by_cases t1:d.fr=emp
 case neg =>
  have q1:=zAx t1;have HS:Hid (zAw d=true):=by show _=_;unfold zAw zAl;rw[HK.o];simp[t0,t1]
  clear t0 t1;exact tdc
 have q1:=zAv t1
 by_cases t2:d.to_=emp
 case neg =>
  have q2:=zAx t2;have HS:Hid (zAw d=true):=by show _=_;unfold zAw zAl;rw[HK.o];simp[t0,t1,t2]
  clear t0 t1 t2;exact tdc
 have q2:=zAv t2
 by_cases t3:(d.nu=emp/\d.de=emp)
 case neg =>
  have q3:=pb_one t3;rw[q3]at hnr;have t3:¬d.nu=emp\/¬d.de=emp:=Classical.not_and_iff_not_or_not.1 t3;have HS:Hid (zAw d=true):=by show _=_;unfold zAw zAl;rw[HK.o];simp[t0,t1,t2,t3]
  clear t0 t1 t2 t3;exact tdc
 have q3:=pb_zero t3.1 t3.2;rw[q3]at hnr
 by_cases t4:(d.ex=false/\d.sb=false)
 case neg =>
  have q4:d.ex=true\/(d.ex=false/\d.sb=true):=ex_or t4;have t4:d.ex=true\/d.sb=true:=q4.imp id And.right;have HS:Hid (zAw d=true):=by show _=_;unfold zAw zAl;rw[HK.o];simp[t0,t1,t2,t3,t4]
  clear t0 t1 t2 t3 t4;exact tbc
 have q4:=t4.1;have q4b:=t4.2
 by_cases t5:(d.ar=[]/\d.us=[])
 case neg =>
  have q5:=len_pos2 t5;have t5:¬d.ar=[]\/¬d.us=[]:=Classical.not_and_iff_not_or_not.1 t5;have HS:Hid (zAw d=true):=by show _=_;unfold zAw zAl;rw[HK.o];simp[t0,t1,t2,t3,t4,t5]
  clear t0 t1 t2 t3 t4 t5;exact tdc
 have q5:=bX List.length t5.1;have q5b:=bX List.length t5.2;rw[dW]at q5 q5b
 by_cases t6:d.en=0
 case neg =>
  have q6:(d.en != 0)=true:=by simpa using t6
  have HS:Hid (zAw d=true):=by show _=_;unfold zAw zAl;rw[HK.o];simp[t0,t1,t2,t3,t4,t5,t6]
  clear t0 t1 t2 t3 t4 t5 t6;exact tdc
 have q6:(d.en != 0)=false:=by simpa using t6
 by_cases t7:d.sh=[]
 case neg =>
  have q7:=len_pos1 t7;have q7b:0<d.sh.length:=List.length_pos_iff.2 t7;have HS:Hid (zAw d=true):=by show _=_;unfold zAw zAl;rw[HK.o];simp[t0,t1,t2,t3,t4,t5,t6,t7]
  clear t0 t1 t2 t3 t4 t5 t6 t7;exact tdc
 have q7:=bX List.length t7;rw[dW]at q7;have HS:Hid (zAw d=false):=by show _=_;unfold zAw zAl;rw[HK.o];simp[t0,t1,t2,t3,t4,t5,t6,t7]
 clear t0 t1 t2 t3 t4 t5 t6 t7;go_wp2;go_ret
 exact zAg.mk (zDm HS.o.symm) HB2.o
theorem needless_5(d:De)(w:World)(hk:d.kd=5)(hl:d.ar.length<=140737488355328/\d.us.length<=140737488355328/\d.sh.length<=140737488355328): Calls Tryz.prog 152 #[deV d] w (zAg (.bool (zAw d)) w):=by
 have hf:=fun W=>zBX d.kd W za
 have HK:=zq hk;have e:fldC d.kd=#[.bool false,.bool true,.bool false,.bool false,.bool false,.bool false,.bool false,.bool true,.bool false]:=by rw[hk];rfl
 rw[e]at hf;have HF:=zq hf;obtain⟨l1,l2,l3⟩:=hl;clear e hf hk;have HX:Hid (Bx (w.alloc (.cells (deC d) 126)) w.heap.size (deC d) 126):=Bx.new _ _ _;have HB:Hid (Below w.heap.size w (w.alloc (.cells (deC d) 126))):=(aJ w.heap.size w).alloc (aE _) _;have hnr:=neqRat d.nu d.de
 go_enter Tryz.func152,Tryz.ntmps152;simp only[List.append];(go_wp2_with fail);(with_reducible refine(HF.o _).mono ?_);rintro e w1⟨rfl,hb1⟩;have HX1:=HX.o.below hb1;have HB2:Hid (Below w.heap.size w (w1.alloc (.cells #[.bool false,.bool true,.bool false,.bool false,.bool false,.bool false,.bool false,.bool true,.bool false] 128))):=(HB.o.trans (hb1.mono HB.o.size)).alloc (HB.o.trans (hb1.mono HB.o.size)).size _;have hlt:=HX1.lt;clear HF hb1;have x0:=HX1.c 0 rfl;have x1:=HX1.c 1 rfl;have x2:=HX1.c 2 rfl;have x3:=HX1.c 3 rfl;have x4:=HX1.c 4 rfl;have x5:=HX1.c 5 rfl;have x6:=HX1.c 6 rfl;have x7:=HX1.c 7 rfl;have x8:=HX1.c 8 rfl;have x9:=HX1.c 9 rfl;have x10:=HX1.c 10 rfl;have x11:=HX1.c 11 rfl;have x12:=HX1.c 12 rfl;have x13:=HX1.c 13 rfl;have x14:=HX1.c 14 rfl;have x15:=HX1.c 15 rfl;clear HX1 HX HB
 by_cases t0:d.th=emp
 case neg =>
  exact ta4
 have q0:=zAv t0
 by_cases t2:d.to_=emp
 case neg =>
  have q2:=zAx t2;have HS:Hid (zAw d=true):=by show _=_;unfold zAw zAl;rw[HK.o];simp[t0,t2]
  clear t0 t2;exact tdc
 have q2:=zAv t2
 by_cases t3:(d.nu=emp/\d.de=emp)
 case neg =>
  have q3:=pb_one t3;rw[q3]at hnr;have t3:¬d.nu=emp\/¬d.de=emp:=Classical.not_and_iff_not_or_not.1 t3;have HS:Hid (zAw d=true):=by show _=_;unfold zAw zAl;rw[HK.o];simp[t0,t2,t3]
  clear t0 t2 t3;exact tdc
 have q3:=pb_zero t3.1 t3.2;rw[q3]at hnr
 by_cases t4:(d.ex=false/\d.sb=false)
 case neg =>
  have q4:d.ex=true\/(d.ex=false/\d.sb=true):=ex_or t4;have t4:d.ex=true\/d.sb=true:=q4.imp id And.right;have HS:Hid (zAw d=true):=by show _=_;unfold zAw zAl;rw[HK.o];simp[t0,t2,t3,t4]
  clear t0 t2 t3 t4;exact tbc
 have q4:=t4.1;have q4b:=t4.2
 by_cases t5:(d.ar=[]/\d.us=[])
 case neg =>
  have q5:=len_pos2 t5;have t5:¬d.ar=[]\/¬d.us=[]:=Classical.not_and_iff_not_or_not.1 t5;have HS:Hid (zAw d=true):=by show _=_;unfold zAw zAl;rw[HK.o];simp[t0,t2,t3,t4,t5]
  clear t0 t2 t3 t4 t5;exact tdc
 have q5:=bX List.length t5.1;have q5b:=bX List.length t5.2;rw[dW]at q5 q5b
 by_cases t6:d.en=0
 case neg =>
  have q6:(d.en != 0)=true:=by simpa using t6
  have HS:Hid (zAw d=true):=by show _=_;unfold zAw zAl;rw[HK.o];simp[t0,t2,t3,t4,t5,t6]
  clear t0 t2 t3 t4 t5 t6;exact tdc
 have q6:(d.en != 0)=false:=by simpa using t6
 by_cases t8:d.ot=emp
 case neg =>
  have q8:=zAx t8;have HS:Hid (zAw d=true):=by show _=_;unfold zAw zAl;rw[HK.o];simp[t0,t2,t3,t4,t5,t6,t8]
  clear t0 t2 t3 t4 t5 t6 t8;exact tdc
 have q8:=zAv t8;have HS:Hid (zAw d=false):=by show _=_;unfold zAw zAl;rw[HK.o];simp[t0,t2,t3,t4,t5,t6,t8]
 clear t0 t2 t3 t4 t5 t6 t8;go_wp2;go_ret
 exact zAg.mk (zDm HS.o.symm) HB2.o
theorem needless_c(d:De)(w:World)(hk:1<=d.kd/\d.kd<=5)(hl:d.ar.length<=140737488355328/\d.us.length<=140737488355328/\d.sh.length<=140737488355328): Calls Tryz.prog 152 #[deV d] w (zAg (.bool (zAw d)) w):=by
 have h5:d.kd=1\/d.kd=2\/d.kd=3\/d.kd=4\/d.kd=5:=za
 rcases h5 with h|h|h|h|h
 ·exact needless_1 d w h hl
 ·exact needless_2 d w h hl
 ·exact needless_3 d w h hl
 ·exact needless_4 d w h hl
 ·exact needless_5 d w h hl
end Go.Proofs.YtbbchlpccgkikaaGreatDoor
