/- The walk of Nodes; The walk of Nodes; The walk of Nodes where there are enough members; Words for the walk of the reference's Nodes: three rows of who -/
import Derived.Deep.RegionHeld3
import Derived.Test.YtdoneomahlfkbaaGreatOnc14
import Derived.Test.YtdoneomahlfkbaaGreatOnc01
import Derived.Test.YtdoneomahlfkbaaGreatOnc13
set_option linter.unusedVariables false
set_option linter.unusedSimpArgs false
set_option maxRecDepth 100000
set_option maxHeartbeats 4000000
namespace Go.Proofs.YtdoneomahlfkbaaGreat
section
open Go.RowKit StrMath PlMath
theorem wpl_look {ops:Array Oper} {rest:List Oper} {o:Oper} {a:Act} {Q:Exit→Act→World→Prop} {w:World} (hg:o.guard=none) (m x:Operand) (hop:o.op=Op.lookup 167 m x true)
 (b N:Nat) (D:DataW Unit) (f:Int→Option Int) (hown:w.ownsMap Tryz.prog 3 (plainElem Tryz.prog 3) b N D) (hD:MapIs D f) (k:Int) (hm:a.eval m = .map (some b)) (hx:a.eval x = .int .i64 k) (wk:(Lit.int .i64 k).wf=true)
 (z:Int) (t:Bool) (hz:(f k).getD 0=z) (ht:(f k).isSome=t) (h:wpList Tryz.prog ops Q rest (a.put o.dst (.tuple #[.int .i64 z,.bool t])) w):wpList Tryz.prog ops Q (o :: rest) a w:=by
 refine wpList_lookup_own_ok_int w hg m x 167 hop 3 3 .i64 lawInt Tryz.underlying167 Tryz.underlying3 (zeroInt w) b N D hm hown (.int .i64 k) (ik k) hx (Go.Maps.keyOf_int_mk Tryz.underlying3 wk) ?_
 intro c hat _
 have h1:=hD.2 k
 rw [h1.2] at hat
 have hc:(f k).getD 0=c:=by injection hat with hat;injection hat
 have e1:c=z:=by rw [← hc,hz]
 have e2:Go.Maps.has D (ik k)=t:=by rw [h1.1,ht]
 rw [e1,e2]
 exact h
theorem wpl_app {ops:Array Oper} {rest:List Oper} {o:Oper} {a:Act} {Q:Exit→Act→World→Prop} {w wr:World} {bx b N:Nat} {cs:Array Value} {f:Int→Option Int} {v:Value} {l:List Int} (hg:o.guard=none) (s x:Operand)
 (ho:o.op = .call { callee := .builtin .append,args:=#[s,x],argTypes:=#[28,28] }) (hst:Sta w bx b N cs f v l wr) (hl:l.length≤1000) (y:Int) (hs:a.eval s=v) (hx:a.eval x = .slice (some ⟨wr.heap.size,0,none⟩) 1 1)
 (h:∀v' w',Hid (Sta w bx b N cs f v' (l ++ [y]) w')→wpList Tryz.prog ops Q rest (a.put o.dst v') w'):wpList Tryz.prog ops Q (o :: rest) a (wr.alloc (.cells #[.int .i64 y] 3)):=by
 obtain⟨i,hi,h2,h3,h4⟩:=info_parts Tryz.infoI64
 have hst':=hst.alloc (.cells #[.int .i64 y] 3)
 exact wpList_append_any _ hg s x 28 ho w.heap.size 3 i (.int .i64 0) 1 8 Tryz.underlying28 hi h2 h3 h4 rfl (by decide) v l.length (l.map iv) hs hst'.row (wr.heap.size+1) (some ⟨wr.heap.size,0,none⟩) 1 1 [iv y] hx
  (Reads.lit1 wr 3 (iv y)) (by intro u hu;rw [List.mem_singleton.1 hu];rfl) (by unfold maxLen;omega) (by omega) hst'.bel.size fun v' w' k1 k2 _=>h v' w' (Lh (hst'.appended k1 k2))
theorem wpl_del {ops:Array Oper} {rest:List Oper} {o:Oper} {a:Act} {Q:Exit→Act→World→Prop} {w wr:World} {bx b N:Nat} {cs:Array Value} {f:Int→Option Int} {v:Value} {l:List Int} (hg:o.guard=none) (m x:Operand)
 (ho:o.op=Op.call { callee:=Callee.builtin Builtin.delete,args:=#[m,x],argTypes:=#[167,3] }) (hst:Sta w bx b N cs f v l wr) (k:Int) (hm:a.eval m = .map (some b)) (hx:a.eval x = .int .i64 k) (wk:(Lit.int .i64 k).wf=true)
 (h:∀w',Hid (Sta w bx b N cs (fun j=>if j=k then none else f j) v l w')→wpList Tryz.prog ops Q rest (a.put o.dst (.tuple #[])) w'):wpList Tryz.prog ops Q (o :: rest) a wr:=by
 obtain⟨D,hown,hD⟩:=hst.mp
 exact wpList_delete_own wr hg m x 167 3 ho 3 lawInt Tryz.underlying167 _ b N D hm hown (.int .i64 k) (ik k) hx (Go.Maps.keyOf_int_mk Tryz.underlying3 wk)
  fun w' k1 k2=>h w' (Lh (hst.turned k2.grown ⟨_,k1,hD.del k⟩))
theorem wpl_put {ops:Array Oper} {rest:List Oper} {o:Oper} {a:Act} {Q:Exit→Act→World→Prop} {w wr:World} {bx b N:Nat} {cs:Array Value} {f:Int→Option Int} {v:Value} {l:List Int} (hg:o.guard=none) (m x y:Operand)
 (ho:o.op=Op.mapUpdate 167 m x y) (hst:Sta w bx b N cs f v l wr) (hN:N≤1000) (k z:Int) (hm:a.eval m = .map (some b)) (hx:a.eval x = .int .i64 k) (hy:a.eval y = .int .i64 z) (wk:(Lit.int .i64 k).wf=true) (wz:(Lit.int .i64 z).wf=true)
 (h:∀w',Hid (Sta w bx b (N+1) cs (fun j=>if j=k then some z else f j) v l w')→wpList Tryz.prog ops Q rest (a.put o.dst undef) w'):wpList Tryz.prog ops Q (o :: rest) a wr:=by
 obtain⟨D,hown,hD⟩:=hst.mp
 exact wpList_mapUpdate_own wr hg m x y 167 ho 3 3 lawInt Tryz.underlying167 _ b N D hm hown (by unfold maxLen;omega) (.int .i64 k) (.int .i64 z) (ik k) hx hy (Go.Maps.keyOf_int_mk Tryz.underlying3 wk) (.lit (.int .i64 z)) [] (plainElem_int Tryz.underlying3 wz)
  fun w' k1 k2=>h w' (Lh (hst.turned k2 ⟨_,k1,hD.put k z⟩))
end
section
open Go.RowKit StrMath PlMath
theorem wf32 {x:Int} (h1:0≤x) (h2:x≤65535):(Lit.int .i64 x).wf=true:=wf_small (by omega) (by omega)
section
variable (e:Nat) (A:Option Addr) (n cap:Nat) (ms:List Mem) (g t:Int) (w:World)
theorem nodes_map (hr:Hid (Reads w w.heap.size 2 A n (mcells ms))) (h64:M64 ms) (hc:n≤cap) (hm:cap≤maxLen) (hk:chk ms=false) :
 Calls Tryz.prog 83 #[mapV e A n cap,.int .i64 g,.int .i64 t] w (RetI ([],110) w):=by
 have H:=Lh (fun W h=>check_any e A n cap ms W h h64 hc hm)
 have E0:Hid (errM (chk ms)=110):=Lh (by rw [hk];rfl)
 clear hk
 unfold mapV
 go_enter Tryz.func83,Tryz.ntmps83
 go_wp2_with fail
 refine (H.out _ ((hr.out.alloc (Nat.le_refl _) _).more (by simp))).mono ?_
 rintro e w2 ⟨rfl,hb⟩
 have hb2:Below w.heap.size w w2:=((Below.refl _ _).alloc (Nat.le_refl _) _).trans (hb.mono (by simp))
 rw [E0.out]
 clear hb
 go_wp2
 go_ret2
 exact RetI.nil 110 hb2
theorem nodes_arg (hr:Hid (Reads w w.heap.size 2 A n (mcells ms))) (h64:M64 ms) (hc:n≤cap) (hm:cap≤maxLen) (hk:chk ms=true) (hb:g<0∨64≤g∨t<1∨255<t) :
 Calls Tryz.prog 83 #[mapV e A n cap,.int .i64 g,.int .i64 t] w (RetI ([],2) w):=by
 have H:=Lh (fun W h=>check_any e A n cap ms W h h64 hc hm)
 have E0:Hid (errM (chk ms)=0):=Lh (by rw [hk];rfl)
 have aux:decide (g<0)=true∨(decide (g<0)=false∧decide (64≤g)=true)∨(decide (g<0)=false∧decide (64≤g)=false∧decide (t<1)=true) ∨
  (decide (g<0)=false∧decide (64≤g)=false∧decide (t<1)=false∧decide (255<t)=true):=by
  simp only [decide_eq_true_eq,decide_eq_false_iff_not];omega
 clear hk hb
 unfold mapV
 rcases aux with d1 | ⟨d1,d2⟩ | ⟨d1,d2,d3⟩ | ⟨d1,d2,d3,d4⟩
 all_goals
  go_enter Tryz.func83,Tryz.ntmps83
  go_wp2_with fail
  refine (H.out _ ((hr.out.alloc (Nat.le_refl _) _).more (by simp))).mono ?_
  rintro e w2 ⟨rfl,hb⟩
  have hb2:Below w.heap.size w w2:=((Below.refl _ _).alloc (Nat.le_refl _) _).trans (hb.mono (by simp))
  rw [E0.out]
  clear hb
  go_wp2
  go_ret2
  exact RetI.nil 2 hb2
end
theorem box_after {w w2:World} {T:TypeId} {cs:Array Value} (hb:Below (w.alloc (.cells cs T)).heap.size (w.alloc (.cells cs T)) w2):Blk w2 w.heap.size T cs:=(Blk.new w T cs).below hb (by simp)
section
variable (e:Nat) (A:Option Addr) (n cap:Nat) (ms:List Mem) (g t:Nat) (w:World)
theorem nodes_few (hr:Hid (Reads w w.heap.size 2 A n (mcells ms))) (h64:M64 ms) (hc:n≤cap) (hm:cap≤maxLen) (hk:chk ms=true) (h1:g<64) (h2:1≤t) (h3:t≤255) (hf:wts ms<t) :
 Calls Tryz.prog 83 #[mapV e A n cap,.int .i64 g,.int .i64 t] w (RetI ([],111) w):=by
 have H:=Lh (fun W h=>check_any e A n cap ms W h h64 hc hm)
 have HW:=Lh (fun W h=>weights_any e A n cap ms W h hc hm)
 have E0:Hid (errM (chk ms)=0):=Lh (by rw [hk];rfl)
 have d1:decide ((g:Int)<0)=false:=decide_eq_false (by omega)
 have d2:decide (64≤(g:Int))=false:=decide_eq_false (by omega)
 have d3:decide ((t:Int)<1)=false:=decide_eq_false (by omega)
 have d4:decide (255<(t:Int))=false:=decide_eq_false (by omega)
 have d2':decide (64≤g)=false:=decide_eq_false (by omega)
 have d3':decide (t<1)=false:=decide_eq_false (by omega)
 have d4':decide (255<t)=false:=decide_eq_false (by omega)
 clear hk
 generalize wts ms=c at *
 have d5:decide (c<t)=true:=decide_eq_true hf
 unfold mapV at HW H ⊢
 go_enter Tryz.func83,Tryz.ntmps83
 go_wp2_with fail
 refine (H.out _ ((hr.out.alloc (Nat.le_refl _) _).more (by simp))).mono ?_
 rintro e w2 ⟨rfl,hb⟩
 have hb2:Below w.heap.size w w2:=((Below.refl _ _).alloc (Nat.le_refl _) _).trans (hb.mono (by simp))
 have hx:=box_after hb
 have hx0:=hx.cell 0
 have hx1:=hx.cell 1
 have hs2:=hb.size
 rw [E0.out]
 clear hb hx
 go_wp2_with fail
 refine (HW.out _ ((hr.out.below hb2).more hb2.size)).mono ?_
 rintro e w3 ⟨rfl,hb3⟩
 have hb4:Below w.heap.size w w3:=hb2.trans (hb3.mono hb2.size)
 clear hb3 hb2 hx0 hx1
 go_wp2
 go_ret2
 exact RetI.nil 111 hb4
end
end
section
open Go.RowKit StrMath PlMath
def accTo (c:Nat→Mem→Int) (r:Nat) (l:List Int) (ms:List Mem) (j:Nat):Int×Int:=((ms.take j).filter fun x => !l.contains x.1).foldl (stp c r) (0,0)
theorem accTo_skip (c:Nat→Mem→Int) (r:Nat) (l:List Int) (ms:List Mem) (j:Nat) (hj:j<ms.length) (h:l.contains (ms.getD j (0,0)).1=true):accTo c r l ms (j+1)=accTo c r l ms j:=by
 unfold accTo
 rw [List.getD_eq_getElem?_getD,List.getElem?_eq_getElem hj] at h
 rw [List.take_succ_eq_append_getElem hj,List.filter_append,List.filter_cons_of_neg (by simpa using h)]
 simp
theorem accTo_take (c:Nat→Mem→Int) (r:Nat) (l:List Int) (ms:List Mem) (j:Nat) (hj:j<ms.length) (h:l.contains (ms.getD j (0,0)).1=false):accTo c r l ms (j+1)=stp c r (accTo c r l ms j) (ms.getD j (0,0)):=by
 unfold accTo
 rw [List.getD_eq_getElem?_getD,List.getElem?_eq_getElem hj] at h ⊢
 rw [List.take_succ_eq_append_getElem hj,List.filter_append,List.filter_cons_of_pos (by simpa using h),List.foldl_append]
 rfl
theorem accTo_all (c:Nat→Mem→Int) (r:Nat) (ms:List Mem):accTo c r (picks c ms r) ms ms.length=bst c r (remL c ms r):=by
 unfold accTo remL bst
 rw [List.take_of_length_le (Nat.le_refl _)]
theorem sel_rng (c:Nat→Mem→Int) (r:Nat) {l:List Mem} (h:Up l):0≤sel c r l∧sel c r l≤32:=by
 unfold sel
 rcases bst_spec (c:=c) r h with ⟨_,e⟩ | ⟨x,hx,e⟩
 · rw [e];decide
 · rw [e]
   have:=h.2 x hx.1
   exact⟨by simp only;omega,by simp only;omega⟩
theorem leftF_next (ms:List Mem) (n:Nat) (l:List Int) (s j:Int):(if j=s then none else leftF ms n l j)=leftF ms n (l ++ [s]) j:=by
 unfold leftF
 by_cases h:j=s
 · subst h;simp
 · by_cases h2:j ∈ l <;> simp [h,h2]
section
variable (e:Nat) (A:Option Addr) (n cap:Nat) (ms:List Mem) (g t:Nat) (w:World)
theorem nodes_ok (hr:Hid (Reads w w.heap.size 2 A n (mcells ms))) (h64:M64 ms) (hc:n≤cap) (hm:cap≤maxLen) (hk:chk ms=true) (h1:g<64) (h2:1≤t) (h3:t≤255) (hf:t≤wts ms) :
 Calls Tryz.prog 83 #[mapV e A n cap,.int .i64 g,.int .i64 t] w (RetI (picks (cF g) ms t,0) w):=by
 have H:=Lh (fun W h=>check_any e A n cap ms W h h64 hc hm)
 have HW:=Lh (fun W h=>weights_any e A n cap ms W h hc hm)
 have E0:Hid (errM (chk ms)=0):=Lh (by rw [hk];rfl)
 obtain⟨hU,hn32⟩:=chk_up hk
 have hl:ms.length=n:=by have:=hr.out.1;rw [mcells_len] at this;omega
 have hwl:=wts_le ms
 rw [hl] at hn32 hwl
 have hmk := @run_makeMap Tryz.prog
 have d1:decide ((g:Int)<0)=false:=decide_eq_false (by omega)
 have d2:decide (64≤(g:Int))=false:=decide_eq_false (by omega)
 have d3:decide ((t:Int)<1)=false:=decide_eq_false (by omega)
 have d4:decide (255<(t:Int))=false:=decide_eq_false (by omega)
 have d2':decide (64≤g)=false:=decide_eq_false (by omega)
 have d3':decide (t<1)=false:=decide_eq_false (by omega)
 have d4':decide (255<t)=false:=decide_eq_false (by omega)
 have HL:=Lh hl
 have HU:=Lh hU
 clear hk hl hU h64
 generalize wts ms=c at *
 have d5:decide (c<t)=false:=decide_eq_false (by omega)
 have ht32:t≤32:=by omega
 unfold maxLen at hm
 unfold mapV at HW H ⊢
 go_enter Tryz.func83,Tryz.ntmps83
 go_wp2_with fail
 refine (H.out _ ((hr.out.alloc (Nat.le_refl _) _).more (by simp))).mono ?_
 rintro e' w2 ⟨rfl,hb⟩
 have hb2:Below w.heap.size w w2:=((Below.refl _ _).alloc (Nat.le_refl _) _).trans (hb.mono (by simp))
 have hx:=box_after hb
 have hx0:=hx.cell 0
 have hx1:=hx.cell 1
 have HX:=Lh hx
 have hs2:=hb.size
 rw [E0.out]
 clear hb hx
 go_wp2_with fail
 refine (HW.out _ ((hr.out.below hb2).more hb2.size)).mono ?_
 rintro e' w3 ⟨rfl,hb3⟩
 have hs3:=hb3.size
 simp at hs2
 have HX3:Hid (Blk w3 w.heap.size 27 #[.int .u64 (e:Int),.slice A n cap]):=Lh (HX.out.below hb3 (by omega))
 have hb4:Below w.heap.size w w3:=hb2.trans (hb3.mono hb2.size)
 clear hx0 hx1 HX
 have hx1:=HX3.out.cell 1
 have hs4:w.heap.size<w3.heap.size:=by omega
 have HB4:=Lh hb4
 clear hb3 hb2 hb4 H HW d1 d2 d3 d4 d2' d3' d4'
 have hst0:Hid (Sta w w.heap.size w3.heap.size 0 #[.int .u64 (e:Int),.slice A n cap] (fillF ms 0) (.slice none 0 0) [] (w3.alloc (.map #[] 0))) :=
  Lh ⟨HB4.out.alloc HB4.out.size _,⟨.map [],World.ownsMap_made _ _ _ _,MapIs.empty⟩,⟨rfl,.inl ⟨rfl,rfl⟩⟩,HX3.out.alloc _,Nat.le_refl _,HB4.out.size,by omega⟩
 go_wp2
 obtain⟨b,eb⟩:∃b,w3.heap.size=b:=⟨_,rfl⟩
 rw [eb] at hst0 ⊢
 revert hst0
 generalize w3.alloc (Obj.map #[] 0)=w4
 intro hst0
 clear eb hx1 hs4 HB4 HX3 hs3 hs2 hmk d5
 go_loopw [10,48] (fun _ vi wr=>∃k:Nat,k≤n∧vi = .int .i64 k∧Hid (Sta w w.heap.size b k #[.int .u64 (e:Int),.slice A n cap] (fillF ms k) (.slice none 0 0) [] wr)) (fun _ vi _=>n - (intOf vi).toNat)
 case atStart=>exact⟨0,by omega,rfl,hst0⟩
 case round =>
  obtain⟨k,hk,rfl,hst⟩:=hrel
  by_cases hlt:k<n
  · obtain⟨ad,rfl,hbl,hc1,hc2⟩:=(hr.out.below hst.out.bel).mem hlt
    have hxr:=HU.out.2 (ms.getD k (0,0)) (by rw [List.getD_eq_getElem?_getD,List.getElem?_eq_getElem (by have:=HL.out;omega)];exact List.getElem_mem _)
    have hfe:Hid (∀j,(if j=(ms.getD k (0,0)).1 then some (ms.getD k (0,0)).2 else fillF ms k j)=fillF ms (k+1) j):=Lh (fun j=>rfl)
    obtain⟨x,ex⟩:∃x,ms.getD k (0,0)=x:=⟨_,rfl⟩
    rw [ex] at hc1 hc2 hxr hfe
    obtain⟨id,wt⟩:=x
    simp only at hc1 hc2 hxr hfe
    clear ex
    have HS:=Lh (hst.out.alloc (.cells #[.int .i64 id,.int .i64 wt] 67))
    clear hst
    go_wp2_with (at_mapUpdate
                 refine wpl_put rfl _ _ _ rfl HS.out (by omega) id wt rfl rfl rfl (wf32 (by omega) (by omega)) (wf32 (by omega) (by omega)) ?_
                 intro w5 hst5)
    exact⟨⟨k+1,by omega,by go_num,Lh (hst5.out.congr hfe.out)⟩,by simp [intOf];omega⟩
  · obtain rfl:n=k:=by omega
    clear hst0
    have hst1:Hid (Sta w w.heap.size b n #[.int .u64 (e:Int),.slice A n cap] (leftF ms n (picks (cF g) ms 0)) (.slice none 0 0) (picks (cF g) ms 0) wr) :=
     Lh (hst.out.congr (fun j=>by unfold leftF picks;simp))
    clear hst
    go_wp2
    obtain⟨wf,ewf⟩:∃wf,wf=wr:=⟨_,rfl⟩
    rw [← ewf] at hst1 ⊢
    clear ewf
    go_loopw [11,12,13,14,16,17,18,19,59] (fun vo _ _ _ _ _ _ _ vi wr=>∃r:Nat,r≤t∧vi = .int .i64 r∧Hid (Sta w w.heap.size b n #[.int .u64 (e:Int),.slice A n cap] (leftF ms n (picks (cF g) ms r)) vo (picks (cF g) ms r) wr)) (fun _ _ _ _ _ _ _ _ vi _=>t - (intOf vi).toNat)
    case atStart=>exact⟨0,by omega,rfl,hst1⟩
    case round =>
     obtain⟨r,hr',rfl,hst⟩:=hrel
     clear hst1
     by_cases hrt:r<t
     · have EN:=Lh (picks_succ (c:=cF g) ms r)
       have EA:Hid (accTo (cF g) r (picks (cF g) ms r) ms n=bst (cF g) r (remL (cF g) ms r)):=Lh (by have:=accTo_all (cF g) r ms;rw [HL.out] at this;exact this)
       have hsr:=sel_rng (cF g) r (remL_up (c:=cF g) HU.out r)
       have hpl:=picks_length (c:=cF g) ms r
       unfold sel at EN hsr
       generalize bst (cF g) r (remL (cF g) ms r)=bs at *
       obtain⟨L,eL⟩:∃L,picks (cF g) ms r=L:=⟨_,rfl⟩
       rw [eL] at EN EA hpl hst
       have HPL:=Lh hpl
       clear eL hpl
       have hx1:=hst.out.box.cell 1
       have HS0:=hst
       clear hst
       go_wp2
       clear hx1
       obtain⟨wo,ewo⟩:∃wo,wo=wr:=⟨_,rfl⟩
       rw [← ewo] at HS0 ⊢
       clear ewo
       go_loopw [13,14,16,17,18,19,65] (fun vb vl _ _ _ _ vi wr=>∃j:Nat,j≤n∧vi = .int .i64 j∧vb = .int .i64 (accTo (cF g) r L ms j).1∧vl = .int .i64 (accTo (cF g) r L ms j).2∧Hid (Sta w w.heap.size b n #[.int .u64 (e:Int),.slice A n cap] (leftF ms n L) u11 L wr)) (fun _ _ _ _ _ _ vi _=>n - (intOf vi).toNat)
       case atStart=>exact⟨0,by omega,rfl,rfl,rfl,HS0⟩
       case round =>
        obtain⟨j,hj,rfl,rfl,rfl,hst⟩:=hrel
        by_cases hjn:j<n
        · obtain⟨ad,rfl,hbl,hc1,hc2⟩:=(hr.out.below hst.out.bel).mem hjn
          have hjl:j<ms.length:=by have:=HL.out;omega
          have hxr:=HU.out.2 (ms.getD j (0,0)) (by rw [List.getD_eq_getElem?_getD,List.getElem?_eq_getElem hjl];exact List.getElem_mem _)
          have hfg:=fillF_get HU.out n (by have:=HL.out;omega) j hjn
          have q1:=accTo_skip (cF g) r L ms j hjl
          have q2:=accTo_take (cF g) r L ms j hjl
          obtain⟨x,ex⟩:∃x,ms.getD j (0,0)=x:=⟨_,rfl⟩
          rw [ex] at hc1 hc2 hxr hfg q1 q2
          obtain⟨id,wt⟩:=x
          simp only at hc1 hc2 hxr hfg q1 q2
          clear ex hjl
          obtain⟨i,rfl⟩:∃i:Nat,id=i:=⟨id.toNat,by omega⟩
          have HS:=Lh (hst.out.alloc (.cells #[.int .i64 (i:Int),.int .i64 wt] 67))
          clear hst
          obtain⟨D,hown,hD⟩:=HS.out.mp
          have HO:=Lh hown
          have HD:=Lh hD
          clear hown hD
          generalize accTo (cF g) r L ms j=ac at *
          obtain⟨ab,al⟩:=ac
          by_cases hcn:L.contains (i:Int)=true
          · have z1:Hid ((leftF ms n L (i:Int)).getD 0=0):=Lh (by unfold leftF;rw [if_pos hcn];rfl)
            have z2:Hid ((leftF ms n L (i:Int)).isSome=false):=Lh (by unfold leftF;rw [if_pos hcn];rfl)
            have Q:=Lh (q1 hcn)
            clear q1 q2 hfg hcn
            go_wp2_with (at_lookup
                         refine wpl_look rfl _ _ rfl b n D _ HO.out HD.out (i:Int) rfl rfl (wf32 (by omega) (by omega)) 0 false z1.out z2.out ?_)
            exact⟨⟨j+1,by omega,by go_num,by rw [Q.out],by rw [Q.out],HS⟩,by simp [intOf];omega⟩
          · have z1:Hid ((leftF ms n L (i:Int)).getD 0=wt):=Lh (by unfold leftF;rw [if_neg hcn,hfg];rfl)
            have z2:Hid ((leftF ms n L (i:Int)).isSome=true):=Lh (by unfold leftF;rw [if_neg hcn,hfg];rfl)
            have q3:=q2 (by simpa using hcn)
            clear q1 q2 hfg hcn
            by_cases hw0:wt=0
            · subst hw0
              have Q:Hid (accTo (cF g) r L ms (j+1)=(ab,al)):=Lh q3
              clear q3
              go_wp2_with (at_lookup
                           refine wpl_look rfl _ _ rfl b n D _ HO.out HD.out (i:Int) rfl rfl (wf32 (by omega) (by omega)) 0 true z1.out z2.out ?_)
              exact⟨⟨j+1,by omega,by go_num,by rw [Q.out],by rw [Q.out],HS⟩,by simp [intOf];omega⟩
            · have f1:(wt == 0)=false:=by simpa using hw0
              unfold stp at q3
              rw [if_neg hw0,show cF g r ((i:Int),wt)=cost (hashN g r i) wt from rfl] at q3
              have hH:=hashN_lt g r i
              have HA:=Lh (fun W=>hash_any g r i W (by omega) (by omega))
              generalize hashN g r i=hh at *
              have HC:=Lh (fun W=>cost_any hh wt W hH (wf32 (by omega) (by omega)))
              have hcr:=cost_rng hh wt
              generalize cost hh wt=cc at *
              have HW0:=Lh hw0
              clear hw0
              have aux:((ab == 0)=true∧Hid (accTo (cF g) r L ms (j+1)=((i:Int),cc)))∨((ab == 0)=false∧decide (cc<al)=true∧Hid (accTo (cF g) r L ms (j+1)=((i:Int),cc))) ∨
               ((ab == 0)=false∧decide (cc<al)=false∧Hid (accTo (cF g) r L ms (j+1)=(ab,al))):=by
               simp only at q3
               by_cases k1:ab=0
               · left;rw [if_pos (.inl k1)] at q3;exact⟨by simpa using k1,Lh q3⟩
               · by_cases k2:cc<al
                 · right;left;rw [if_pos (.inr k2)] at q3;exact⟨by simpa using k1,decide_eq_true k2,Lh q3⟩
                 · right;right;rw [if_neg (by omega)] at q3;exact⟨by simpa using k1,decide_eq_false k2,Lh q3⟩
              clear q3
              rcases aux with ⟨k1,Q⟩ | ⟨k1,k2,Q⟩ | ⟨k1,k2,Q⟩
              all_goals
               go_wp2_with (at_lookup
                            refine wpl_look rfl _ _ rfl b n D _ HO.out HD.out (i:Int) rfl rfl (wf32 (by omega) (by omega)) wt true z1.out z2.out ?_)
               refine (HA.out _).mono ?_
               rintro e' w' ⟨rfl,rfl⟩
               go_wp2_with fail
               refine (HC.out _).mono ?_
               rintro e' w' ⟨rfl,rfl⟩
               go_wp2
               exact⟨⟨j+1,by omega,by go_num,by rw [Q.out],by rw [Q.out],HS⟩,by simp [intOf];omega⟩
        · obtain rfl:n=j:=by omega
          have HN:=Lh (leftF_next ms n L bs.1)
          rw [EA.out]
          have hll:L.length≤1000:=by have:=HPL.out;omega
          clear HS0
          go_wp2_with (first
           | (at_builtin
              refine wpl_app rfl _ _ rfl hst.out hll bs.1 rfl rfl ?_
              intro v5 w5 hst5)
           | (refine wpl_del rfl _ _ rfl hst5.out bs.1 rfl rfl (wf32 (by omega) (by omega)) ?_
              intro w6 hst6))
          exact⟨⟨r+1,by omega,by go_num,Lh (by rw [EN.out];exact hst6.out.congr HN.out)⟩,by simp [intOf];omega⟩
     · obtain rfl:t=r:=by omega
       go_wp2
       go_ret2
       exact⟨_,rfl,hst.out.row,hst.out.bel⟩
end
end
section
open Go.RowKit StrMath PlMath
def ApartV (u v:Value):Prop:=u.ownBlock=none∨u.ownBlock≠v.ownBlock
theorem ApartV.symm {u v:Value} (h:ApartV u v):ApartV v u:=by
 unfold ApartV at *
 rcases h with h | h
 · rw [h]
   cases e:v.ownBlock with
   | none=>exact .inl rfl
   | some k=>right;simp
 · exact .inr fun e=>h e.symm
def IRow (w wr:World) (v:Value) (l:List Int):Prop:=wr.ownsRow w.heap.size 3 1 v l.length (l.map iv)
theorem own_lt {w:World} {base size n:Nat} {t:TypeId} {v:Value} {xs:List Value} (h:w.ownsRow base t size v n xs) {k:Nat} (hk:v.ownBlock=some k):base≤k∧k<w.heap.size:=h.lt k hk
structure RSta (w:World) (cs:Array Value) (vI vW vO:Value) (li lw lo:List Int) (wr:World):Prop where
 bel:Below w.heap.size w wr
 rI:IRow w wr vI li
 rW:IRow w wr vW lw
 rO:IRow w wr vO lo
 aIW:ApartV vI vW
 aIO:ApartV vI vO
 aWO:ApartV vW vO
 box:Blk wr w.heap.size 27 cs
section
variable {w wr wa w':World} {cs:Array Value} {vI vW vO v v' u:Value} {li lw lo l:List Int}
theorem IRow.kept (h:IRow w wa u l) (ha:ApartV u v) (hg:wa.grownBy w' v.ownBlock):IRow w w' u l:=World.ownsRow.kept h hg ha
theorem ApartV.new (h:IRow w wa u l) (ha:ApartV u v) (hv:v'.ownBlock=v.ownBlock∨v'.ownBlock=some wa.heap.size):ApartV u v':=by
 rcases hv with hv | hv
 · unfold ApartV;rw [hv];exact ha
 · unfold ApartV
   rw [hv]
   cases e:u.ownBlock with
   | none=>exact .inl rfl
   | some k =>
     right
     have:=(own_lt h e).2
     intro e2
     injection e2 with e2
     omega
theorem ApartV.far (h:IRow w wr u l) (hv:∀k,v.ownBlock=some k→wr.heap.size≤k):ApartV u v:=by
 unfold ApartV
 cases e:u.ownBlock with
 | none=>exact .inl rfl
 | some k =>
   right
   intro e2
   have h1:=(own_lt h e).2
   have h2:=hv k e2.symm
   omega
theorem RSta.alloc (h:RSta w cs vI vW vO li lw lo wr) (o:Obj):RSta w cs vI vW vO li lw lo (wr.alloc o) :=
 ⟨h.bel.alloc h.bel.size o,h.rI.alloc o,h.rW.alloc o,h.rO.alloc o,h.aIW,h.aIO,h.aWO,h.box.alloc o⟩
theorem RSta.drewN (h:RSta w cs vI vW vO li lw lo wr) (d:Nat):RSta w cs vI vW vO li lw lo (wr.drewN d) :=
 ⟨bel_drewN h.bel d,h.rI,h.rW,h.rO,h.aIW,h.aIO,h.aWO,h.box.drewN d⟩
theorem RSta.drew (h:RSta w cs vI vW vO li lw lo wr):RSta w cs vI vW vO li lw lo wr.drew:=h.drewN 1
end
end
section
open Go.RowKit StrMath PlMath
theorem IRow.reads {w wr:World} {A:Option Addr} {n c:Nat} {l:List Int} (h:IRow w wr (.slice A n c) l) (hn:l.length=n):Reads wr wr.heap.size 1 A n (l.map iv):=by
 subst hn
 exact Reads.of_own h
section
variable (e:Nat) (A:Option Addr) (n cap:Nat) (ms:List Mem) (g t:Int) (w:World)
end
section
variable (e:Nat) (A:Option Addr) (n cap:Nat) (ms:List Mem) (g t:Nat) (w:World)
end
section
variable (e:Nat) (A:Option Addr) (n cap:Nat) (ms:List Mem) (g t:Nat) (w:World)
end
end
section
open Go.RowKit StrMath PlMath
theorem nodesR_map {ms:List Mem} (g t:Int) (h:chk ms=false):nodesR ms g t=([],110):=by unfold nodesR;rw [if_pos h]
theorem nodesR_arg {ms:List Mem} {g t:Int} (h:chk ms=true) (h2:g<0∨64≤g∨t<1∨255<t):nodesR ms g t=([],2):=by unfold nodesR;rw [if_neg (by simp [h]),if_pos h2]
theorem nodesR_few {ms:List Mem} {g t:Nat} (h:chk ms=true) (h1:g<64) (h2:1≤t) (h3:t≤255) (h4:wts ms<t):nodesR ms g t=([],111):=by
 unfold nodesR;rw [if_neg (by simp [h]),if_neg (by omega),if_pos (by omega)]
theorem nodesR_ok {ms:List Mem} {g t:Nat} (h:chk ms=true) (h1:g<64) (h2:1≤t) (h3:t≤255) (h4:t≤wts ms):nodesR ms g t=(picks (cF g) ms t,0):=by
 unfold nodesR;rw [if_neg (by simp [h]),if_neg (by omega),if_neg (by omega)];rfl
theorem nodes_any (e:Nat) (A:Option Addr) (n cap:Nat) (ms:List Mem) (g t:Int) (w:World) (hr:Hid (Reads w w.heap.size 2 A n (mcells ms))) (h64:M64 ms) (hc:n≤cap) (hm:cap≤maxLen) :
 Calls Tryz.prog 83 #[mapV e A n cap,.int .i64 g,.int .i64 t] w (RetI (nodesR ms g t) w):=by
 by_cases hk:chk ms=false
 · rw [nodesR_map g t hk];exact nodes_map e A n cap ms g t w hr h64 hc hm hk
 · have hk:chk ms=true:=by simpa using hk
   by_cases hb:g<0∨64≤g∨t<1∨255<t
   · rw [nodesR_arg hk hb];exact nodes_arg e A n cap ms g t w hr h64 hc hm hk hb
   · obtain⟨g,rfl⟩:=Int.eq_ofNat_of_zero_le (show 0≤g by omega)
     obtain⟨t,rfl⟩:=Int.eq_ofNat_of_zero_le (show 0≤t by omega)
     by_cases hf:wts ms<t
     · rw [nodesR_few hk (by omega) (by omega) (by omega) hf];exact nodes_few e A n cap ms g t w hr h64 hc hm hk (by omega) (by omega) (by omega) hf
     · rw [nodesR_ok hk (by omega) (by omega) (by omega) (by omega)];exact nodes_ok e A n cap ms g t w hr h64 hc hm hk (by omega) (by omega) (by omega) (by omega)
theorem RetI.open {r:List Int×Int} {w w':World} {e:Ending} (h:RetI r w e w') :
 ∃A n cap,e = .returned (.tuple #[.slice A n cap,.int .i64 r.2])∧n=r.1.length∧Hid (Reads w' w'.heap.size 1 A n (r.1.map iv))∧n≤cap∧cap≤maxLen∧Below w.heap.size w w':=by
 obtain⟨v,rfl,ho,hb⟩:=h
 obtain⟨A,cap,rfl,h1,h2⟩:=own_slice ho
 exact⟨A,_,cap,rfl,rfl,Lh (Reads.of_own ho),h1,h2,hb⟩
end
section
open Go.RowKit StrMath PlMath
theorem picks_in {ms:List (Int×Int)} (c:Nat→(Int×Int)→Int) (h:Up ms) {n:Nat} (hn:n≤wts ms):∀d ∈ picks c ms n,1≤d∧d≤32:=fun d hd=>by
 obtain⟨⟨x,hx,rfl⟩,_⟩:=(mem_picks h hn n (Nat.le_refl _) d).1 hd
 exact⟨(h.2 x hx).1,(h.2 x hx).2.1⟩
theorem nodesR_fit {ms:List (Int×Int)} {g n:Int} (h:chk ms=true) (hw:n≤(wts ms:Int)) (h1:1≤n) (h2:n≤255) (h3:0≤g) (h4:g<64):(nodesR ms g n).1=picks (cF g.toNat) ms n.toNat:=by
 unfold nodesR
 rw [if_neg (by simp [h]),if_neg (by omega),if_neg (by omega)]
def plF:PlF where
 grp k gs:=(groupN (strOf k) gs).1
 nds mp g n:=(nodesR mp.2 g n).1
 okM n mp:=chk mp.2 && decide (n≤(wts mp.2:Int))
 grpR k gs h1 h2:=by
  unfold groupN
  rw [if_neg (by omega)]
  have:=Nat.mod_lt (textN (natsOf (strOf k))) (show 0<gs.toNat by omega)
  simp only []
  omega
 len {n m g} h h1 h2 h3 h4:=by
  simp only [Bool.and_eq_true,decide_eq_true_eq] at h
  rw [nodesR_fit h.1 h.2 h1 (by omega) h3 h4,picks_length]
  omega
 rng {n m g} h h1 h2 h3 h4 d hd:=by
  simp only [Bool.and_eq_true,decide_eq_true_eq] at h
  rw [nodesR_fit h.1 h.2 h1 (by omega) h3 h4] at hd
  exact picks_in _ (chk_up h.1).1 (by omega) d hd
theorem nodesR_lenP (ms:List (Int×Int)) (g t:Int):(nodesR ms g t).1.length≤255:=by
 unfold nodesR
 split
 · simp
 · split
   · simp
   · split
     · simp
     · rw [picks_length]
       omega
end
section
open Go.RowKit OctMath StrMath PlMath
theorem moving_eq (x:MetT):((x.nep:Int) != (x.mep:Int))=x.moving:=by
 unfold MetT.moving
 by_cases h:x.nep=x.mep
 · simp [h]
 · have h':(x.nep:Int)≠x.mep:=by omega
   simp [h,h']
theorem Tryz.szSt:(Tryz.prog.info? 34).map (·.size)=some 14:=by kernel_rfl
theorem moving_any (m:MM) (w:World):Calls Tryz.prog 61 #[.agg m.cs] w fun e w'=>e = .returned (.bool m.x.moving)∧Below w.heap.size w w':=by
 have hq:=moving_eq m.x
 have HQ:=Lh hq
 obtain⟨cs,ecs⟩:∃cs,m.cs=cs:=⟨_,rfl⟩
 have V3:=Lh (show cs[3]?=some (.int .u64 (m.x.mep:Int)) from by rw [← ecs];rfl)
 have V5:=Lh (show cs[5]?=some (.int .u64 (m.x.nep:Int)) from by rw [← ecs];rfl)
 have HCS:=Lh (show cs.size=14 from by rw [← ecs];rfl)
 have HCO:=Lh (show cs.toList.all (·.oneCell')=true from by rw [← ecs];rfl)
 rw [ecs]
 clear ecs hq
 go_enter Tryz.func61,Tryz.ntmps61
 go_upto_region 1 with (fail)
 have hB:=Blk.new w 34 cs
 have c3:=(hB.cell 3).trans V3.out
 have c5:=(hB.cell 5).trans V5.out
 have HB:=Lh (show Below w.heap.size w (w.alloc (.cells cs 34)) from (Below.refl _ _).alloc (Nat.le_refl _) _)
 obtain⟨w1,ew1⟩:∃w1,w.alloc (.cells cs 34)=w1:=⟨_,rfl⟩
 rw [ew1] at c3 c5 HB ⊢
 clear ew1 hB
 go_wp2
 go_ret
 exact⟨by rw [← HQ.out];rfl,HB.out⟩
def RetInts (xs:List Int) (w:World) (e:Ending) (w':World):Prop:=∃v,e = .returned v∧w'.ownsRow w.heap.size 3 1 v xs.length (xs.map iv)∧Below w.heap.size w w'
theorem nodes_of (m:MM) (g:Int) (w:World) (hI:Hid (MIn m w)) (h64:M64 m.x.nem):Calls Tryz.prog 52 #[.agg m.cs,.int .i64 g] w (RetInts (plF.nds m.x.next g m.x.n) w):=by
 have HR:=Lh hI.out.rows.next
 obtain⟨cs,ecs⟩:∃cs,m.cs=cs:=⟨_,rfl⟩
 have V1:=Lh (show cs[1]?=some (.int .i64 m.x.n) from by rw [← ecs];rfl)
 have V5:=Lh (show cs[5]?=some (.int .u64 (m.x.nep:Int)) from by rw [← ecs];rfl)
 have V6:=Lh (show cs[6]?=some (.slice m.NA m.x.nem.length m.nc) from by rw [← ecs];rfl)
 have HCS:=Lh (show cs.size=14 from by rw [← ecs];rfl)
 have HCO:=Lh (show cs.toList.all (·.oneCell')=true from by rw [← ecs];rfl)
 rw [ecs]
 clear ecs hI
 go_enter Tryz.func52,Tryz.ntmps52
 go_upto_region 1 with (fail)
 have hB:=Blk.new w 34 cs
 have c1:=(hB.cell 1).trans V1.out
 have c5:=(hB.cell 5).trans V5.out
 have c6:=(hB.cell 6).trans V6.out
 have HB:=Lh (show Below w.heap.size w (w.alloc (.cells cs 34)) from (Below.refl _ _).alloc (Nat.le_refl _) _)
 obtain⟨w1,ew1⟩:∃w1,w.alloc (.cells cs 34)=w1:=⟨_,rfl⟩
 rw [ew1] at c1 c5 c6 HB ⊢
 clear ew1 hB
 have HR1:=Lh (HR.out.later HB.out)
 go_wp2_with fail
 refine (nodes_any m.x.nep m.NA m.x.nem.length m.nc m.x.nem g m.x.n w1 (Lh HR1.out.rd) h64 HR1.out.nc HR1.out.cm).mono ?_
 rintro e w2 ⟨v,rfl,ho,hb⟩
 have HO:=Lh ho
 have HB2:=Lh hb
 clear ho hb
 go_wp2
 go_ret
 exact⟨_,rfl,ownBas HO.out HB.out.size,HB.out.trans (HB2.out.mono HB.out.size)⟩
theorem mapped_any (m:MM) (e:Nat) (A:Option Addr) (n c:Nat) (ms:List (Int×Int)) (w:World) (hr:Hid ((⟨2,A,c,n,mcells ms⟩:RowT).In w)) (h64:M64 ms) :
 Calls Tryz.prog 62 #[.agg m.cs,mapV e A n c] w fun en w'=>en = .returned (.bool (plF.okM m.x.n (e,ms)))∧Below w.heap.size w w':=by
 have hq:plF.okM m.x.n (e,ms)=(chk ms && decide (m.x.n≤(wts ms:Int))):=rfl
 have HQ:=Lh hq
 obtain⟨cs,ecs⟩:∃cs,m.cs=cs:=⟨_,rfl⟩
 have V1:=Lh (show cs[1]?=some (.int .i64 m.x.n) from by rw [← ecs];rfl)
 have HCS:=Lh (show cs.size=14 from by rw [← ecs];rfl)
 have HCO:=Lh (show cs.toList.all (·.oneCell')=true from by rw [← ecs];rfl)
 rw [ecs]
 clear ecs hq
 have HCK:=Lh (fun W (h:Below w.heap.size w W)=>check_any e A n c ms W ((hr.out.later h).rd) h64 hr.out.nc hr.out.cm)
 have HWT:=Lh (fun W (h:Below w.heap.size w W)=>weights_any e A n c ms W ((hr.out.later h).rd) hr.out.nc hr.out.cm)
 unfold mapV at *
 go_enter Tryz.func62,Tryz.ntmps62
 go_upto_region 1 with (fail)
 have hB:=(Blk.new w 34 cs).alloc (.cells #[.int .u64 (e:Int),.slice A n c] 27)
 have c1:=(hB.cell 1).trans V1.out
 have hC:=Blk.new (w.alloc (.cells cs 34)) 27 #[.int .u64 (e:Int),.slice A n c]
 have k0:=hC.cell 0
 have k1:=hC.cell 1
 rw [show (w.alloc (.cells cs 34)).heap.size=w.heap.size+1 from by simp] at k0 k1
 have HB:=Lh (show Below w.heap.size w ((w.alloc (.cells cs 34)).alloc (.cells #[.int .u64 (e:Int),.slice A n c] 27)) from ((Below.refl _ _).alloc (Nat.le_refl _) _).alloc (by simp) _)
 obtain⟨w1,ew1⟩:∃w1,(w.alloc (.cells cs 34)).alloc (.cells #[.int .u64 (e:Int),.slice A n c] 27)=w1:=⟨_,rfl⟩
 rw [ew1] at c1 k0 k1 HB ⊢
 clear ew1 hB hC
 simp only [List.getElem?_toArray,List.getElem?_cons_zero,List.getElem?_cons_succ] at k0 k1
 generalize hck:chk ms=ck at *
 refine wp_region_class (fun w'=>Hid (Below w1.heap.size w1 w'∧w'.cell? ⟨w.heap.size,1,none⟩=some (.int .i64 m.x.n)∧w'.cell? ⟨w.heap.size+1,0,none⟩=some (.int .u64 (e:Int))∧w'.cell? ⟨w.heap.size+1,1,none⟩=some (.slice A n c))) (by kernel_rfl) (by kernel_rfl) (Lh ⟨(Below.refl _ _).drew,c1,k0,k1⟩) ?_
 cases ck with
 | false =>
   repeat (first
    | go_big_quiet_skip
    | (go_big_quiet_want;go_big_quiet_op;first
        | go_big_quiet_on
        | (refine⟨_,fun _ _=>rfl,?_⟩;go_big_quiet_on)
        | (refine⟨.agg #[.int .u64 (e:Int),.slice A n c],fun w' hw'=>?_,?_⟩
           · simp [hw'.out.2.2.1,hw'.out.2.2.2]
             done
           go_big_quiet_on)
        | (refine⟨.int .i64 m.x.n,fun w' hw'=>?_,?_⟩
           · simp [hw'.out.2.1]
             done
           go_big_quiet_on)
        | (refine⟨.int .i64 110,fun w' hw'=>?_,?_⟩
           · go_at_call 95
             exact (HCK.out w' (HB.out.trans (hw'.out.1.mono HB.out.size))).mono (fun e w'' h=>⟨h.1,Lh ⟨hw'.out.1.trans (h.2.mono hw'.out.1.size),cell_later h.2 hw'.out.2.1,cell_later h.2 hw'.out.2.2.1,cell_later h.2 hw'.out.2.2.2⟩⟩)
           go_big_quiet_on)
        | (refine⟨.int .i64 (wts ms:Nat),fun w' hw'=>?_,?_⟩
           · go_at_call 96
             exact (HWT.out w' (HB.out.trans (hw'.out.1.mono HB.out.size))).mono (fun e w'' h=>⟨h.1,Lh ⟨hw'.out.1.trans (h.2.mono hw'.out.1.size),cell_later h.2 hw'.out.2.1,cell_later h.2 hw'.out.2.2.1,cell_later h.2 hw'.out.2.2.2⟩⟩)
           go_big_quiet_on)))
   refine wpQuiet_nil ?_
   intro w' hw'
   go_wp2
   go_ret
   exact⟨by rw [HQ.out];rfl,HB.out.trans (hw'.out.1.mono HB.out.size)⟩
 | true =>
   generalize hdd:decide (m.x.n≤(wts ms:Int))=dd
   have DD:Hid (decide (m.x.n≤(wts ms:Int))=dd):=Lh hdd
   clear hdd
   repeat (first
    | go_big_quiet_skip
    | (go_big_quiet_want;go_big_quiet_op;first
        | go_big_quiet_on
        | (refine⟨_,fun _ _=>rfl,?_⟩;go_big_quiet_on)
        | (refine⟨.agg #[.int .u64 (e:Int),.slice A n c],fun w' hw'=>?_,?_⟩
           · simp [hw'.out.2.2.1,hw'.out.2.2.2]
             done
           go_big_quiet_on)
        | (refine⟨.int .i64 m.x.n,fun w' hw'=>?_,?_⟩
           · simp [hw'.out.2.1]
             done
           go_big_quiet_on)
        | (refine⟨.int .i64 0,fun w' hw'=>?_,?_⟩
           · go_at_call 95
             exact (HCK.out w' (HB.out.trans (hw'.out.1.mono HB.out.size))).mono (fun e w'' h=>⟨h.1,Lh ⟨hw'.out.1.trans (h.2.mono hw'.out.1.size),cell_later h.2 hw'.out.2.1,cell_later h.2 hw'.out.2.2.1,cell_later h.2 hw'.out.2.2.2⟩⟩)
           go_big_quiet_on)
        | (refine⟨.int .i64 (wts ms:Nat),fun w' hw'=>?_,?_⟩
           · go_at_call 96
             exact (HWT.out w' (HB.out.trans (hw'.out.1.mono HB.out.size))).mono (fun e w'' h=>⟨h.1,Lh ⟨hw'.out.1.trans (h.2.mono hw'.out.1.size),cell_later h.2 hw'.out.2.1,cell_later h.2 hw'.out.2.2.1,cell_later h.2 hw'.out.2.2.2⟩⟩)
           go_big_quiet_on)))
   refine wpQuiet_nil ?_
   intro w' hw'
   go_wp2
   go_ret
   exact⟨by rw [HQ.out,DD.out];rfl,HB.out.trans (hw'.out.1.mono HB.out.size)⟩
end
section
open Go.RowKit OctMath StrMath PlMath
theorem int_beq (a b:Nat):((a:Int) == (b:Int))=(a == b):=by
 rw [Bool.eq_iff_iff,beq_iff_eq,beq_iff_eq]
 omega
theorem old_any (g:Nat) (o:OM) (gr:Int) (mt:MetT) (w:World) (h5:w.cell? ⟨g,5,none⟩=some (.int .u64 (mt.nep:Int))) (hg:g<w.heap.size) :
 Calls Tryz.prog 67 #[.pointer (some ⟨g,0,none⟩),.agg (oA o),.int .i64 gr] w fun e w'=>e = .returned (.bool (oldM mt gr o.x))∧Below w.heap.size w w':=by
 have hq:((o.x.group == gr) && ((o.x.epoch:Int) != (mt.nep:Int)))=oldM mt gr o.x:=by
  unfold oldM
  congr 1
  by_cases h:o.x.epoch=mt.nep
  · simp [h]
  · have h':(o.x.epoch:Int)≠mt.nep:=by omega
    simp [h,h']
 have HQ:=Lh hq
 obtain⟨os,eos⟩:∃os,oA o=os:=⟨_,rfl⟩
 have V4:=Lh (show os[4]?=some (.int .i64 o.x.group) from by rw [← eos];rfl)
 have V5:=Lh (show os[5]?=some (.int .u64 (o.x.epoch:Int)) from by rw [← eos];rfl)
 have HOS:=Lh (show os.size=7 from by rw [← eos];rfl)
 have HOO:=Lh (show os.toList.all (·.oneCell')=true from by rw [← eos];rfl)
 rw [eos]
 clear eos hq
 go_enter Tryz.func67,Tryz.ntmps67
 go_upto_region 1 with (fail)
 have hB:=Blk.new w 58 os
 have c4:=(hB.cell 4).trans V4.out
 have c5:=(hB.cell 5).trans V5.out
 have HB:=Lh (show Below w.heap.size w (w.alloc (.cells os 58)) from (Below.refl _ _).alloc (Nat.le_refl _) _)
 have g5:=cell_later HB.out h5
 obtain⟨w1,ew1⟩:∃w1,w.alloc (.cells os 58)=w1:=⟨_,rfl⟩
 rw [ew1] at c4 c5 g5 HB ⊢
 clear ew1 hB h5
 generalize o.x.group=a at *
 generalize (o.x.epoch:Int)=b at *
 generalize (mt.nep:Int)=d at *
 obtain⟨q,eq⟩:∃q,(a == gr)=q:=⟨_,rfl⟩
 rw [eq] at HQ
 refine wp_region_class (fun w'=>Hid (Below w1.heap.size w1 w'∧w'.cell? ⟨w.heap.size,4,none⟩=some (.int .i64 a)∧w'.cell? ⟨w.heap.size,5,none⟩=some (.int .u64 b)∧w'.cell? ⟨g,5,none⟩=some (.int .u64 d))) (by kernel_rfl) (by kernel_rfl) (Lh ⟨(Below.refl _ _).drew,c4,c5,g5⟩) ?_
 cases q with
 | false =>
   repeat (first
    | go_big_quiet_skip
    | (go_big_quiet_want;go_big_quiet_op;first
        | go_big_quiet_on
        | (refine⟨_,fun _ _=>rfl,?_⟩;go_big_quiet_on)
        | (refine⟨.int .i64 a,fun w' hw'=>?_,?_⟩
           · simp [hw'.out.2.1]
             done
           go_big_quiet_on)
        | (refine⟨.int .u64 b,fun w' hw'=>?_,?_⟩
           · simp [hw'.out.2.2.1]
             done
           go_big_quiet_on)
        | (refine⟨.int .u64 d,fun w' hw'=>?_,?_⟩
           · simp [hw'.out.2.2.2]
             done
           go_big_quiet_on)))
   refine wpQuiet_nil ?_
   intro w' hw'
   go_wp2
   go_ret
   exact⟨by rw [← HQ.out];rfl,HB.out.trans (hw'.out.1.mono HB.out.size)⟩
 | true =>
   repeat (first
    | go_big_quiet_skip
    | (go_big_quiet_want;go_big_quiet_op;first
        | go_big_quiet_on
        | (refine⟨_,fun _ _=>rfl,?_⟩;go_big_quiet_on)
        | (refine⟨.int .i64 a,fun w' hw'=>?_,?_⟩
           · simp [hw'.out.2.1]
             done
           go_big_quiet_on)
        | (refine⟨.int .u64 b,fun w' hw'=>?_,?_⟩
           · simp [hw'.out.2.2.1]
             done
           go_big_quiet_on)
        | (refine⟨.int .u64 d,fun w' hw'=>?_,?_⟩
           · simp [hw'.out.2.2.2]
             done
           go_big_quiet_on)))
   refine wpQuiet_nil ?_
   intro w' hw'
   go_wp2
   go_ret
   exact⟨by rw [← HQ.out];rfl,HB.out.trans (hw'.out.1.mono HB.out.size)⟩
theorem movedF (b0 v:Nat) (o:OM) (w:World) (h6:w.cell? ⟨b0,6,none⟩=some (.int .u64 (v:Int))) :
 Calls Tryz.prog 64 #[.agg (oA o),.pointer (some ⟨b0,0,none⟩)] w fun e w'=>e = .returned (.bool (o.x.version == v))∧Below w.heap.size w w':=by
 have hq:=int_beq o.x.version v
 have HQ:=Lh hq
 obtain⟨os,eos⟩:∃os,oA o=os:=⟨_,rfl⟩
 have V1:=Lh (show os[1]?=some (.int .u64 (o.x.version:Int)) from by rw [← eos];rfl)
 have HOS:=Lh (show os.size=7 from by rw [← eos];rfl)
 have HOO:=Lh (show os.toList.all (·.oneCell')=true from by rw [← eos];rfl)
 rw [eos]
 clear eos hq
 go_enter Tryz.func64,Tryz.ntmps64
 go_upto_region 1 with (fail)
 have c1:=((Blk.new w 58 os).cell 1).trans V1.out
 have HB:=Lh (show Below w.heap.size w (w.alloc (.cells os 58)) from (Below.refl _ _).alloc (Nat.le_refl _) _)
 have k6:=cell_later HB.out h6
 obtain⟨w1,ew1⟩:∃w1,w.alloc (.cells os 58)=w1:=⟨_,rfl⟩
 rw [ew1] at c1 k6 HB ⊢
 clear ew1 h6
 go_wp2
 go_ret
 exact⟨by rw [← HQ.out];rfl,HB.out⟩
theorem index_any (A:Option Addr) (n cap:Nat) (ms:List OM) (b0 v:Nat) (w:World) (hr:Hid (Reads w w.heap.size 7 A n (ms.flatMap omCs))) (hl:Hid (ms.length=n)) (hn:n≤67108864) (h6:Hid (w.cell? ⟨b0,6,none⟩=some (.int .u64 (v:Int)))) :
 Calls Tryz.prog 63 #[.slice A n cap,.func (.func 64) #[] #[.pointer (some ⟨b0,0,none⟩)]] w fun e w' =>
  ((∃i:Nat,∃h:i<ms.length,e = .returned (.int .i64 (i:Int))∧ms[i].x.version=v∧∀j (hj:j<i),ms[j].x.version≠v)∨(e = .returned (.int .i64 (-1))∧∀j (hj:j<ms.length),ms[j].x.version≠v))∧Below w.heap.size w w':=by
 have hll:∀m,(omCs m).length=7:=fun _=>rfl
 have HLL:=Lh hll
 clear hll
 go_enter Tryz.func63,Tryz.ntmps63
 go_wp2_with fail
 go_loopw [8] (fun vi wr=>∃k:Nat,k≤n∧vi = .int .i64 k∧Hid (∀j (hj:j<k) (h:j<ms.length),ms[j].x.version≠v)∧Hid (Below w.heap.size w wr)) (fun vi _=>n - (intOf vi).toNat)
 case atStart=>exact⟨0,by omega,rfl,Lh (fun j hj=>absurd hj (by omega)),Lh (Below.refl _ _)⟩
 case round =>
  obtain⟨k,hk,rfl,HV,HB⟩:=hrel
  by_cases hlt:k<n
  · have hmsl:k<ms.length:=by have:=hl.out;omega
    obtain⟨ad,rfl,hadb,hcell⟩:=elem_cells HLL.out hr.out hmsl (by omega)
    obtain⟨m,em⟩:∃m,ms[k]=m:=⟨_,rfl⟩
    rw [em] at hcell
    have EM:=Lh (show ∃h:k<ms.length,ms[k]=m from ⟨hmsl,em⟩)
    have HC1:=Lh (fun j v hv=>(HB.out.cell (p:=(ad.add (k*7)).add j) (by rw [block_of_add,block_of_add];exact hadb)).trans (hcell j v hv))
    have H6:=Lh (cell_later HB.out h6.out)
    clear em hmsl hcell hadb
    cases hz:(m.x.version == v) with
    | true =>
      have HZ:=Lh hz
      have HN:=Lh (movedF b0 v m _ H6.out)
      rw [hz] at HN
      clear hz
      go_wp2_with (first
       | (refine wpl_load_at rfl 58 (.tmp 14) rfl (ad.add (k*7)) (omCs m) _ rfl HC1.out Tryz.underlying58 rfl rfl ?_)
       | (go_at_call 64;refine HN.out.mono ?_;rintro e w' ⟨rfl,hb'⟩))
      go_ret
      obtain⟨hmsl,em⟩:=EM.out
      refine⟨.inl ⟨k,hmsl,rfl,?_,fun j hj=>HV.out j hj (Nat.lt_trans hj hmsl)⟩,HB.out.trans (hb'.mono HB.out.size)⟩
      have h1:=HZ.out
      rw [← em] at h1
      simpa using h1
    | false =>
      have HZ:=Lh hz
      have HN:=Lh (movedF b0 v m _ H6.out)
      rw [hz] at HN
      clear hz
      go_wp2_with (first
       | (refine wpl_load_at rfl 58 (.tmp 14) rfl (ad.add (k*7)) (omCs m) _ rfl HC1.out Tryz.underlying58 rfl rfl ?_)
       | (go_at_call 64;refine HN.out.mono ?_;rintro e w' ⟨rfl,hb'⟩))
      refine⟨⟨k+1,by omega,by go_num,Lh (fun j hj h=>?_),Lh (HB.out.trans (hb'.mono HB.out.size))⟩,by simp [intOf];omega⟩
      by_cases hjk:j<k
      · exact HV.out j hjk h
      · obtain rfl:j=k:=by omega
        obtain⟨hmsl,em⟩:=EM.out
        have h1:=HZ.out
        rw [← em] at h1
        simpa using h1
  · obtain rfl:k=n:=by omega
    go_wp2
    go_ret
    exact⟨.inr ⟨rfl,fun j hj=>HV.out j (by have:=hl.out;omega) hj⟩,HB.out⟩
end
end Go.Proofs.YtdoneomahlfkbaaGreat
