/- The library's Compare at whole numbers, words, texts; STRUCTS IN BLOCKS OF THEIR OWN: a whole struct stored into a block; only that block turns; ROWS -/
import Derived.WalkLawsBesides
import Derived.Deep.MidRow
import Derived.Great.BuildSlice
import Derived.Laws.CopyRow
import Derived.Laws.CopyOwn
import Derived.Lib.AppendZerosOnto
import Derived.Lib.Overlaps
import Derived.Shelf.Spec.SlicesInsert
import Derived.Test.YtdoneomahlfkbaaGreatOnc01
set_option linter.unusedVariables false
set_option linter.unusedSimpArgs false
set_option maxRecDepth 100000
namespace Go.Proofs.YtdoneomahlfkbaaGreat
section
open Go.RowKit OctMath
def cmpV (l g:Bool):Int:=if l then -1 else if g then 1 else 0
theorem bytesLess_strOf:∀ {xs ys:List Nat},Byt xs→Byt ys→Op.bytesLess (xs.map UInt8.ofNat) (ys.map UInt8.ofNat)=ltB xs ys
 | [],[],_,_=>rfl
 | [],_ :: _,_,_=>rfl
 | _ :: _,[],_,_=>rfl
 | x :: xs,y :: ys,hx,hy=>by
   have h1:=hx x List.mem_cons_self
   have h2:=hy y List.mem_cons_self
   have ih:=bytesLess_strOf (xs:=xs) (ys:=ys) (fun a ha=>hx a (List.mem_cons_of_mem _ ha)) (fun a ha=>hy a (List.mem_cons_of_mem _ ha))
   rw [List.map_cons,List.map_cons]
   unfold Op.bytesLess ltB
   rw [ih]
   have e1:(UInt8.ofNat x<UInt8.ofNat y)↔x<y:=by
    rw [UInt8.lt_iff_toNat_lt,UInt8.toNat_ofNat',UInt8.toNat_ofNat']
    omega
   have e2:(UInt8.ofNat x == UInt8.ofNat y)=decide (x=y):=by
    by_cases h:x=y
    · subst h;simp
    · rw [decide_eq_false h,beq_eq_false_iff_ne]
      intro e
      have:=congrArg UInt8.toNat e
      rw [UInt8.toNat_ofNat',UInt8.toNat_ofNat'] at this
      omega
   rw [e2]
   by_cases a:x<y
   · rw [if_pos a];simp [e1.2 a]
   · rw [if_neg a]
     have e3:decide (UInt8.ofNat x<UInt8.ofNat y)=false:=decide_eq_false (fun h=>a (e1.1 h))
     rw [e3]
     by_cases b:y<x
     · rw [if_pos b,decide_eq_false (by omega)];rfl
     · rw [if_neg b,decide_eq_true (by omega)];rfl
theorem less_strOf {xs ys:List Nat} (hx:Byt xs) (hy:Byt ys):Op.bytesLess (strOf xs).toList (strOf ys).toList=ltB xs ys:=by
 rw [ByteArray.toList_eq,ByteArray.toList_eq]
 exact bytesLess_strOf hx hy
theorem ltB_gt (xs ys:List Nat):(!(ltB xs ys || decide (xs=ys)))=ltB ys xs:=by
 cases h1:ltB xs ys with
 | true =>
   have:=bytO.asym (a:=xs) (b:=ys) h1
   have h2:ltB ys xs=false:=this
   rw [h2];rfl
 | false =>
   cases h2:ltB ys xs with
   | true =>
     have:xs≠ys:=fun e=>by rw [e,ltB_irr] at h2;cases h2
     rw [decide_eq_false this];rfl
   | false=>rw [decide_eq_true (ltB_tri h1 h2)];rfl
theorem nanI (x:Int) (w:World):Calls Tryz.prog 82 #[.int .i64 x] w fun e w'=>e = .returned (.bool false)∧w=w':=by
 have k:(x != x)=false:=by simp
 go_enter Tryz.func82,Tryz.ntmps82
 go_wp2
 go_ret
 exact⟨by simp,rfl⟩
theorem nanU (x:Int) (w:World):Calls Tryz.prog 80 #[.int .u64 x] w fun e w'=>e = .returned (.bool false)∧w=w':=by
 have k:(x != x)=false:=by simp
 go_enter Tryz.func80,Tryz.ntmps80
 go_wp2
 go_ret
 exact⟨by simp,rfl⟩
theorem nanS (x:ByteArray) (w:World):Calls Tryz.prog 79 #[.string x] w fun e w'=>e = .returned (.bool false)∧w=w':=by
 have k:(x.toList != x.toList)=false:=by simp
 go_enter Tryz.func79,Tryz.ntmps79
 go_wp2
 go_ret
 exact⟨by simp,rfl⟩
theorem cmpI (x y:Int) (w:World):Calls Tryz.prog 46 #[.int .i64 x,.int .i64 y] w fun e w'=>e = .returned (.int .i64 (cmpV (decide (x<y)) (decide (y<x))))∧w=w':=by
 have hx:=Lh (fun W=>nanI x W)
 have hy:=Lh (fun W=>nanI y W)
 cases a:decide (x<y) <;> cases b:decide (y<x)
 all_goals
  have b':decide (x>y)=decide (y<x):=rfl
  rw [b] at b'
  go_enter Tryz.func46,Tryz.ntmps46
  go_wp2_with (first
   | (refine (hx.out _).mono ?_;rintro e w' ⟨rfl,rfl⟩)
   | (refine (hy.out _).mono ?_;rintro e w' ⟨rfl,rfl⟩))
  go_ret
  exact⟨rfl,rfl⟩
theorem cmpU (x y:Nat) (w:World):Calls Tryz.prog 40 #[.int .u64 (x:Int),.int .u64 (y:Int)] w fun e w'=>e = .returned (.int .i64 (cmpV (decide (x<y)) (decide (y<x))))∧w=w':=by
 have hx:=Lh (fun W=>nanU (x:Int) W)
 have hy:=Lh (fun W=>nanU (y:Int) W)
 have e1:decide ((x:Int)<(y:Int))=decide (x<y):=by simp
 have e2:decide ((y:Int)<(x:Int))=decide (y<x):=by simp
 cases a:decide (x<y) <;> cases b:decide (y<x)
 all_goals
  have b':decide (x>y)=decide (y<x):=rfl
  have b2:decide ((x:Int)>(y:Int))=decide ((y:Int)<(x:Int)):=rfl
  rw [e2] at b2
  rw [a] at e1
  rw [b] at b' b2 e2
  go_enter Tryz.func40,Tryz.ntmps40
  go_wp2_with (first
   | (refine (hx.out _).mono ?_;rintro e w' ⟨rfl,rfl⟩)
   | (refine (hy.out _).mono ?_;rintro e w' ⟨rfl,rfl⟩))
  go_ret
  exact⟨rfl,rfl⟩
theorem cmpS (xs ys:List Nat) (w:World) (h1:Byt xs) (h2:Byt ys):Calls Tryz.prog 37 #[.string (strOf xs),.string (strOf ys)] w fun e w'=>e = .returned (.int .i64 (cmpV (ltB xs ys) (ltB ys xs)))∧w=w':=by
 have hx:=Lh (fun W=>nanS (strOf xs) W)
 have hy:=Lh (fun W=>nanS (strOf ys) W)
 have e1:=less_strOf h1 h2
 have e2:=ltB_gt xs ys
 rw [← strOf_beq h1 h2,← e1] at e2
 generalize strOf xs=s at *
 generalize strOf ys=t at *
 cases a:ltB xs ys <;> cases b:ltB ys xs <;> cases c:s.toList == t.toList
 all_goals
  rw [a] at e1
  rw [b,e1,c] at e2
 all_goals (try (exact absurd e2 (by decide)))
 all_goals
  clear e2
  go_enter Tryz.func37,Tryz.ntmps37
  go_wp2_with (first
   | (refine (hx.out _).mono ?_;rintro e w' ⟨rfl,rfl⟩)
   | (refine (hy.out _).mono ?_;rintro e w' ⟨rfl,rfl⟩))
  go_ret
  exact⟨rfl,rfl⟩
end
section
open Go.RowKit
structure Only (g:Nat) (w w':World):Prop where
 os:w'.os=w.os
 tape:w'.tape=w.tape
 output:w'.output=w.output
 size:w'.heap.size=w.heap.size
 block:∀k,k≠g→w'.heap[k]?=w.heap[k]?
section
variable {g:Nat} {w w' w'':World}
theorem Only.refl (g:Nat) (w:World):Only g w w:=⟨rfl,rfl,rfl,rfl,fun _ _=>rfl⟩
theorem Only.trans (h:Only g w w') (k:Only g w' w''):Only g w w'':=⟨k.os.trans h.os,k.tape.trans h.tape,k.output.trans h.output,k.size.trans h.size,fun i hi=>(k.block i hi).trans (h.block i hi)⟩
theorem Only.set_ (w:World) (g i:Nat) (u:Value):Only g w (w.setCell ⟨g,i,none⟩ u):=⟨rfl,rfl,rfl,by simp,fun k hk=>heap_setCell_other w ⟨g,i,none⟩ k u hk⟩
theorem Only.below (h:Only g w w') {B:Nat} (hB:B≤g):Below B w w':=⟨h.os,h.tape,h.output,by rw [h.size];exact Nat.le_refl _,fun k hk=>h.block k (by omega)⟩
theorem Only.blk (h:Only g w w') {k:Nat} {t:TypeId} {cs:Array Value} (hB:Blk w k t cs) (hk:k≠g):Blk w' k t cs:=(h.block k hk).trans hB
theorem Only.grown (h:Only g w w'):w.grownBy w' (some g):=⟨h.os,h.tape,h.output,by rw [h.size];exact Nat.le_refl _,fun k _ hk=>h.block k (fun e=>hk (by rw [e]))⟩
theorem Only.own (h:Only g w w') {base size n:Nat} {t:TypeId} {v:Value} {xs:List Value} (ho:w.ownsRow base t size v n xs) (hne:v.ownBlock≠some g):w'.ownsRow base t size v n xs:=ho.kept h.grown (.inr hne)
theorem Only.cell (h:Only g w w') {p:Addr} (hp:p.block≠g):w'.cell? p=w.cell? p:=World.cell?_of_block (h.block p.block hp)
theorem Only.reads (h:Only g w w') {size n:Nat} {A:Option Addr} {xs:List Value} (hr:Reads w w.heap.size size A n xs) (hne:∀ad,A=some ad→ad.block≠g):Reads w' w'.heap.size size A n xs:=by
 refine⟨hr.1,fun hn=>?_⟩
 obtain⟨ad,e,hb,hc⟩:=hr.2 hn
 refine⟨ad,e,by rw [h.size];exact hb,fun j u hu=>?_⟩
 rw [h.cell (p:=ad.add j) (by rw [block_of_add];exact hne ad e)]
 exact hc j u hu
end
theorem setCells_blk (g:Nat) (t:TypeId):∀ (vs:List Value) (o:Nat) (w:World) (zs:Array Value),Blk w g t zs→o+vs.length≤zs.size →
 ∃zs':Array Value,Blk (w.setCells g o vs) g t zs'∧Only g w (w.setCells g o vs)∧zs'.size=zs.size∧(∀i,i<o→zs'[i]?=zs[i]?)∧(∀j,j<vs.length→zs'[o+j]?=vs[j]?):=by
 intro vs
 induction vs with
 | nil=>intro o w zs h _;exact⟨zs,h,Only.refl _ _,rfl,fun _ _=>rfl,fun j hj=>by simp at hj⟩
 | cons v vs ih =>
   intro o w zs h hl
   simp only [List.length_cons] at hl
   obtain⟨zs',h1,h2,h3,h4,h5⟩:=ih (o+1) (w.setCell ⟨g,o,none⟩ v) (zs.setIfInBounds o v) (h.set_ o v) (by simp;omega)
   refine⟨zs',h1,(Only.set_ w g o v).trans h2,by simpa using h3,fun i hi=>?_,fun j hj=>?_⟩
   · rw [h4 i (by omega),Array.getElem?_setIfInBounds_ne (by omega)]
   · cases j with
     | zero=>rw [Nat.add_zero,h4 o (by omega),Array.getElem?_setIfInBounds_self_of_lt (by omega)];rfl
     | succ j =>
       have:=h5 j (by simpa using hj)
       rw [show o+(j+1)=o+1+j by omega,this]
       simp
theorem setCells_whole {g:Nat} {t:TypeId} {w:World} {zs cs:Array Value} (h:Blk w g t zs) (hs:zs.size=cs.size):Blk (w.setCells g 0 cs.toList) g t cs∧Only g w (w.setCells g 0 cs.toList):=by
 obtain⟨zs',h1,h2,h3,_,h5⟩:=setCells_blk g t cs.toList 0 w zs h (by simp [hs])
 have e:zs'=cs:=by
  apply Array.ext_getElem?
  intro i
  rcases Nat.lt_or_ge i cs.size with hi | hi
  · have:=h5 i (by simpa using hi)
    rw [Nat.zero_add] at this
    rw [this];simp
  · rw [Array.getElem?_eq_none (by omega),Array.getElem?_eq_none hi]
 rw [← e]
 exact⟨by rw [e] at h1 ⊢;exact h1,by rw [e];exact h2⟩
section
variable {P:Program} {ops:Array Oper} {rest:List Oper} {op:Oper} {a:Act} {w:World} {Q:Exit→Act→World→Prop} {K:Act→World→Prop}
theorem blk_there {g:Nat} {t:TypeId} {zs:Array Value} (h:Blk w g t zs):w.there g 0 zs.size:=fun j hj=>by
 rw [Nat.zero_add,h.cell]
 exact⟨by simp [hj],h.frozen j⟩
theorem wp_store_blk (ty:TypeId) (x y:Operand) (ho:op.op = .store ty x y) (g:Nat) (t:TypeId) (zs cs:Array Value) (hx:a.eval x = .pointer (some ⟨g,0,none⟩)) (hy:a.eval y = .agg cs)
 (hB:Blk w g t zs) (hs:zs.size=cs.size) (hi:(P.info? ty).map (·.size)=some cs.size) (h1:cs.toList.all (·.oneCell')=true) (h:∀w',Hid (Blk w' g t cs)→Hid (Only g w w')→K (a.put op.dst undef) w'):op.wp P a w K Q:=by
 have e:=setCells_whole hB hs
 exact wp_store_mid ty x y ho g 0 cs hx hy (by rw [← hs];exact blk_there hB) hi (Array.all_eq_true_iff_forall_mem.2 (fun v hv=>List.all_eq_true.1 h1 v (by simpa using hv))) (h _ (Lh e.1) (Lh e.2))
theorem wpl_store_blk (hgd:op.guard=none) (ty:TypeId) (x y:Operand) (ho:op.op = .store ty x y) (g:Nat) (t:TypeId) (zs cs:Array Value) (hx:a.eval x = .pointer (some ⟨g,0,none⟩)) (hy:a.eval y = .agg cs)
 (hB:Blk w g t zs) (hs:zs.size=cs.size) (hi:(P.info? ty).map (·.size)=some cs.size) (h1:cs.toList.all (·.oneCell')=true) (h:∀w',Hid (Blk w' g t cs)→Hid (Only g w w')→wpList P ops Q rest (a.put op.dst undef) w'):wpList P ops Q (op :: rest) a w :=
 wpList_plain hgd fun _ hK=>wp_store_blk ty x y ho g t zs cs hx hy hB hs hi h1 fun w' k1 k2=>hK _ _ (h w' k1 k2)
theorem step_store_blk {E:Prop} (hgd:op.guard=none) (ty:TypeId) (x y:Operand) (ho:op.op = .store ty x y) (g:Nat) (t:TypeId) (zs cs:Array Value) (hx:a.eval x = .pointer (some ⟨g,0,none⟩)) (hy:a.eval y = .agg cs)
 (hB:Blk w g t zs) (hs:zs.size=cs.size) (hi:(P.info? ty).map (·.size)=some cs.size) (h1:cs.toList.all (·.oneCell')=true) (h:∀w',Hid (Blk w' g t cs)→Hid (Only g w w')→K (a.put op.dst undef) w') :
 if Region.wanted op (yielded ops a.tmps)=true then Oper.wp P op a w K Q else E:=by
 have hw:Region.wanted op (yielded ops a.tmps)=true:=by simp [Region.wanted,hgd]
 rw [if_pos hw]
 exact wp_store_blk ty x y ho g t zs cs hx hy hB hs hi h1 h
end
theorem load_blk {P:Program} {w:World} {g:Nat} {t ty:TypeId} {cs:Array Value} {d:TypeDesc} (hB:Blk w g t cs) (hu:P.underlying ty=some d) (hd:d.isRow=true) (hi:(P.info? ty).map (·.size)=some cs.size) :
 (loadVar ty ⟨g,0,none⟩).run P w = .ok (.agg cs) w:=by
 have h:=run_loadVar_mid (P:=P) w g 0 ty cs.toList d (fun j v hv=>by rw [Nat.zero_add,hB.cell];simpa using hv) hu hd (by simpa using hi)
 simpa using h
theorem wpl_load_blk {P:Program} {ops:Array Oper} {rest:List Oper} {op:Oper} {a:Act} {w:World} {Q:Exit→Act→World→Prop} (hgd:op.guard=none) (ty:TypeId) (x:Operand) (ho:op.op = .load ty x)
 (g:Nat) (t:TypeId) (cs:Array Value) (d:TypeDesc) (hx:a.eval x = .pointer (some ⟨g,0,none⟩)) (hB:Blk w g t cs) (hu:P.underlying ty=some d) (hd:d.isRow=true) (hi:(P.info? ty).map (·.size)=some cs.size)
 (h:wpList P ops Q rest (a.put op.dst (.agg cs)) w):wpList P ops Q (op :: rest) a w :=
 wpList_plain hgd fun _ hK=>wp_load_mid ty x ho g 0 hx cs.toList d (fun j v hv=>by rw [Nat.zero_add,hB.cell];simpa using hv) hu hd (by simpa using hi) (hK _ _ (by simpa using h))
theorem yields_load_blk {P:Program} {ops:Array Oper} {S:World→Prop} {op:Oper} {a:Act} (hw:Region.wanted op (yielded ops a.tmps)=true) (ty:TypeId) (x:Operand) (ho:op.op = .load ty x)
 (g:Nat) (t:TypeId) (cs:Array Value) (d:TypeDesc) (hx:a.eval x = .pointer (some ⟨g,0,none⟩)) (hS:∀w,S w→Blk w g t cs) (hu:P.underlying ty=some d) (hd:d.isRow=true) (hi:(P.info? ty).map (·.size)=some cs.size) :
 YieldsIf P ops S op (.agg cs) a :=
 .inl ⟨hw,fun w hw'=>by
  unfold execOp
  simp only [ho,hx,Instr.loadAt,Instr.sureAddr,Sem.run_bind,Sem.run_pure,Result.andThen_ok,load_blk (hS w hw') hu hd hi]⟩
section
variable {P:Program} {w:World} {fn:Func} {tmps:Array Value} {a b c:Tmp} {ty ty':TypeId} {p q:Addr} {cs cs':Array Value} {v:Value}
theorem res_c (hr:fn.results=#[.cell a ty]) (ha:tmps.getD a undef = .pointer (some p)) (hl:(loadVar ty p).run P w = .ok (.agg cs) w):(results fn tmps).run P w = .ok (.agg cs) w:=by
 simp only [Array.getD_eq_getD_getElem?] at ha
 simp [results,hr,ha,asAddr,hl]
theorem res_ct (hr:fn.results=#[.cell a ty,.tmp b]) (ha:tmps.getD a undef = .pointer (some p)) (hb:tmps.getD b undef=v) (hl:(loadVar ty p).run P w = .ok (.agg cs) w):(results fn tmps).run P w = .ok (.tuple #[.agg cs,v]) w:=by
 simp only [Array.getD_eq_getD_getElem?] at ha hb
 simp [results,hr,ha,hb,asAddr,hl]
theorem res_cct (hr:fn.results=#[.cell a ty,.cell b ty',.tmp c]) (ha:tmps.getD a undef = .pointer (some p)) (hb:tmps.getD b undef = .pointer (some q)) (hc:tmps.getD c undef=v) (hl:(loadVar ty p).run P w = .ok (.agg cs) w) (hl':(loadVar ty' q).run P w = .ok (.agg cs') w) :
 (results fn tmps).run P w = .ok (.tuple #[.agg cs,.agg cs',v]) w:=by
 simp only [Array.getD_eq_getD_getElem?] at ha hb hc
 simp [results,hr,ha,hb,hc,asAddr,hl,hl']
end
end
section
open Go.RowKit
theorem load_at {P:Program} {w:World} {p:Addr} {ty:TypeId} {cs:List Value} {d:TypeDesc} (hc:∀j v,cs[j]?=some v→w.cell? (p.add j)=some v) (hu:P.underlying ty=some d) (hd:d.isRow=true) (hi:(P.info? ty).map (·.size)=some cs.length) :
 (loadVar ty p).run P w = .ok (.agg cs.toArray) w:=by
 have hl:(loadCells p cs.length).run P w = .ok cs.toArray w:=run_loadCells_list (P:=P) w p cs hc
 cases hq:P.info? ty with
 | none=>simp [hq] at hi
 | some i =>
   have hs:i.size=cs.length:=by simpa [hq] using hi
   have hagg:(isAgg ty).run P w = .ok true w:=by
    unfold isAgg
    rw [Sem.run_bind,run_underlying hu w]
    cases d <;> simp_all
   simp [loadVar,Sem.run_bind,hagg,sizeOf,typeInfo,hq,hs,hl]
theorem wpl_load_at {P:Program} {ops:Array Oper} {rest:List Oper} {op:Oper} {a:Act} {w:World} {Q:Exit→Act→World→Prop} (hgd:op.guard=none) (ty:TypeId) (x:Operand) (ho:op.op = .load ty x)
 (p:Addr) (cs:List Value) (d:TypeDesc) (hx:a.eval x = .pointer (some p)) (hc:∀j v,cs[j]?=some v→w.cell? (p.add j)=some v) (hu:P.underlying ty=some d) (hd:d.isRow=true) (hi:(P.info? ty).map (·.size)=some cs.length)
 (h:wpList P ops Q rest (a.put op.dst (.agg cs.toArray)) w):wpList P ops Q (op :: rest) a w:=by
 refine wpList_plain hgd fun K hK=>?_
 unfold Oper.wp execOp
 simp only [ho,hx,Instr.loadAt,Instr.sureAddr,Sem.run_bind,Sem.run_pure,Result.andThen_ok,load_at hc hu hd hi]
 exact hK _ _ h
theorem yields_load_at {P:Program} {ops:Array Oper} {S:World→Prop} {op:Oper} {a:Act} (hw:Region.wanted op (yielded ops a.tmps)=true) (ty:TypeId) (x:Operand) (ho:op.op = .load ty x)
 (p:Addr) (cs:List Value) (d:TypeDesc) (hx:a.eval x = .pointer (some p)) (hS:∀w,S w→∀j v,cs[j]?=some v→w.cell? (p.add j)=some v) (hu:P.underlying ty=some d) (hd:d.isRow=true) (hi:(P.info? ty).map (·.size)=some cs.length) :
 YieldsIf P ops S op (.agg cs.toArray) a :=
 .inl ⟨hw,fun w hw'=>by
  unfold execOp
  simp only [ho,hx,Instr.loadAt,Instr.sureAddr,Sem.run_bind,Sem.run_pure,Result.andThen_ok,load_at (hS w hw') hu hd hi]⟩
theorem fill_one {cs z:Array Value} (h0:0<cs.size) (h:z.size=cs.size):Instr.fill (fun i=>some (i*cs.size,cs.size)) z [(0,.agg cs)]=some cs:=by
 obtain⟨r,h1,h2,h3⟩:=Great.fill_dense h0 [.agg cs] 0 z (fun v hv=>by rw [List.mem_singleton.1 hv];rfl) (by simp [h])
 have e:r=cs:=by
  apply Array.ext_getElem?
  intro k
  rw [h3 k]
  by_cases hk:k<cs.size
  · rw [if_pos (by simpa using hk),Nat.div_eq_of_lt hk,Nat.mod_eq_of_lt hk]
    rfl
  · rw [if_neg (by simpa using hk),Array.getElem?_eq_none (by omega),Array.getElem?_eq_none (by omega)]
 rw [e] at h1
 exact h1
theorem wp_build1g {P:Program} {op:Oper} {a:Act} {w:World} {K:Act→World→Prop} {Q:Exit→Act→World→Prop} (S E:TypeId) (x:Operand) (ho:op.op = .buildSlice S 1 #[(0,x)]) (k:Nat) (hk:0<k) (hk2:k≤1000) (cs:Array Value) (hcs:cs.size=k) (hx:a.eval x = .agg cs)
 (hu:P.underlying S=some (.slice E)) (hi:(P.info? E).map (fun i=>(i.zero.map (·.cells.size),i.size))=some (some k,k))
 (h:K (a.put op.dst (.slice (some ⟨w.heap.size,0,none⟩) 1 1)) (w.alloc (.cells cs E))):op.wp P a w K Q:=by
 cases q1:P.info? E with
 | none=>rw [q1] at hi;cases hi
 | some ii =>
   rw [q1] at hi
   simp only [Option.map_some,Option.some.injEq,Prod.mk.injEq] at hi
   obtain⟨hz,q3⟩:=hi
   obtain⟨z,q2,hzs⟩:=Option.map_eq_some_iff.1 hz
   have hzs:z.cells.size=k:=hzs
   refine wp_buildSlice S E 1 #[(0,x)] ho cs ii z hu q1 q2 (by rw [q3];omega) (by rw [q3];omega) ?_ h
   rw [q3]
   have e1:((#[(0,x)]:Array (Nat×Operand)).map fun (i,x)=>(i,a.eval x)).toList=[(0,Value.agg cs)]:=by simp [hx]
   rw [e1,← hcs]
   exact fill_one (by omega) (by simp [hcs])
theorem flat_get {α β:Type} {cells:α→List β} {size:Nat} (hl:∀a,(cells a).length=size):∀ (l:List α) (i:Nat) (hi:i<l.length) (j:Nat),j<size→(l.flatMap cells)[i*size+j]?=(cells l[i])[j]?
 | [],i,hi,_,_=>by simp at hi
 | p :: l,i,hi,j,hj=>by
   rw [List.flatMap_cons]
   cases i with
   | zero=>rw [Nat.zero_mul,Nat.zero_add,List.getElem?_append_left (by rw [hl];exact hj)];rfl
   | succ i =>
     rw [List.getElem?_append_right (by rw [hl,Nat.succ_mul];omega),hl,show (i+1)*size+j - size=i*size+j by rw [Nat.succ_mul];omega]
     exact flat_get hl l i (by simpa using hi) j hj
def setL (cs:Array Value) (o:Nat):List Value→Array Value
 | []=>cs
 | v :: vs=>setL (cs.setIfInBounds o v) (o+1) vs
def setC (C ys:List Value) (o:Nat):List Value:=C.take o ++ ys ++ C.drop (o+ys.length)
theorem setC_len {C ys:List Value} {o:Nat} (h:o+ys.length≤C.length):(setC C ys o).length=C.length:=by unfold setC;simp;omega
theorem own_store {w:World} {base:Nat} {ty:TypeId} {K n g c p:Nat} {C:List Value} {ys:Array Value} (hown:w.ownsRow base ty K (.slice (some ⟨g,0,none⟩) n c) n C) (hp:p<n) (hy:ys.size=K) :
 (w.setCells g (p*K) ys.toList).ownsRow base ty K (.slice (some ⟨g,0,none⟩) n c) n (setC C ys.toList (p*K))∧Only g w (w.setCells g (p*K) ys.toList)∧base≤g∧w.there g (p*K) ys.size:=by
 have hlen:C.length=n*K:=hown.1
 obtain⟨cur,hbg,hg,hcn,hcm,hsz,htk⟩:∃cur:Array Value,base≤g∧w.heap[g]?=some (.cells cur ty (0,0))∧n≤c∧c≤maxLen∧cur.size=c*K∧cur.toList.take (n*K)=C:=by
  rcases hown.2 with ⟨h,_⟩ | ⟨g',cap',cur,ev,q1,q2,q3,q4,q5,q6⟩
  · cases h
  · injection ev with e1 e2 e3
    injection e1 with e1
    injection e1 with e1
    subst e1
    subst e3
    exact⟨cur,q1,q2,q3,q4,q5,q6⟩
 have hyl:ys.toList.length=K:=by simpa using hy
 have hpK:p*K+K≤n*K:=by rw [← Nat.succ_mul];exact Nat.mul_le_mul_right _ hp
 have hnK:n*K≤c*K:=Nat.mul_le_mul_right _ hcn
 have hB:Blk w g ty cur:=hg
 obtain⟨zs,b1,o1,k1,l1,r1⟩:=setCells_blk g ty ys.toList (p*K) w cur hB (by rw [hyl,hsz];omega)
 refine⟨⟨by rw [setC_len (by rw [hyl];omega)];exact hlen,.inr ⟨g,c,zs,rfl,hbg,b1,hcn,hcm,by rw [k1,hsz],?_⟩⟩,o1,hbg,fun j hj=>?_⟩
 · apply List.ext_getElem?
   intro j
   have hother:∀i,p*K+K≤i→zs[i]?=cur[i]?:=fun i hi=>by
    have:∀ (vs:List Value) (o:Nat) (w:World) (cs cs':Array Value),Blk w g ty cs→Blk (w.setCells g o vs) g ty cs'→∀i,o+vs.length≤i→cs'[i]?=cs[i]?:=by
     intro vs
     induction vs with
     | nil=>intro o w cs cs' h h' i _;unfold Blk at h h';have:w.setCells g o []=w:=rfl;rw [this,h] at h';injection h' with h';injection h' with h';rw [h']
     | cons v vs ih =>
       intro o w cs cs' h h' i hi
       simp only [List.length_cons] at hi
       rw [ih (o+1) (w.setCell ⟨g,o,none⟩ v) (cs.setIfInBounds o v) cs' (h.set_ o v) h' i (by omega),Array.getElem?_setIfInBounds_ne (by omega)]
    exact this ys.toList (p*K) w cur zs hB b1 i (by rw [hyl];exact hi)
   rcases Nat.lt_or_ge j (n*K) with hj | hj
   · rw [List.getElem?_take_of_lt hj,Array.getElem?_toList]
     have hc:C[j]?=cur[j]?:=by rw [← htk,List.getElem?_take_of_lt hj,Array.getElem?_toList]
     have t1:(C.take (p*K)).length=p*K:=by rw [List.length_take];omega
     unfold setC
     rcases Nat.lt_or_ge j (p*K) with h1 | h1
     · rw [l1 j h1,List.append_assoc,List.getElem?_append_left (by omega),List.getElem?_take_of_lt h1,hc]
     · rcases Nat.lt_or_ge j (p*K+K) with h2 | h2
       · have h3:=r1 (j - p*K) (by omega)
         rw [show p*K+(j - p*K)=j by omega] at h3
         rw [h3,List.getElem?_append_left (by rw [List.length_append];omega),List.getElem?_append_right (by omega),t1]
       · rw [hother j h2,List.getElem?_append_right (by rw [List.length_append];omega),List.length_append,t1,hyl,List.getElem?_drop,show p*K+K+(j - (p*K+K))=j by omega,hc]
   · rw [List.getElem?_eq_none (by rw [List.length_take];omega),List.getElem?_eq_none (by rw [setC_len (by rw [hyl];omega)];omega)]
 · rw [hB.cell]
   exact⟨by rw [hsz.symm] at hnK;rw [Array.getElem?_eq_getElem (by omega)];rfl,hB.frozen _⟩
theorem wpl_store_own {P:Program} {ops:Array Oper} {rest:List Oper} {op:Oper} {a:Act} {w:World} {Q:Exit→Act→World→Prop} (hgd:op.guard=none) (ty:TypeId) (x y:Operand) (ho:op.op = .store ty x y) (base:Nat) (w0:World) (K n g c p:Nat) (C:List Value) (ys:Array Value)
 (hx:a.eval x = .pointer (some ⟨g,p*K,none⟩)) (hy:a.eval y = .agg ys) (hown:w.ownsRow base ty K (.slice (some ⟨g,0,none⟩) n c) n C) (hB:Below base w0 w) (hp:p<n) (hs:ys.size=K) (hi:(P.info? ty).map (·.size)=some K) (h1:ys.toList.all (·.oneCell')=true)
 (h:∀w',Hid (w'.ownsRow base ty K (.slice (some ⟨g,0,none⟩) n c) n (setC C ys.toList (p*K))∧Below base w0 w'∧Only g w w')→wpList P ops Q rest (a.put op.dst undef) w'):wpList P ops Q (op :: rest) a w:=by
 obtain⟨e1,e2,e3,e4⟩:=own_store hown hp hs
 exact wpList_plain hgd fun _ hK=>wp_store_mid ty x y ho g (p*K) ys hx hy e4 (by rw [hs];exact hi) (Array.all_eq_true_iff_forall_mem.2 (fun v hv=>List.all_eq_true.1 h1 v (by simpa using hv))) (hK _ _ (h _ (Lh ⟨e1,hB.trans (e2.below e3),e2⟩)))
end
section
open Go.RowKit OctMath
def ltN (a b:Nat):Bool:=decide (a<b)
def ltI (a b:Int):Bool:=decide (a<b)
def oA (m:OM):Array Value:=#[.string (strOf m.x.key),.int .u64 (m.x.version:Int),.int .i64 m.x.size,.int .u32 (m.x.sum:Int),.int .i64 m.x.group,.int .u64 (m.x.epoch:Int),.slice m.A m.x.nodes.length m.c]
def iA (m:IM):Array Value:=#[.string (strOf m.x.obj.key),.int .u64 (m.x.obj.version:Int),.int .i64 m.x.obj.size,.int .u32 (m.x.obj.sum:Int),.int .i64 m.x.obj.group,.int .u64 (m.x.obj.epoch:Int),.slice m.A m.x.obj.nodes.length m.c,.int .u64 (m.x.client:Int),.int .u64 (m.x.seq:Int)]
def i1 (x:Int):List Value:=[iv x]
def bsGo (f:Nat→Int):Nat→Nat→Nat→Nat
 | 0,lo,_=>lo
 | k+1,lo,hi=>if lo<hi then (if f ((lo+hi) / 2)<0 then bsGo f k ((lo+hi) / 2+1) hi else bsGo f k lo ((lo+hi) / 2)) else lo
def bsP (f:Nat→Int) (n:Nat):Nat:=bsGo f n 0 n
def bsB (f:Nat→Int) (n:Nat):Bool:=decide (bsP f n<n) && (f (bsP f n) == 0)
theorem bsGo_fuel (f:Nat→Int):∀ (k k' lo hi:Nat),hi - lo≤k→hi - lo≤k'→bsGo f k lo hi=bsGo f k' lo hi:=by
 intro k
 induction k with
 | zero =>
   intro k' lo hi h _
   cases k' with
   | zero=>rfl
   | succ k'=>unfold bsGo;rw [if_neg (by omega)]
 | succ k ih =>
   intro k' lo hi h h'
   cases k' with
   | zero=>unfold bsGo;rw [if_neg (by omega)]
   | succ k' =>
     unfold bsGo
     by_cases c:lo<hi
     · rw [if_pos c,if_pos c]
       by_cases c2:f ((lo+hi) / 2)<0
       · rw [if_pos c2,if_pos c2];exact ih _ _ _ (by omega) (by omega)
       · rw [if_neg c2,if_neg c2];exact ih _ _ _ (by omega) (by omega)
     · rw [if_neg c,if_neg c]
structure BsI (f:Nat→Int) (n lo hi:Nat):Prop where
 a:lo≤hi
 b:hi≤n
 e:bsP f n=bsGo f n lo hi
theorem BsI.start (f:Nat→Int) (n:Nat):BsI f n 0 n:=⟨Nat.zero_le _,Nat.le_refl _,rfl⟩
theorem BsI.up {f:Nat→Int} {n lo hi:Nat} (h:BsI f n lo hi) (hl:lo<hi) (hf:f ((lo+hi) / 2)<0):BsI f n ((lo+hi) / 2+1) hi :=
 ⟨by omega,h.b,by
  have:=h.b
  rw [h.e,bsGo_fuel f n (n+1) lo hi (by omega) (by omega)]
  conv=>lhs;unfold bsGo
  rw [if_pos hl,if_pos hf]⟩
theorem BsI.down {f:Nat→Int} {n lo hi:Nat} (h:BsI f n lo hi) (hl:lo<hi) (hf:¬f ((lo+hi) / 2)<0):BsI f n lo ((lo+hi) / 2) :=
 ⟨by omega,by have:=h.b;omega,by
  have:=h.b
  rw [h.e,bsGo_fuel f n (n+1) lo hi (by omega) (by omega)]
  conv=>lhs;unfold bsGo
  rw [if_pos hl,if_neg hf]⟩
theorem BsI.done {f:Nat→Int} {n lo hi:Nat} (h:BsI f n lo hi) (hl:¬lo<hi):bsP f n=lo:=by
 rw [h.e]
 cases n with
 | zero=>rfl
 | succ n=>unfold bsGo;rw [if_neg hl]
theorem bsP_le (f:Nat→Int) (n:Nat):bsP f n≤n:=by
 have:∀k lo hi,lo≤hi→bsGo f k lo hi≤hi:=by
  intro k
  induction k with
  | zero=>intro lo hi h;exact h
  | succ k ih =>
    intro lo hi h
    unfold bsGo
    split
    · split
      · exact ih _ _ (by omega)
      · exact Nat.le_trans (ih _ _ (by omega)) (by omega)
    · exact h
 exact this n 0 n (Nat.zero_le _)
theorem bsGo_spec (f:Nat→Int) (n:Nat) (hm:∀i j,i≤j→j<n→f j<0→f i<0):∀k lo hi,lo≤hi→hi≤n→hi - lo≤k→(∀i,i<lo→f i<0)→(∀i,hi≤i→i<n→¬f i<0) →
 (∀i,i<bsGo f k lo hi→f i<0)∧(∀i,bsGo f k lo hi≤i→i<n→¬f i<0):=by
 intro k
 induction k with
 | zero =>
   intro lo hi h1 h2 h3 a b
   obtain rfl:lo=hi:=by omega
   exact⟨a,b⟩
 | succ k ih =>
   intro lo hi h1 h2 h3 a b
   unfold bsGo
   split
   · split
     · rename_i c1 c2
       refine ih _ _ (by omega) h2 (by omega) (fun i hi'=>hm i _ (by omega) (by omega) c2) b
     · rename_i c1 c2
       refine ih _ _ (by omega) (by omega) (by omega) a (fun i hi1 hi2 h=>c2 (hm _ i hi1 hi2 h))
   · obtain rfl:lo=hi:=by omega
     exact⟨a,b⟩
theorem bsP_spec (f:Nat→Int) (n:Nat) (hm:∀i j,i≤j→j<n→f j<0→f i<0):(∀i,i<bsP f n→f i<0)∧(∀i,bsP f n≤i→i<n→¬f i<0) :=
 bsGo_spec f n hm n 0 n (Nat.zero_le _) (Nat.le_refl _) (by omega) (fun i h=>absurd h (by omega)) (fun i h1 h2=>absurd h2 (by omega))
theorem wplW {P:Program} {ops:Array Oper} {Q:Exit→Act→World→Prop} {rest:List Oper} {o:Oper} {a:Act} {w:World} (hw:Region.wanted o (yielded ops a.tmps)=true) (h:o.wp P a w (wpList P ops Q rest) Q):wpList P ops Q (o :: rest) a w:=by
 unfold wpList
 rw [if_pos hw]
 exact .inl h
theorem wp_load_at {P:Program} {op:Oper} {a:Act} {w:World} {K:Act→World→Prop} {Q:Exit→Act→World→Prop} (ty:TypeId) (x:Operand) (ho:op.op = .load ty x)
 (p:Addr) (cs:List Value) (d:TypeDesc) (hx:a.eval x = .pointer (some p)) (hc:∀j v,cs[j]?=some v→w.cell? (p.add j)=some v) (hu:P.underlying ty=some d) (hd:d.isRow=true) (hi:(P.info? ty).map (·.size)=some cs.length)
 (h:K (a.put op.dst (.agg cs.toArray)) w):op.wp P a w K Q:=by
 unfold Oper.wp execOp
 simp only [ho,hx,Instr.loadAt,Instr.sureAddr,Sem.run_bind,Sem.run_pure,Result.andThen_ok,load_at hc hu hd hi]
 exact h
def fL {α:Type} (g:α→Int) (ms:List α) (i:Nat):Int:=(ms[i]?.map g).getD 0
theorem fL_at {α:Type} (g:α→Int) {ms:List α} {i:Nat} (h:i<ms.length):fL g ms i=g ms[i]:=by unfold fL;rw [List.getElem?_eq_getElem h];rfl
theorem elem_cells {α:Type} {cells:α→List Value} {K:Nat} (hl:∀a,(cells a).length=K) {w:World} {B n:Nat} {A:Option Addr} {ms:List α} (hr:Reads w B K A n (ms.flatMap cells)) {i:Nat} (hi:i<ms.length) (hn:0<n) :
 ∃ad,A=some ad∧ad.block<B∧∀j v,(cells ms[i])[j]?=some v→w.cell? ((ad.add (i*K)).add j)=some v:=by
 obtain⟨ad,e,hb,hc⟩:=hr.2 hn
 refine⟨ad,e,hb,fun j v hv=>?_⟩
 rw [add_of_add]
 refine hc _ v ?_
 have hj:j<K:=by have:=(List.getElem?_eq_some_iff.1 hv).1;rw [hl] at this;exact this
 rw [flat_get hl ms i hi j hj]
 exact hv
end
section
open Go.RowKit
def OneC (C:List Value):Prop:=∀u ∈ C,u.oneCell'=true
def RetRow (t:TypeId) (K n:Nat) (C:List Value) (w:World) (e:Ending) (w':World):Prop :=
 ∃v,e = .returned v∧w'.ownsRow w.heap.size t K v n C∧Below w.heap.size w w'
theorem OneC.take {C:List Value} (h:OneC C) (k:Nat):OneC (C.take k):=fun u hu=>h u (List.mem_of_mem_take hu)
theorem OneC.drop {C:List Value} (h:OneC C) (k:Nat):OneC (C.drop k):=fun u hu=>h u (List.mem_of_mem_drop hu)
theorem run_copy_rowK {P:Program} (w:World) (dT sT ty elem:TypeId) (g o dLen dCap:Nat) (a:Addr) (sLen sCap:Nat) (cur:Array Value) (t:TypeId) (cs:List Value) (k n:Nat)
 (hu:P.underlying dT=some (.slice elem)) (hs:(P.info? elem).map (·.size)=some k)
 (hg:w.heap[g]?=some (.cells cur t (0,0))) (hm:Nat.min sLen dLen=n) (hn:cs.length=n*k)
 (hsrc:∀j v,cs[j]?=some v→w.cell? (a.add j)=some v) (hfit:o+cs.length≤cur.size) (h1:∀v ∈ cs,v.oneCell'=true) :
 (Builtin.copy_ #[dT,sT] ty #[.slice (some ⟨g,o,none⟩) dLen dCap,.slice (some a) sLen sCap]).run P w =
   .ok (goInt n) (w.setRow g (cur.toList.take o ++ cs ++ cur.toList.drop (o+cs.length)).toArray):=by
 have hl:=run_loadCells_list (P:=P) w a cs hsrc
 have hst:=run_storeCells_at P g o t cs 0 cur w hg (by simpa using hfit) h1
 cases hq:P.info? elem with
 | none=>simp [hq] at hs
 | some i =>
   have hi:i.size=k:=by simpa [hq] using hs
   simp [Builtin.copy_,run_underlying hu,Builtin.lenOf,Builtin.firstCells,sizeOf,typeInfo,hq,hi,hm,← hn,hl,hst]
def insC (C ys:List Value) (p:Nat):List Value:=C.take p ++ ys ++ C.drop p
theorem insC_len {C ys:List Value} {p:Nat} (h:p≤C.length):(insC C ys p).length=C.length+ys.length:=by unfold insC;simp;omega
theorem insK_list (C X ys:List Value) (k p q:Nat) (hX:X.length=q) (hy:ys.length=k) (hp:p+k+q≤C.length) :
 (((C.take (p+k) ++ X ++ C.drop (p+k+q)).take p ++ ys ++ (C.take (p+k) ++ X ++ C.drop (p+k+q)).drop (p+k)).take (p+k+q):List Value)=C.take p ++ ys ++ X:=by
 have h1:(C.take (p+k) ++ X ++ C.drop (p+k+q)).take p=C.take p:=by
  rw [List.append_assoc,List.take_append_of_le_length (by rw [List.length_take];omega),List.take_take,Nat.min_eq_left (by omega)]
 have h2:(C.take (p+k) ++ X ++ C.drop (p+k+q)).drop (p+k)=X ++ C.drop (p+k+q):=by
  rw [List.append_assoc,List.drop_append,List.drop_of_length_le (by rw [List.length_take];omega),List.length_take,Nat.min_eq_left (by omega),Nat.sub_self]
  rfl
 rw [h1,h2,← List.append_assoc]
 have h3:(C.take p ++ ys ++ X).length=p+k+q:=by simp only [List.length_append,List.length_take];omega
 rw [List.take_append_of_le_length (by omega),List.take_of_length_le (by omega)]
theorem insK_list2 (C X ys:List Value) (k p q:Nat) (hX:X.length=q) (hy:ys.length=k) (hp:p+k+q≤C.length) :
 (((C.take p ++ ys ++ C.drop (p+k)).take (p+k) ++ X ++ (C.take p ++ ys ++ C.drop (p+k)).drop (p+k+q)).take (p+k+q):List Value)=C.take p ++ ys ++ X:=by
 have h0:(C.take p ++ ys).length=p+k:=by simp only [List.length_append,List.length_take];omega
 have h1:(C.take p ++ ys ++ C.drop (p+k)).take (p+k)=C.take p ++ ys:=by
  rw [List.take_append_of_le_length (by omega),List.take_of_length_le (by omega)]
 rw [h1]
 have h3:(C.take p ++ ys ++ X).length=p+k+q:=by rw [List.length_append,h0,hX]
 rw [List.take_append_of_le_length (by omega),List.take_of_length_le (by omega)]
theorem ownBel {w w':World} {base size n:Nat} {t:TypeId} {v:Value} {xs:List Value} (h:w.ownsRow base t size v n xs) (hb:Below w.heap.size w w'):w'.ownsRow base t size v n xs:=by
 refine⟨h.1,?_⟩
 rcases h.2 with h0 | ⟨g,cap,cur,hv,hg,hc,h1,h2,h3,h4⟩
 · exact .inl h0
 · have hlt:g<w.heap.size:=by
    rcases Nat.lt_or_ge g w.heap.size with hlt | hge
    · exact hlt
    · rw [Array.getElem?_eq_none hge] at hc;cases hc
   exact .inr ⟨g,cap,cur,hv,hg,(hb.block g hlt).trans hc,h1,h2,h3,h4⟩
theorem ownBas {w:World} {base base':Nat} {e:TypeId} {size n:Nat} {v:Value} {xs:List Value} (h:w.ownsRow base e size v n xs) (hb:base'≤base):w.ownsRow base' e size v n xs:=by
 refine⟨h.1,?_⟩
 rcases h.2 with h0 | ⟨g,cap,cur,hv,hg,hr⟩
 · exact .inl h0
 · exact .inr ⟨g,cap,cur,hv,by omega,hr⟩
theorem own_form {w:World} {base size n:Nat} {t:TypeId} {v:Value} {xs:List Value} (h:w.ownsRow base t size v n xs) (hn:0<n):∃g c,v = .slice (some ⟨g,0,none⟩) n c:=by
 obtain⟨g,c,e,_⟩:=h.form hn
 exact⟨g,c,e⟩
theorem rowIn_own' {w:World} {base K n c:Nat} {t:TypeId} {A:Option Addr} {C:List Value} (h:w.ownsRow base t K (.slice A n c) n C) (hn:0<n) (ad:Addr) (e:A=some ad):base≤ad.block:=by
 obtain⟨g',cap',e',hb,_⟩:=h.form hn
 injection e' with e1 _ _
 have e1':A=some ⟨g',0,none⟩:=e1
 rw [e] at e1'
 injection e1' with e1'
 rw [e1']
 exact hb
theorem slice_three {P:Program} {t e:TypeId} {i:TypeInfo} {size:Nat} (ht:P.underlying t=some (.slice e)) (hi:P.info? e=some i) (hs:i.size=size) (A:Option Addr) (n cap j k m:Nat) (hj:j≤k) (hk:k≤m) (hm:m≤cap) (W:World) :
 (Instr.sliceAt t (.slice A n cap) (some (.int .i64 (j:Int))) (some (.int .i64 (k:Int))) (some (.int .i64 (m:Int)))).run P W = .ok (.slice (if m=j then A else A.map (·.add (j*size))) (k - j) (m - j)) W:=by
 have e0:0≤(m:Int)∧(m:Int)≤cap:=by omega
 have e1:0≤(k:Int)∧(k:Int)≤m:=by omega
 have e2:0≤(j:Int)∧(j:Int)≤k:=by omega
 simp [Instr.sliceAt,run_underlying ht,Instr.slice,Instr.sliceBounds,Instr.sliceBound,asIntOf,sizeOf,typeInfo,hi,hs,e0,e1,e2]
 rw [if_pos hm,if_pos hk,if_pos hj]
theorem addr0 (g k:Nat):(⟨g,0,none⟩:Addr).add k=⟨g,k,none⟩:=by unfold Addr.add;split <;> simp_all
theorem addrK (g o k:Nat):(⟨g,o,none⟩:Addr).add k=⟨g,o+k,none⟩:=by unfold Addr.add;split <;> simp_all
end
section
open Go.RowKit OctMath
section
variable {α:Type}
def putB (f:Nat→Int) (x:α) (ms:List α):List α:=if bsB f ms.length then ms.set (bsP f ms.length) x else ms.take (bsP f ms.length) ++ x :: ms.drop (bsP f ms.length)
def dropB (f:Nat→Int) (ms:List α):List α:=if bsB f ms.length then ms.take (bsP f ms.length) ++ ms.drop (bsP f ms.length+1) else ms
theorem bsB_lt {f:Nat→Int} {n:Nat} (h:bsB f n=true):bsP f n<n:=by unfold bsB at h;simp at h;exact h.1
variable {cells:α→List Value} {K:Nat}
theorem flat_take (hl:∀a,(cells a).length=K):∀ (l:List α) (p:Nat),(l.flatMap cells).take (p*K)=(l.take p).flatMap cells
 | [],p=>by simp
 | a :: l,0=>by simp
 | a :: l,p+1=>by
   rw [List.flatMap_cons,Nat.succ_mul,Nat.add_comm,List.take_append,List.take_of_length_le (by rw [hl];omega),hl,Nat.add_sub_cancel_left,List.take_succ_cons,List.flatMap_cons,flat_take hl l p]
theorem flat_drop (hl:∀a,(cells a).length=K):∀ (l:List α) (p:Nat),(l.flatMap cells).drop (p*K)=(l.drop p).flatMap cells
 | [],p=>by simp
 | a :: l,0=>by simp
 | a :: l,p+1=>by
   rw [List.flatMap_cons,Nat.succ_mul,Nat.add_comm,← List.drop_drop,List.drop_left' (hl a),List.drop_succ_cons,flat_drop hl l p]
theorem put_cells_new (hl:∀a,(cells a).length=K) {f:Nat→Int} {x:α} {ms:List α} (h:bsB f ms.length=false):insC (ms.flatMap cells) (cells x) (bsP f ms.length*K)=(putB f x ms).flatMap cells:=by
 unfold insC putB
 rw [if_neg (by rw [h];decide),flat_take hl,flat_drop hl,List.flatMap_append,List.flatMap_cons,List.append_assoc]
theorem put_cells_old (hl:∀a,(cells a).length=K) {f:Nat→Int} {x:α} {ms:List α} (h:bsB f ms.length=true):setC (ms.flatMap cells) (cells x) (bsP f ms.length*K)=(putB f x ms).flatMap cells:=by
 have hp:=bsB_lt h
 unfold setC putB
 rw [if_pos h,hl,← Nat.succ_mul,flat_take hl,flat_drop hl,List.set_eq_take_append_cons_drop,if_pos hp,List.flatMap_append,List.flatMap_cons,List.append_assoc]
theorem drop_cells (hl:∀a,(cells a).length=K) {f:Nat→Int} {ms:List α} (h:bsB f ms.length=true):(ms.flatMap cells).take (bsP f ms.length*K) ++ (ms.flatMap cells).drop ((bsP f ms.length+1)*K)=(dropB f ms).flatMap cells:=by
 unfold dropB
 rw [if_pos h,flat_take hl,flat_drop hl,List.flatMap_append]
theorem putB_len {f:Nat→Int} {x:α} {ms:List α}:(putB f x ms).length=if bsB f ms.length then ms.length else ms.length+1:=by
 unfold putB
 split
 · simp
 · have:=bsP_le f ms.length
   simp;omega
theorem dropB_len {f:Nat→Int} {ms:List α}:(dropB f ms).length=if bsB f ms.length then ms.length - 1 else ms.length:=by
 unfold dropB
 split
 · rename_i h
   have:=bsB_lt h
   simp;omega
 · rfl
theorem mem_putB {f:Nat→Int} {x:α} {ms:List α} {y:α} (h:y ∈ putB f x ms):y=x∨y ∈ ms:=by
 unfold putB at h
 split at h
 · exact (List.mem_or_eq_of_mem_set h).symm
 · rcases List.mem_append.1 h with h | h
   · exact .inr (List.mem_of_mem_take h)
   · rcases List.mem_cons.1 h with h | h
     · exact .inl h
     · exact .inr (List.mem_of_mem_drop h)
theorem mem_dropB {f:Nat→Int} {ms:List α} {y:α} (h:y ∈ dropB f ms):y ∈ ms:=by
 unfold dropB at h
 split at h
 · rcases List.mem_append.1 h with h | h
   · exact List.mem_of_mem_take h
   · exact List.mem_of_mem_drop h
 · exact h
end
section
variable {K α:Type} {o:SOrd K} {key:α→K}
def cmpO (o:SOrd K) (key:α→K) (k:K) (m:α):Int:=cmpV (o.lt (key m) k) (o.lt k (key m))
theorem cmpV_neg {l g:Bool}:cmpV l g<0↔l=true:=by unfold cmpV;cases l <;> cases g <;> simp
theorem cmpV_zero {l g:Bool}:(cmpV l g == 0)=(!l && !g):=by unfold cmpV;cases l <;> cases g <;> rfl
theorem search_ris {ms:List α} (h:Ris o key ms) (k:K):(∀i (hi:i<ms.length),i<bsP (fL (cmpO o key k) ms) ms.length→o.lt (key ms[i]) k=true)∧(∀i (hi:i<ms.length),bsP (fL (cmpO o key k) ms) ms.length≤i→o.lt (key ms[i]) k=false):=by
 have hf:∀i (hi:i<ms.length),fL (cmpO o key k) ms i<0↔o.lt (key ms[i]) k=true:=fun i hi=>by rw [fL_at _ hi];unfold cmpO;exact cmpV_neg
 have hm:=bsP_spec (fL (cmpO o key k) ms) ms.length (fun i j hij hj hlt=>by
  rw [hf j hj] at hlt
  rw [hf i (by omega)]
  rcases Nat.lt_or_ge i j with h1 | h1
  · exact o.tr (List.pairwise_iff_getElem.1 h i j (by omega) hj h1) hlt
  · obtain rfl:i=j:=by omega
    exact hlt)
 refine⟨fun i hi h1=>(hf i hi).1 (hm.1 i h1),fun i hi h1=>?_⟩
 cases e:o.lt (key ms[i]) k with
 | false=>rfl
 | true=>exact absurd ((hf i hi).2 e) (hm.2 i h1 hi)
theorem put_ahead {x:α}:∀ (l1 l2:List α),(∀y ∈ l1,o.lt (key y) (key x)=true)→putR o key x (l1 ++ l2)=l1 ++ putR o key x l2
 | [],_,_=>rfl
 | y :: l1,l2,h=>by
   rw [List.cons_append]
   conv=>lhs;unfold putR
   rw [if_pos (h y List.mem_cons_self),put_ahead l1 l2 (fun z hz=>h z (List.mem_cons_of_mem _ hz))]
   rfl
theorem drop_ahead {k:K}:∀ (l1 l2:List α),(∀y ∈ l1,o.lt (key y) k=true)→dropR o key k (l1 ++ l2)=l1 ++ dropR o key k l2
 | [],_,_=>rfl
 | y :: l1,l2,h=>by
   rw [List.cons_append]
   conv=>lhs;unfold dropR
   rw [if_pos (h y List.mem_cons_self),drop_ahead l1 l2 (fun z hz=>h z (List.mem_cons_of_mem _ hz))]
   rfl
theorem find_ahead {k:K}:∀ (l1 l2:List α),(∀y ∈ l1,o.lt (key y) k=true)→findR o key k (l1 ++ l2)=findR o key k l2
 | [],_,_=>rfl
 | y :: l1,l2,h=>by
   rw [List.cons_append]
   conv=>lhs;unfold findR
   rw [if_pos (h y List.mem_cons_self),find_ahead l1 l2 (fun z hz=>h z (List.mem_cons_of_mem _ hz))]
theorem take_lt {ms:List α} (h:Ris o key ms) (k:K):∀y ∈ ms.take (bsP (fL (cmpO o key k) ms) ms.length),o.lt (key y) k=true:=fun y hy=>by
 obtain⟨i,hi,rfl⟩:=List.mem_iff_getElem.1 hy
 rw [List.length_take] at hi
 rw [List.getElem_take]
 exact (search_ris h k).1 i (by omega) (by omega)
theorem at_place {ms:List α} (h:Ris o key ms) (k:K):(bsB (fL (cmpO o key k) ms) ms.length=true∧∃ (hp:bsP (fL (cmpO o key k) ms) ms.length<ms.length),key ms[bsP (fL (cmpO o key k) ms) ms.length]=k) ∨
 (bsB (fL (cmpO o key k) ms) ms.length=false∧∀ (hp:bsP (fL (cmpO o key k) ms) ms.length<ms.length),o.lt k (key ms[bsP (fL (cmpO o key k) ms) ms.length])=true):=by
 have hs:=search_ris h k
 unfold bsB
 generalize bsP (fL (cmpO o key k) ms) ms.length=p at *
 by_cases hp:p<ms.length
 · have h1:=hs.2 p hp (Nat.le_refl _)
   rw [decide_eq_true hp,fL_at _ hp,Bool.true_and]
   unfold cmpO
   rw [cmpV_zero,h1]
   cases h2:o.lt k (key ms[p]) with
   | true=>exact .inr ⟨rfl,fun _=>h2⟩
   | false=>exact .inl ⟨rfl,hp,o.tri h1 h2⟩
 · rw [decide_eq_false hp]
   exact .inr ⟨rfl,fun h=>absurd h hp⟩
theorem putB_eq {ms:List α} (h:Ris o key ms) (x:α):putB (fL (cmpO o key (key x)) ms) x ms=putR o key x ms:=by
 have ht:=take_lt h (key x)
 have hd:ms=ms.take (bsP (fL (cmpO o key (key x)) ms) ms.length) ++ ms.drop (bsP (fL (cmpO o key (key x)) ms) ms.length):=(List.take_append_drop _ _).symm
 have ha:=at_place h (key x)
 unfold putB
 generalize bsP (fL (cmpO o key (key x)) ms) ms.length=p at *
 rcases ha with ⟨hb,hp,he⟩ | ⟨hb,hn⟩
 · rw [if_pos hb]
   conv=>rhs;rw [hd]
   rw [put_ahead _ _ ht,List.drop_eq_getElem_cons hp,List.set_eq_take_append_cons_drop,if_pos hp]
   unfold putR
   rw [he,o.irr,if_neg (by decide),if_neg (by decide)]
 · rw [if_neg (by rw [hb];decide)]
   conv=>rhs;rw [hd]
   rw [put_ahead _ _ ht]
   by_cases hp:p<ms.length
   · rw [List.drop_eq_getElem_cons hp]
     conv=>rhs;unfold putR
     have h1:=hn hp
     rw [SOrd.asym h1,if_neg (by decide),if_pos h1]
   · rw [List.drop_of_length_le (by omega)]
     rfl
theorem dropB_eq {ms:List α} (h:Ris o key ms) (k:K):dropB (fL (cmpO o key k) ms) ms=dropR o key k ms:=by
 have ht:=take_lt h k
 have hd:ms=ms.take (bsP (fL (cmpO o key k) ms) ms.length) ++ ms.drop (bsP (fL (cmpO o key k) ms) ms.length):=(List.take_append_drop _ _).symm
 have ha:=at_place h k
 unfold dropB
 generalize bsP (fL (cmpO o key k) ms) ms.length=p at *
 rcases ha with ⟨hb,hp,he⟩ | ⟨hb,hn⟩
 · rw [if_pos hb]
   conv=>rhs;rw [hd]
   rw [drop_ahead _ _ ht,List.drop_eq_getElem_cons hp]
   unfold dropR
   rw [he,o.irr,if_neg (by decide),if_neg (by decide)]
 · rw [if_neg (by rw [hb];decide)]
   conv=>rhs;rw [hd]
   rw [drop_ahead _ _ ht]
   by_cases hp:p<ms.length
   · conv=>lhs;rw [hd]
     rw [List.drop_eq_getElem_cons hp]
     unfold dropR
     have h1:=hn hp
     rw [SOrd.asym h1,if_neg (by decide),if_pos h1]
   · conv=>lhs;rw [hd]
     rw [List.drop_of_length_le (by omega)]
     rfl
theorem findB_eq {ms:List α} (h:Ris o key ms) (k:K):findR o key k ms=if bsB (fL (cmpO o key k) ms) ms.length=true then ms[bsP (fL (cmpO o key k) ms) ms.length]? else none:=by
 have ht:=take_lt h k
 have hd:ms=ms.take (bsP (fL (cmpO o key k) ms) ms.length) ++ ms.drop (bsP (fL (cmpO o key k) ms) ms.length):=(List.take_append_drop _ _).symm
 have ha:=at_place h k
 generalize bsP (fL (cmpO o key k) ms) ms.length=p at *
 generalize bsB (fL (cmpO o key k) ms) ms.length=b at *
 conv=>lhs;rw [hd]
 rw [find_ahead _ _ ht]
 rcases ha with ⟨hb,hp,he⟩ | ⟨hb,hn⟩
 · rw [if_pos hb,List.drop_eq_getElem_cons hp,List.getElem?_eq_getElem hp]
   unfold findR
   rw [he,o.irr,if_neg (by decide),if_neg (by decide)]
 · rw [if_neg (by rw [hb];decide)]
   by_cases hp:p<ms.length
   · rw [List.drop_eq_getElem_cons hp]
     unfold findR
     have h1:=hn hp
     rw [SOrd.asym h1,if_neg (by decide),if_pos h1]
   · rw [List.drop_of_length_le (by omega)]
     rfl
theorem putR_map {β:Type} (g:β→α) (x:β):∀ (ms:List β),(putR o (fun m=>key (g m)) x ms).map g=putR o key (g x) (ms.map g)
 | []=>rfl
 | y :: ms=>by
   rw [List.map_cons]
   unfold putR
   split
   · rw [List.map_cons,putR_map g x ms]
   · split
     · rfl
     · rfl
theorem dropR_map {β:Type} (g:β→α) (k:K):∀ (ms:List β),(dropR o (fun m=>key (g m)) k ms).map g=dropR o key k (ms.map g)
 | []=>rfl
 | y :: ms=>by
   rw [List.map_cons]
   unfold dropR
   split
   · rw [List.map_cons,dropR_map g k ms]
   · split
     · rfl
     · rfl
theorem findR_map {β:Type} (g:β→α) (k:K):∀ (ms:List β),(findR o (fun m=>key (g m)) k ms).map g=findR o key k (ms.map g)
 | []=>rfl
 | y :: ms=>by
   rw [List.map_cons]
   unfold findR
   split
   · exact findR_map g k ms
   · split
     · rfl
     · rfl
theorem ris_map {β:Type} (g:β→α) {ms:List β} (h:Ris o key (ms.map g)):Ris o (fun m=>key (g m)) ms:=List.pairwise_map.1 h
end
end
end Go.Proofs.YtdoneomahlfkbaaGreat
