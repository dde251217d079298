/-
  The law PlaceNodes: its walk, and the statement.
-/
import Derived.Test.YtmdffmajnbokeaaPlIn
namespace Go.Proofs.Ytmdffmajnbokeaa
open Go.RowKit StrMath PlMath
set_option linter.unusedVariables false
theorem nodesR_len (ms : List Mem) (g t : Int) : (nodesR ms g t).1.length ≤ 255 := by
  unfold nodesR
  split
  · simp
  · split
    · simp
    · split
      · simp
      · rw [picks_length]; omega
set_option maxRecDepth 100000 in
theorem walk_PlaceNodes {H : Type} {enc : TypeId × Value → H} (W : World) (v : Value) (d : DataW H) (p : List MemPlace) (hm : DataW.Trod enc Try.prog W 0 (fun _ => true) true 25 v d p) (hok : Value.okWide Try.prog W .any 0 25 v)
    (g : Int) (wg : Lit.wf (.int .i64 g)) (t : Int) (wt : Lit.wf (.int .i64 t)) (s : ByteArray) (hs : s.size ≤ maxLen) (q : Int) (wq : Lit.wf (.int .i64 q)) (B : Option Addr) (m cb : Nat) (os : List Int) (hB : Ints .i64 W B m cb os) :
    Calls Try.prog 3 #[v, .int .i64 g, .int .i64 t, .string s, .int .i64 q, .slice B m cb] W fun e w' => e = .returned (.bool true) ∧ Below W.heap.size W w' := by
  obtain ⟨e, A, n, cap, ms, rfl, _, hr, h64, hc, hm'⟩ := open_map hok hm
  obtain ⟨hi, hil, hri, hic, him⟩ := hB.i64
  have hlen := nodesR_len ms g t
  have H1 := Lib.hid (fun W h => nodes_any e A n cap ms g t W h h64 hc hm')
  have H2 := Lib.hid (fun W h => rnodes_any e A n cap ms g t W h h64 hc hm')
  have G1 := Lib.hid (fun W => group_any s q W hs)
  have G2 := Lib.hid (fun W => rgroup_any s q W hs)
  have RB := Lib.hid hri
  clear hil hri hm hok h64 hi hB
  generalize nodesR ms g t = R at *
  obtain ⟨l, er⟩ := R
  generalize groupN s q = G at *
  obtain ⟨g1, g2⟩ := G
  unfold mapV at H1 H2 ⊢
  go_enter Try.func3, Try.ntmps3
  go_wp2_with fail
  have hb0 : Below W.heap.size W (W.alloc (.cells #[.int .u64 (e : Int), .slice A n cap] 25)) := (Below.refl _ _).alloc (Nat.le_refl _) _
  have hx := Blk.new W 25 #[.int .u64 (e : Int), .slice A n cap]
  have hr1 := hgrow hr hb0
  have RB1 := hgrow RB hb0
  have HX := Lib.hid hx
  revert hb0 hr1 RB1 HX
  clear hx hr RB
  generalize W.alloc (.cells #[.int .u64 (e : Int), .slice A n cap] 25) = w1
  intro hb0 hr RB HX
  refine (H1.out w1 hr).mono ?_
  intro en w2 h
  obtain ⟨A1, n1, c1, rfl, hn1, R1, hc1, hm1, hb⟩ := h.open
  have HX2 := Lib.hid (HX.out.below hb HX.out.lt)
  have hr2 := hgrow hr hb
  have RB2 := hgrow RB hb
  have hb2 := hb0.trans (hb.mono hb0.size)
  have hx0 := HX2.out.cell 0
  have hx1 := HX2.out.cell 1
  have HN1 := Lib.hid hn1
  clear h hb hb0 hr RB HX hn1
  go_wp2_with fail
  refine (H2.out w2 hr2).mono ?_
  intro en w3 h
  obtain ⟨A2, n2, c2, rfl, hn2, R2, hc2, hm2, hb⟩ := h.open
  have R1 := hgrow R1 hb
  have RB3 := hgrow RB2 hb
  have hb3 := hb2.trans (hb.mono hb2.size)
  have HN2 := Lib.hid hn2
  clear h hb hb2 hr2 RB2 HX2 hx0 hx1 hn2
  go_wp2_with fail
  refine (G1.out w3).mono ?_
  rintro en w4 ⟨rfl, hb⟩
  have R1 := hgrow R1 hb
  have R2 := hgrow R2 hb
  have RB4 := hgrow RB3 hb
  have hb4 := hb3.trans (hb.mono hb3.size)
  clear hb hb3 RB3
  go_wp2_with fail
  refine (G2.out w4).mono ?_
  rintro en w' ⟨rfl, rfl⟩
  go_wp2_with fail
  refine (rints_same A1 A2 n1 c1 n2 c2 l w4 R1.out R2.out (by omega)).mono ?_
  rintro en w5 ⟨rfl, dd, rfl⟩
  have R1 : Hid (Reads (w4.drewN dd) w4.heap.size 1 A1 n1 (l.map iv)) := Lib.hid (R1.out.drewN dd)
  have R2 : Hid (Reads (w4.drewN dd) w4.heap.size 1 A2 n2 (l.map iv)) := Lib.hid (R2.out.drewN dd)
  have RB5 : Hid (Reads (w4.drewN dd) w4.heap.size 1 B m (os.map iv)) := Lib.hid (RB4.out.drewN dd)
  have hsz : (w4.drewN dd).heap.size = w4.heap.size := rfl
  have hb5 := bel_drewN hb4 dd
  clear RB4 hb4
  rw [← hsz] at R1 R2 RB5
  clear hsz
  generalize w4.drewN dd = w5 at *
  go_wp2_with fail
  refine (moves_ge A1 B n1 c1 m cb l os w5 R1.out RB5.out (by omega) (by omega)).mono ?_
  rintro en w' ⟨rfl, rfl⟩
  go_wp2_with fail
  refine (rmoves_any A2 B n2 c2 m cb l os w5 R2.out RB5.out (by omega) (by omega)).mono ?_
  rintro en w6 ⟨rfl, dd, rfl⟩
  have hb6 := bel_drewN hb5 dd
  generalize nMoves l os = mv
  generalize w5.drewN dd = w6 at *
  go_wp2_with fail
  refine (heads_any w6).mono ?_
  rintro en w7 ⟨rfl, hb7⟩
  go_wp2
  go_ret
  exact ⟨rfl, hb6.trans (hb7.mono hb6.size)⟩
namespace placeNodes
open Go.ChangeShapes Go.WideShapes Go.ChangeAt Go.RowKit
open Go.ChangeMaps (open_string shut_string)
set_option linter.unusedVariables false
theorem own : ownKnob Try.prog.godebug = none := by kernel_rfl
theorem laidOut : laidOutB Try.prog = true := by kernel_rfl
set_option maxRecDepth 100000 in
theorem contract (H : Type) (enc : TypeId × Value → H) (W : World) (base : Nat) (args : Array Value) (ds gs : List (DataW H)) (before : List MemPlace)
    (hval0 : ∀ (j : Nat) t v, Try.f3.params[j]? = some t → args[j]? = some v → Value.okWide Try.prog W .any base t v)
    (hW : DataW.Whole enc Try.prog Try.f3.params.toList Rows.placeNodesSpec.vars false W args.toList ds gs before) :
    Calls Try.prog 3 args W fun e W' => ∃ v, e = .returned v ∧ Rows.placeNodesSpec.post enc Try.prog Try.f3 false true false false W args v W' := by
  have hval : ∀ (j : Nat) t v, Try.f3.params[j]? = some t → args[j]? = some v → Value.okWide Try.prog W .any base t v := hval0
  have hW' := hW
  obtain ⟨p, q, hA0, hV, rfl, hfz, hnd⟩ := hW
  have hA : DataW.TrodAll enc Try.prog W 0 (fun _ => true) true Try.f3.params.toList args.toList ds p := hA0
  rw [Try.params3] at hA hval
  obtain ⟨v0, vs0, d0, ds0, p0, q0, hargs, rfl, rfl, h0, r0⟩ := trodAll_cons hA
  obtain ⟨v1, vs1, d1, ds1, p1, q1, rfl, rfl, rfl, h1, r1⟩ := trodAll_cons r0
  obtain ⟨v2, vs2, d2, ds2, p2, q2, rfl, rfl, rfl, h2, r2⟩ := trodAll_cons r1
  obtain ⟨v3, vs3, d3, ds3, p3, q3, rfl, rfl, rfl, h3, r3⟩ := trodAll_cons r2
  obtain ⟨v4, vs4, d4, ds4, p4, q4, rfl, rfl, rfl, h4, r4⟩ := trodAll_cons r3
  obtain ⟨v5, vs5, d5, ds5, p5, q5, rfl, rfl, rfl, h5, r5⟩ := trodAll_cons r4
  obtain ⟨rfl, rfl, rfl⟩ := trodAll_nil r5
  obtain rfl : args = #[v0, v1, v2, v3, v4, v5] := by cases args; simp_all
  obtain ⟨rfl, rfl⟩ := trodVars_none hV
  have k0 := h0
  have lt0 : ∀ x ∈ p0, x.block < W.heap.size := by obtain ⟨m, hm⟩ := k0; exact DataW.trod_lt m _ _ _ hm
  have k1 := h1
  have lt1 : ∀ x ∈ p1, x.block < W.heap.size := by obtain ⟨m, hm⟩ := k1; exact DataW.trod_lt m _ _ _ hm
  have k2 := h2
  have lt2 : ∀ x ∈ p2, x.block < W.heap.size := by obtain ⟨m, hm⟩ := k2; exact DataW.trod_lt m _ _ _ hm
  have k3 := h3
  have lt3 : ∀ x ∈ p3, x.block < W.heap.size := by obtain ⟨m, hm⟩ := k3; exact DataW.trod_lt m _ _ _ hm
  have k4 := h4
  have lt4 : ∀ x ∈ p4, x.block < W.heap.size := by obtain ⟨m, hm⟩ := k4; exact DataW.trod_lt m _ _ _ hm
  have k5 := h5
  have lt5 : ∀ x ∈ p5, x.block < W.heap.size := by obtain ⟨m, hm⟩ := k5; exact DataW.trod_lt m _ _ _ hm
  obtain ⟨a1, rfl, rfl, rfl, w1⟩ := open_int Try.underlying3 (hval 1 3 v1 rfl rfl) h1
  obtain ⟨a2, rfl, rfl, rfl, w2⟩ := open_int Try.underlying3 (hval 2 3 v2 rfl rfl) h2
  obtain ⟨a3, rfl, rfl, rfl, w3⟩ := open_string Try.underlying9 (hval 3 9 v3 rfl rfl) h3
  obtain ⟨a4, rfl, rfl, rfl, w4⟩ := open_int Try.underlying3 (hval 4 3 v4 rfl rfl) h4
  obtain ⟨A5, len5, cap5, rfl⟩ := okWide_slice Try.underlying26 (hval 5 26 v5 rfl rfl)
  obtain ⟨z5, w5⟩ := open_in_ints Try.underlying26 Try.underlying3 (by kernel_rfl) h5
  clear hA0 hval0
  refine (walk_PlaceNodes W v0 d0 p0 h0 (hval 0 25 v0 rfl rfl) a1 w1 a2 w2 a3 w3 a4 w4 A5 len5 cap5 z5 w5).mono fun e W' ⟨he, bel⟩ => ?_
  subst he
  exact ⟨_, rfl, _, _, _, [], _, [], hW', trodAll_mk1 (shut_bool Try.underlying4 _), (trodAll_cons_mk (Below.trod laidOut (by kernel_rfl) (of_decide_eq_true (by kernel_rfl)) k0 bel lt0) (trodAll_cons_mk (Below.trod laidOut (by kernel_rfl) (of_decide_eq_true (by kernel_rfl)) k1 bel lt1) (trodAll_cons_mk (Below.trod laidOut (by kernel_rfl) (of_decide_eq_true (by kernel_rfl)) k2 bel lt2) (trodAll_cons_mk (Below.trod laidOut (by kernel_rfl) (of_decide_eq_true (by kernel_rfl)) k3 bel lt3) (trodAll_cons_mk (Below.trod laidOut (by kernel_rfl) (of_decide_eq_true (by kernel_rfl)) k4 bel lt4) (trodAll_cons_mk (Below.trod laidOut (by kernel_rfl) (of_decide_eq_true (by kernel_rfl)) k5 bel lt5) trodAll_mk0)))))), rfl, bel.frame _, fun h => by cases h⟩
set_option maxRecDepth 100000 in
theorem lifted (os : Os) (started : os.Started) (H : Type) (enc : TypeId × Value → H) :
    ReturnsInHanded {} Try.checked os 3 .any (Rows.placeNodesSpec.pre6 enc Try.prog Try.f3 Rows.placeNodesRow.domain false) (Rows.placeNodesSpec.post enc Try.prog Try.f3 false true false false) := by
  refine returnsInHanded_of_change (C := Try.checked) own started (by kernel_rfl) Try.func3
    (ChangeSpec.witness6 (enc := enc) (C := Try.checked) false ⟨#[], #[.agg #[.int .u64 0, .slice none 0 0], .int .i64 0, .int .i64 0, .string ⟨#[]⟩, .int .i64 0, .slice none 0 0], []⟩ 8 (by kernel_rfl) (by kernel_rfl) (by kernel_rfl) (by kernel_rfl)) ?_
  intro W base args ds gs before hval hW _ _
  exact contract H enc W base args ds gs before hval hW
theorem over : Rows.placeNodesRow.holds Try.pinned (OpenSpec.ofChange Rows.placeNodesSpec) :=
  OpenClaim.holds_of_wide 3 Try.f3 rfl rfl rfl rfl rfl rfl rfl ⟨rfl, rfl, rfl, rfl, rfl⟩ rfl rfl rfl rfl rfl (by kernel_rfl) Try.func3 (by kernel_rfl)
    (of_decide_eq_true (by kernel_rfl)) (by unfold Func.isWrapper; first | (rw [if_pos (by decide +kernel)]; kernel_rfl) | (rw [if_neg (by decide +kernel)]; exact ⟨rfl, rfl⟩))
    (fun os started H enc _ => lifted os started H enc)
/-- THE STATEMENT. -/
theorem proved : Rows.PlaceNodesSaid := over
end placeNodes
end Go.Proofs.Ytmdffmajnbokeaa
