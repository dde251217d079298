/-
  The walks of ClientOnce: each call is answered once, behind its limit at the latest.
-/
import Derived.Test.YtmamdnikjfmenaaClW16
namespace Go.Proofs.Ytmamdnikjfmenaa
open Go.RowKit
set_option linter.unusedVariables false
theorem ob_new {r lim : Int} (h1 : 1 ≤ r) (h2 : r ≤ lim) (h3 : lim ≤ 100000) : May (Cal.new 1 [3, 1] r lim) :=
  ⟨Nat.le_refl 1, by show (1 : Nat) ≤ 64; omega, by show (0 : Nat) < 2; omega, h1, h2, h3, three_ok, Int.le_refl 0, by show (0 : Int) < ((2 : Nat) : Int); omega, Int.le_refl 0, by show (0 : Int) < ((2 : Nat) : Int); omega, by show (0 : Int) ≤ 0; omega, by show (0 : Int) ≤ lim; omega, by show (0 : Nat) < 4611686018427387904; omega⟩
/-- A struct at any place. -/
theorem load_at {P : Program} {w : World} {ad : Addr} {ty : TypeId} {cs : Array Value} {d : TypeDesc} (hc : ∀ j v, cs[j]? = some v → w.cell? (ad.add j) = some v) (hu : P.underlying ty = some d) (hd : d.isRow = true) (hi : (P.info? ty).map (·.size) = some cs.size) :
    (loadVar ty ad).run P w = .ok (.agg cs) w := by
  have hl : (loadCells ad cs.toList.length).run P w = .ok cs.toList.toArray w := run_loadCells_list (P := P) w ad cs.toList (fun j v hv => hc j v (by simpa using hv))
  cases hq : P.info? ty with
  | none => simp [hq] at hi
  | some i =>
    have hs : i.size = cs.size := by simpa [hq] using hi
    have hagg : (isAgg ty).run P w = .ok true w := by
      unfold isAgg
      rw [Sem.run_bind, run_underlying hu w]
      cases d <;> simp_all
    simp at hl
    simp [loadVar, Sem.run_bind, hagg, sizeOf, typeInfo, hq, hs, hl]
theorem yields_load_at {P : Program} {ops : Array Oper} {S : World → Prop} {op : Oper} {a : Act} (hw : Region.wanted op (yielded ops a.tmps) = true) (ty : TypeId) (x : Operand) (ho : op.op = .load ty x)
    (ad : Addr) (cs : Array Value) (d : TypeDesc) (hx : a.eval x = .pointer (some ad)) (hS : ∀ w, S w → ∀ j v, cs[j]? = some v → w.cell? (ad.add j) = some v) (hu : P.underlying ty = some d) (hd : d.isRow = true) (hi : (P.info? ty).map (·.size) = some cs.size) :
    YieldsIf P ops S op (.agg cs) a :=
  .inl ⟨hw, fun w hw' => by
    unfold execOp
    simp only [ho, hx, Instr.loadAt, Instr.sureAddr, Sem.run_bind, Sem.run_pure, Result.andThen_ok, load_at (hS w hw') hu hd hi]⟩
/-- What the loops keep. -/
structure OSt (w1 : World) (g L : Nat) (N : Option Addr) (nc : Nat) (d0 : Addr) (c : Cal) (m : Nat) (D : Option Addr) (dc : Nat) (wr : World) : Prop where
  B : Blk wr g 40 (c.cs 2 N nc m D dc)
  nb : Below g w1 wr
  d1 : wr.cell? d0 = some (.int .u8 1)
  sz : L ≤ wr.heap.size
section
variable {w1 : World} {g L : Nat} {N : Option Addr} {nc : Nat} {d0 : Addr} {c : Cal} {m : Nat} {D : Option Addr} {dc : Nat} {wr w' : World}
theorem OSt.later (h : OSt w1 g L N nc d0 c m D dc wr) (hb : Below wr.heap.size wr w') (hg : g < L) (hd : d0.block < L) : OSt w1 g L N nc d0 c m D dc w' :=
  ⟨h.B.below hb h.B.lt, h.nb.trans (hb.mono (by have := h.sz; omega)), (hb.cell (by have := h.sz; omega)).trans h.d1, Nat.le_trans h.sz hb.size⟩
theorem OSt.only {k : Nat} (h : OSt w1 g L N nc d0 c m D dc wr) (hO : Only k wr w') (hg : g < k) (hd : d0.block ≠ k) : OSt w1 g L N nc d0 c m D dc w' :=
  ⟨hO.blk h.B (by omega), h.nb.trans (hO.below (by omega)), (hO.cell hd).trans h.d1, by rw [hO.size]; exact h.sz⟩
theorem OSt.step {c' : Cal} {m' : Nat} {D' : Option Addr} {dc' : Nat} (h : OSt w1 g L N nc d0 c m D dc wr) (hO : Only g wr w') (hB : Blk w' g 40 (c'.cs 2 N nc m' D' dc')) (hd : d0.block ≠ g) : OSt w1 g L N nc d0 c' m' D' dc' w' :=
  ⟨hB, h.nb.trans (hO.below (Nat.le_refl _)), (hO.cell hd).trans h.d1, by rw [hO.size]; exact h.sz⟩
theorem one_reads {w : World} {d0 : Addr} (h : w.cell? d0 = some (.int .u8 1)) : Reads w w.heap.size 1 (some d0) 1 (([1] : List Nat).map bv) :=
  ⟨rfl, fun _ => ⟨d0, rfl, World.block_lt_of_cell? _ _ h, fun j u hu => by
    match j, hu with
    | 0, hu => rw [show d0.add 0 = d0 from by simp [Addr.add], h]; exact hu
    | j + 1, hu => simp at hu⟩⟩
theorem step_false {code ans ans' : Int} {b b' : Bool} {w : World} {p : Addr} (h : (code = 0 ∧ ans' = ans ∧ b' = b) ∨ (1 ≤ code ∧ code ≠ 4 ∧ code ≠ 5 ∧ b = true ∧ b' = false ∧ ans = 0 ∧ ans' = 1)) (hb : b = false) (z : w.cell? p = some (.bool b')) :
    code = 0 ∧ ans' = ans ∧ w.cell? p = some (.bool false) := by
  rcases h with ⟨h1, h2, h3⟩ | ⟨_, _, _, h4, _⟩
  · exact ⟨h1, h2, by rw [z, h3, hb]⟩
  · exact absurd (hb.symm.trans h4) (by decide)
theorem step_true {code ans ans' : Int} {b b' : Bool} {w : World} {p : Addr} (h : (code = 0 ∧ ans' = ans ∧ b' = b) ∨ (1 ≤ code ∧ code ≠ 4 ∧ code ≠ 5 ∧ b = true ∧ b' = false ∧ ans = 0 ∧ ans' = 1)) (hb : b = true) (z : w.cell? p = some (.bool b')) :
    (code = 0 ∧ ans' = ans ∧ w.cell? p = some (.bool true)) ∨ ((code != 0) = true ∧ (code == 5) = false ∧ (code == 4) = false ∧ (code == 0) = false ∧ ans = 0 ∧ ans' = 1 ∧ w.cell? p = some (.bool false)) := by
  rcases h with ⟨h1, h2, h3⟩ | ⟨h1, h4, h5, h6, h7, h8, h9⟩
  · exact .inl ⟨h1, h2, by rw [z, h3, hb]⟩
  · exact .inr ⟨by simp; omega, by simp; omega, by simp; omega, by simp; omega, h8, h9, by rw [z, h7]⟩
theorem step_two {code ans ans' : Int} {b b' : Bool} (h : (code = 0 ∧ ans' = ans ∧ b' = b) ∨ (1 ≤ code ∧ code ≠ 4 ∧ code ≠ 5 ∧ b = true ∧ b' = false ∧ ans = 0 ∧ ans' = 1)) : (code = 0 ∧ ans' = ans) ∨ ((code != 0) = true ∧ ans = 0 ∧ ans' = 1) := by
  rcases h with ⟨h1, h2, _⟩ | ⟨h1, _, _, _, _, h2, h3⟩
  · exact .inl ⟨h1, h2⟩
  · exact .inr ⟨by simp; omega, h2, h3⟩
theorem OSt.calin {lim t ans : Int} {dc0 : Nat} (h : OSt w1 w1.heap.size L N nc d0 c m D dc wr) (ob : Ob lim (some d0) dc0 c t ans m D dc) (hn : Reads w1 w1.heap.size 1 N 2 (([3, 1] : List Int).map iv)) (h1 : 2 ≤ nc) (h2 : nc ≤ maxLen) (h3 : 1 ≤ dc0) (h4 : dc0 ≤ maxLen) :
    CalIn wr c 2 N nc m D dc := ob.calin (hn.below h.nb) (one_reads h.d1) h1 h2 h3 h4
end
set_option maxRecDepth 100000 in
set_option maxHeartbeats 4000000 in
theorem once_no (A : Option Addr) (n cap : Nat) (r lim : Int) (W : World) (hmay : ¬ May (Cal.new 1 [3, 1] r lim)) :
    Calls Try.prog 7 #[.int .i64 r, .int .i64 lim, .slice A n cap] W (Yes W) := by
  have HM := Lib.hid hmay
  have hd : decide (1 ≤ r) = false ∨ decide (1 ≤ r) = true ∧ decide (r ≤ lim) = false ∨ decide (1 ≤ r) = true ∧ decide (r ≤ lim) = true ∧ decide (lim ≤ 100000) = false := by
    simp only [decide_eq_true_eq, decide_eq_false_iff_not]
    rcases Int.lt_or_le r 1 with h1 | h1
    · left; omega
    rcases Int.lt_or_le lim r with h2 | h2
    · right; left; omega
    rcases Int.lt_or_le 100000 lim with h3 | h3
    · right; right; omega
    · exact absurd (ob_new h1 h2 h3) hmay
  clear hmay
  have hr : Reads (W.alloc (.cells #[.int .i64 3, .int .i64 1] 3)) (W.heap.size + 1) 1 (some ⟨W.heap.size, 0, none⟩) 2 (([3, 1] : List Int).map iv) := Reads.lit W 3 [.int .i64 3, .int .i64 1] 1 2 rfl
  have HR := Lib.hid (hr.more (B' := (W.alloc (.cells #[.int .i64 3, .int .i64 1] 3)).heap.size) (by simp))
  clear hr
  have HB0 := Lib.hid ((Below.refl W.heap.size W).alloc (Nat.le_refl _) (.cells #[.int .i64 3, .int .i64 1] 3))
  rcases hd with e1 | ⟨e1, e2⟩ | ⟨e1, e2, e3⟩
  · go_enter Try.func7, Try.ntmps7
    go_wp2_with (first
      | (go_at_call 8; refine (new_no 1 _ 2 2 [3, 1] r lim _ rfl HR (by omega) (by omega) HM.out).mono ?_; rintro e w1 ⟨v, rfl, ⟨n1, N1, nc1, m1, D1, dc1, rfl, -⟩, hb⟩; have BB := Lib.hid (HB0.out.trans (hb.mono (by simp))); clear hb)
      | (refine wpl_store_blk rfl 40 (.tmp 7) (.tmp 28) rfl w1.heap.size 40 (#[.int .u64 0, .slice none 0 0, .int .i64 0, .int .i64 0, .int .u64 0, .bool false, .int .i64 0, .string ⟨#[]⟩, .slice none 0 0, .int .i64 0, .int .i64 0, .int .i64 0]) (Cal.zero.cs n1 N1 nc1 m1 D1 dc1) rfl rfl (Blk.new _ _ _) rfl Try.sizeC rfl ?_; intro w2 hB hO; have BB := Lib.hid (BB.out.trans ((((Below.refl w1.heap.size w1).alloc (Nat.le_refl _) (.cells #[.int .u64 0, .slice none 0 0, .int .i64 0, .int .i64 0, .int .u64 0, .bool false, .int .i64 0, .string ⟨#[]⟩, .slice none 0 0, .int .i64 0, .int .i64 0, .int .i64 0] 40)).trans (hO.out.below (Nat.le_refl _))).mono BB.out.size)); clear hB hO)
      | (go_at_call 9; refine (heads_true _).mono ?_; rintro e w9 ⟨rfl, hb⟩; have HB9 := Lib.hid hb; clear hb))
    go_ret
    exact ⟨rfl, bel_trans BB.out HB9.out⟩
  · go_enter Try.func7, Try.ntmps7
    go_wp2_with (first
      | (go_at_call 8; refine (new_no 1 _ 2 2 [3, 1] r lim _ rfl HR (by omega) (by omega) HM.out).mono ?_; rintro e w1 ⟨v, rfl, ⟨n1, N1, nc1, m1, D1, dc1, rfl, -⟩, hb⟩; have BB := Lib.hid (HB0.out.trans (hb.mono (by simp))); clear hb)
      | (refine wpl_store_blk rfl 40 (.tmp 7) (.tmp 28) rfl w1.heap.size 40 (#[.int .u64 0, .slice none 0 0, .int .i64 0, .int .i64 0, .int .u64 0, .bool false, .int .i64 0, .string ⟨#[]⟩, .slice none 0 0, .int .i64 0, .int .i64 0, .int .i64 0]) (Cal.zero.cs n1 N1 nc1 m1 D1 dc1) rfl rfl (Blk.new _ _ _) rfl Try.sizeC rfl ?_; intro w2 hB hO; have BB := Lib.hid (BB.out.trans ((((Below.refl w1.heap.size w1).alloc (Nat.le_refl _) (.cells #[.int .u64 0, .slice none 0 0, .int .i64 0, .int .i64 0, .int .u64 0, .bool false, .int .i64 0, .string ⟨#[]⟩, .slice none 0 0, .int .i64 0, .int .i64 0, .int .i64 0] 40)).trans (hO.out.below (Nat.le_refl _))).mono BB.out.size)); clear hB hO)
      | (go_at_call 9; refine (heads_true _).mono ?_; rintro e w9 ⟨rfl, hb⟩; have HB9 := Lib.hid hb; clear hb))
    go_ret
    exact ⟨rfl, bel_trans BB.out HB9.out⟩
  · go_enter Try.func7, Try.ntmps7
    go_wp2_with (first
      | (go_at_call 8; refine (new_no 1 _ 2 2 [3, 1] r lim _ rfl HR (by omega) (by omega) HM.out).mono ?_; rintro e w1 ⟨v, rfl, ⟨n1, N1, nc1, m1, D1, dc1, rfl, -⟩, hb⟩; have BB := Lib.hid (HB0.out.trans (hb.mono (by simp))); clear hb)
      | (refine wpl_store_blk rfl 40 (.tmp 7) (.tmp 28) rfl w1.heap.size 40 (#[.int .u64 0, .slice none 0 0, .int .i64 0, .int .i64 0, .int .u64 0, .bool false, .int .i64 0, .string ⟨#[]⟩, .slice none 0 0, .int .i64 0, .int .i64 0, .int .i64 0]) (Cal.zero.cs n1 N1 nc1 m1 D1 dc1) rfl rfl (Blk.new _ _ _) rfl Try.sizeC rfl ?_; intro w2 hB hO; have BB := Lib.hid (BB.out.trans ((((Below.refl w1.heap.size w1).alloc (Nat.le_refl _) (.cells #[.int .u64 0, .slice none 0 0, .int .i64 0, .int .i64 0, .int .u64 0, .bool false, .int .i64 0, .string ⟨#[]⟩, .slice none 0 0, .int .i64 0, .int .i64 0, .int .i64 0] 40)).trans (hO.out.below (Nat.le_refl _))).mono BB.out.size)); clear hB hO)
      | (go_at_call 9; refine (heads_true _).mono ?_; rintro e w9 ⟨rfl, hb⟩; have HB9 := Lib.hid hb; clear hb))
    go_ret
    exact ⟨rfl, bel_trans BB.out HB9.out⟩
set_option maxRecDepth 100000 in
set_option maxHeartbeats 4000000 in
theorem once_far (A : Option Addr) (n cap : Nat) (r lim : Int) (W : World) (h1 : 1 ≤ r) (h2 : r ≤ lim) (h3 : lim ≤ 100000) (hf : 200 < lim ∨ lim ≤ 200 ∧ 500 < n) :
    Calls Try.prog 7 #[.int .i64 r, .int .i64 lim, .slice A n cap] W (Yes W) := by
  have HM := Lib.hid (ob_new h1 h2 h3)
  have e1 : decide (1 ≤ r) = true := decide_eq_true h1
  have e2 : decide (r ≤ lim) = true := decide_eq_true h2
  have e3 : decide (lim ≤ 100000) = true := decide_eq_true h3
  have hr : Reads (W.alloc (.cells #[.int .i64 3, .int .i64 1] 3)) (W.heap.size + 1) 1 (some ⟨W.heap.size, 0, none⟩) 2 (([3, 1] : List Int).map iv) := Reads.lit W 3 [.int .i64 3, .int .i64 1] 1 2 rfl
  have HR := Lib.hid (hr.more (B' := (W.alloc (.cells #[.int .i64 3, .int .i64 1] 3)).heap.size) (by simp))
  clear hr
  have HB0 := Lib.hid ((Below.refl W.heap.size W).alloc (Nat.le_refl _) (.cells #[.int .i64 3, .int .i64 1] 3))
  rcases hf with hf | ⟨hf, hg⟩
  · have e4 : decide (200 < lim) = true := decide_eq_true hf
    clear h1 h2 h3 hf
    go_enter Try.func7, Try.ntmps7
    go_wp2_with (first
      | (go_at_call 8; refine (new_yes 1 _ 2 2 [3, 1] r lim _ rfl HR (by omega) (by omega) HM.out).mono ?_; rintro e w1 ⟨N, nc, rfl, q1, q2, q3, hb⟩; have RN := Lib.hid (Reads.of_own q3); have BB := Lib.hid (HB0.out.trans (hb.mono (by simp))); clear q3 hb)
      | (refine wpl_store_blk rfl 40 (.tmp 7) (.tmp 28) rfl w1.heap.size 40 (#[.int .u64 0, .slice none 0 0, .int .i64 0, .int .i64 0, .int .u64 0, .bool false, .int .i64 0, .string ⟨#[]⟩, .slice none 0 0, .int .i64 0, .int .i64 0, .int .i64 0]) ((Cal.new 1 [3, 1] r lim).cs 2 N nc 0 none 0) rfl rfl (Blk.new _ _ _) rfl Try.sizeC rfl ?_; intro w2 hB hO; have B1 := hB; have NB := Lib.hid (((Below.refl w1.heap.size w1).alloc (Nat.le_refl _) (.cells #[.int .u64 0, .slice none 0 0, .int .i64 0, .int .i64 0, .int .u64 0, .bool false, .int .i64 0, .string ⟨#[]⟩, .slice none 0 0, .int .i64 0, .int .i64 0, .int .i64 0] 40)).trans (hO.out.below (Nat.le_refl _))); have SZ := Lib.hid (show w2.heap.size = w1.heap.size + 1 from by rw [hO.out.size]; simp); clear hB hO)
      | (go_at_call 9; refine (heads_true _).mono ?_; rintro e w9 ⟨rfl, hb⟩; have HB9 := Lib.hid hb; clear hb))
    go_ret
    exact ⟨rfl, bel_trans (BB.out.trans (NB.out.mono BB.out.size)) HB9.out⟩
  · have e4 : decide (200 < lim) = false := decide_eq_false (by omega)
    have e5 : decide (500 < (n : Int)) = true := decide_eq_true (by omega)
    clear h1 h2 h3 hf hg
    go_enter Try.func7, Try.ntmps7
    go_wp2_with (first
      | (go_at_call 8; refine (new_yes 1 _ 2 2 [3, 1] r lim _ rfl HR (by omega) (by omega) HM.out).mono ?_; rintro e w1 ⟨N, nc, rfl, q1, q2, q3, hb⟩; have RN := Lib.hid (Reads.of_own q3); have BB := Lib.hid (HB0.out.trans (hb.mono (by simp))); clear q3 hb)
      | (refine wpl_store_blk rfl 40 (.tmp 7) (.tmp 28) rfl w1.heap.size 40 (#[.int .u64 0, .slice none 0 0, .int .i64 0, .int .i64 0, .int .u64 0, .bool false, .int .i64 0, .string ⟨#[]⟩, .slice none 0 0, .int .i64 0, .int .i64 0, .int .i64 0]) ((Cal.new 1 [3, 1] r lim).cs 2 N nc 0 none 0) rfl rfl (Blk.new _ _ _) rfl Try.sizeC rfl ?_; intro w2 hB hO; have B1 := hB; have NB := Lib.hid (((Below.refl w1.heap.size w1).alloc (Nat.le_refl _) (.cells #[.int .u64 0, .slice none 0 0, .int .i64 0, .int .i64 0, .int .u64 0, .bool false, .int .i64 0, .string ⟨#[]⟩, .slice none 0 0, .int .i64 0, .int .i64 0, .int .i64 0] 40)).trans (hO.out.below (Nat.le_refl _))); have SZ := Lib.hid (show w2.heap.size = w1.heap.size + 1 from by rw [hO.out.size]; simp); clear hB hO)
      | (go_at_call 9; refine (heads_true _).mono ?_; rintro e w9 ⟨rfl, hb⟩; have HB9 := Lib.hid hb; clear hb))
    go_ret
    exact ⟨rfl, bel_trans (BB.out.trans (NB.out.mono BB.out.size)) HB9.out⟩
set_option maxRecDepth 100000 in
set_option maxHeartbeats 4000000 in
theorem once_yes (A : Option Addr) (n cap : Nat) (r lim : Int) (W : World) (h1 : 1 ≤ r) (h2 : r ≤ lim) (hl : lim ≤ 200) (hn : n ≤ 500) (hms : Hid (∀ i, i < n → MsgAt W W A i)) :
    Calls Try.prog 7 #[.int .i64 r, .int .i64 lim, .slice A n cap] W (Yes W) := by
  have HM := Lib.hid (ob_new h1 h2 (by omega))
  have e1 : decide (1 ≤ r) = true := decide_eq_true h1
  have e2 : decide (r ≤ lim) = true := decide_eq_true h2
  have e4 : decide (200 < lim) = false := decide_eq_false (by omega)
  have e5 : decide (500 < (n : Int)) = false := decide_eq_false (by omega)
  have tk1 : True := trivial
  have hr : Reads (W.alloc (.cells #[.int .i64 3, .int .i64 1] 3)) (W.heap.size + 1) 1 (some ⟨W.heap.size, 0, none⟩) 2 (([3, 1] : List Int).map iv) := Reads.lit W 3 [.int .i64 3, .int .i64 1] 1 2 rfl
  have HR := Lib.hid (hr.more (B' := (W.alloc (.cells #[.int .i64 3, .int .i64 1] 3)).heap.size) (by simp))
  clear hr
  have HB0 := Lib.hid ((Below.refl W.heap.size W).alloc (Nat.le_refl _) (.cells #[.int .i64 3, .int .i64 1] 3))
  go_enter Try.func7, Try.ntmps7
  go_wp2_with (first
    | (go_at_call 8; refine (new_yes 1 _ 2 2 [3, 1] r lim _ rfl HR (by omega) (by omega) HM.out).mono ?_; rintro e w1 ⟨N, nc, rfl, q1, q2, q3, hb⟩; have RN := Lib.hid (Reads.of_own q3); have BB := Lib.hid (HB0.out.trans (hb.mono (by simp))); clear q3 hb)
    | (refine wpl_store_blk rfl 40 (.tmp 7) (.tmp 28) rfl w1.heap.size 40 (#[.int .u64 0, .slice none 0 0, .int .i64 0, .int .i64 0, .int .u64 0, .bool false, .int .i64 0, .string ⟨#[]⟩, .slice none 0 0, .int .i64 0, .int .i64 0, .int .i64 0]) ((Cal.new 1 [3, 1] r lim).cs 2 N nc 0 none 0) rfl rfl (Blk.new _ _ _) rfl Try.sizeC rfl ?_; intro w2 hB hO; have B1 := hB; have NB := Lib.hid (((Below.refl w1.heap.size w1).alloc (Nat.le_refl _) (.cells #[.int .u64 0, .slice none 0 0, .int .i64 0, .int .i64 0, .int .u64 0, .bool false, .int .i64 0, .string ⟨#[]⟩, .slice none 0 0, .int .i64 0, .int .i64 0, .int .i64 0] 40)).trans (hO.out.below (Nat.le_refl _))); have SZ := Lib.hid (show w2.heap.size = w1.heap.size + 1 from by rw [hO.out.size]; simp); clear hB hO)
    | (refine wpl_load_blk rfl 40 (.tmp 7) rfl w1.heap.size 40 _ _ rfl B1.out Try.underlying40 rfl Try.sizeC ?_)
    | (go_at_call 11; have _t := tk1; have bo := Lib.hid ((Below.refl w2.heap.size w2).alloc (Nat.le_refl _) (.cells #[.int .u8 1] 5)); have cin := Lib.hid ((new_in (id := 1) (nodes := [3, 1]) (retry := r) (limit := lim) rfl ((RN.out.below NB.out).more (by rw [SZ.out]; omega)) q1 q2).later bo.out); have he : Reads (w2.alloc (.cells #[.int .u8 1] 5)) (w2.heap.size + 1) 1 (some ⟨w2.heap.size, 0, none⟩) 1 (([1] : List Nat).map bv) := Reads.lit1 w2 5 (.int .u8 1); have HE := Lib.hid (he.more (B' := (w2.alloc (.cells #[.int .u8 1] 5)).heap.size) (by simp)); clear he; refine (call_yes (Cal.new 1 [3, 1] r lim) 2 N nc 0 none 0 1 ⟨#[97]⟩ (some ⟨w2.heap.size, 0, none⟩) 1 1 [1] _ cin HM.out rfl rfl HE (by intro x hx; rw [List.mem_singleton.1 hx]; omega) (by omega) (callable_put _ _)).mono ?_; rintro e w3 ⟨m, F, fc, u, rfl, hm, f1, f2, f3, ⟨um, U, uc, rfl, u1, u2, u3, u4⟩, hb⟩; obtain rfl : m = 1 := hm.symm; obtain ⟨d0, rfl, hdl, hdc⟩ := (Reads.of_own f3).2 (by omega); have hdn := own_up f3 (g := w1.heap.size) (by simp; rw [SZ.out]; omega); have D1 := Lib.hid (show w3.cell? d0 = some (.int .u8 1) from by have := hdc 0 _ rfl; simpa [Addr.add, bv] using this); have HDL := Lib.hid hdl; have HDN := Lib.hid (show d0.block ≠ w1.heap.size from by simpa [Value.ownBlock] using hdn); have B1 := Lib.hid ((B1.out.below bo.out B1.out.lt).below hb (by simp; have := SZ.out; omega)); have NB := Lib.hid ((NB.out.trans (bo.out.mono (by rw [SZ.out]; omega))).trans (hb.mono (by simp; rw [SZ.out]; omega))); have SZ := Lib.hid (show w1.heap.size + 1 ≤ w3.heap.size from by have := hb.size; have := SZ.out; simp at *; omega); clear hm f3 u4 hb cin bo HE tk1 _t hdl hdc hdn)
    | (refine wpl_store_blk rfl 40 (.tmp 7) (.tmp 62) rfl w1.heap.size 40 ((Cal.new 1 [3, 1] r lim).cs 2 N nc 0 none 0) (((Cal.new 1 [3, 1] r lim).calls 1 ⟨#[97]⟩ [1]).cs 2 N nc 1 (some d0) fc) rfl rfl (B1.out.alloc _) rfl Try.sizeC rfl ?_; intro w4 hB hO; have B1 := hB; have Z3 := Lib.hid (hO.out.blk (Blk.new w3 38 msgZ) (by have := SZ.out; omega)); have NB := Lib.hid ((NB.out.alloc (by have := SZ.out; omega) (.cells msgZ 38)).trans (hO.out.below (Nat.le_refl _))); have D1 := Lib.hid ((hO.out.cell HDN.out).trans ((World.cell?_alloc_lt w3 _ d0 HDL.out).trans D1.out)); have SZ4 := Lib.hid (show w4.heap.size = w3.heap.size + 1 from by rw [hO.out.size]; simp); clear hB hO)
    | (refine wpl_store_blk rfl 38 (.tmp 9) (.tmp 63) rfl w3.heap.size 38 (msgZ) (askCs ((Cal.new 1 [3, 1] r lim).calls 1 ⟨#[97]⟩ [1]) ((Cal.new 1 [3, 1] r lim).calls 1 ⟨#[97]⟩ [1]).to um U uc) rfl rfl (Z3.out) rfl Try.sizeM rfl ?_; intro w5 hB hO; have B1 := Lib.hid (hO.out.blk B1.out (by have := SZ.out; omega)); have NB := Lib.hid (NB.out.trans (hO.out.below (by have := SZ.out; omega))); have D1 := Lib.hid ((hO.out.cell (by have := HDL.out; omega)).trans D1.out); have SZ5 := Lib.hid (show w3.heap.size + 1 = w5.heap.size from by rw [hO.out.size]; rw [SZ4.out]); clear hB hO))
  have HST : Hid (OSt w1 w1.heap.size w5.heap.size N nc d0 ((Cal.new 1 [3, 1] r lim).calls 1 ⟨#[97]⟩ [1]) 1 (some d0) fc w5) := Lib.hid ⟨B1.out, NB.out, D1.out, Nat.le_refl _⟩
  have HOB : Hid (Ob lim (some d0) fc ((Cal.new 1 [3, 1] r lim).calls 1 ⟨#[97]⟩ [1]) 0 0 1 (some d0) fc) := Lib.hid ⟨⟨HM.out.c1, HM.out.c2, HM.out.n0, HM.out.r1, HM.out.r2, HM.out.l1, HM.out.nodes, HM.out.a0, HM.out.a1, HM.out.t0, HM.out.t1, by show (0 : Int) ≤ 0; omega, by show (0 : Int) ≤ lim; omega, by show 0 + 1 < 4611686018427387904; omega⟩, rfl, rfl, rfl, .inl ⟨rfl, rfl, rfl, rfl, rfl, rfl, rfl, rfl⟩⟩
  have HGL := Lib.hid (show w1.heap.size < w5.heap.size from by have := SZ.out; have := SZ5.out; omega)
  have HDL5 := Lib.hid (show d0.block < w5.heap.size from by have := HDL.out; have := SZ5.out; omega)
  obtain ⟨L, hL⟩ : ∃ L, w5.heap.size = L := ⟨_, rfl⟩
  rw [hL] at HST HGL HDL5
  clear B1 NB D1 SZ SZ4 SZ5 Z3 HDL hL e1 e2 e4 e5 h1 h2
  go_loopw [11, 12, 13, 14, 15] (fun va vt vi _ _ wr => ∃ (i : Nat) (t ans : Int) (c : Cal) (m : Nat) (D : Option Addr) (dc : Nat), i ≤ n ∧ vi = .int .i64 (i : Int) ∧ vt = .int .i64 t ∧ va = .int .i64 ans ∧ 0 ≤ t ∧ t ≤ i ∧ 0 ≤ ans ∧ ans ≤ 1 ∧ Hid (Ob lim (some d0) fc c t ans m D dc) ∧ Hid (OSt w1 w1.heap.size L N nc d0 c m D dc wr)) (fun _ _ vi _ _ _ => n - (intOf vi).toNat)
  case atStart => exact ⟨0, 0, 0, ((Cal.new 1 [3, 1] r lim).calls 1 ⟨#[97]⟩ [1]), 1, some d0, fc, by omega, rfl, rfl, rfl, by omega, by omega, by omega, by omega, HOB, HST⟩
  case round =>
    obtain ⟨i, t, ans, c, m, D, dc, hi, rfl, rfl, rfl, ht0, ht1, ha0, ha1, hob, hst⟩ := hrel
    clear HST HOB
    by_cases hlt : i < n
    · obtain ⟨ad, ms, kind, rfl, hmb, hmi, hmc⟩ := hms.out i hlt
      have bW := Lib.hid (BB.out.trans (hst.out.nb.mono BB.out.size))
      have HMI := Lib.hid (hmi.later bW.out)
      have hbw := Lib.hid ((Below.refl wr.heap.size wr).alloc (Nat.le_refl _) (.cells #[.int .i64 0, .slice none 0 0, .slice none 0 0] 47))
      have st1 := Lib.hid (hst.out.later hbw.out HGL.out HDL5.out)
      have HMI1 := Lib.hid (hmi.later (bW.out.trans (hbw.out.mono bW.out.size)))
      have HMC : Hid (∀ j v, ms[j]? = some v → (wr.alloc (.cells #[.int .i64 0, .slice none 0 0, .slice none 0 0] 47)).cell? ((ad.add (i * 27)).add j) = some v) := Lib.hid fun j v hv => by
        have h0 := ((bW.out.trans (hbw.out.mono bW.out.size)).cell (p := (ad.add (i * 27)).add j) (by rw [block_of_add, block_of_add]; exact hmb)).trans (hmc j v hv)
        exact h0
      have K1 : Hid (Blk (wr.alloc (.cells #[.int .i64 0, .slice none 0 0, .slice none 0 0] 47)) wr.heap.size 47 #[.int .i64 0, .slice none 0 0, .slice none 0 0]) := Lib.hid (Blk.new wr 47 #[.int .i64 0, .slice none 0 0, .slice none 0 0])
      have kc : (wr.alloc (.cells #[.int .i64 0, .slice none 0 0, .slice none 0 0] 47)).cell? (ad.add (i * 27)) = some (.int .i64 kind) := by
        have h0 := HMC.out 0 _ hmi.kind
        rwa [show (ad.add (i * 27)).add 0 = ad.add (i * 27) from by simp [Addr.add]] at h0
      have hg : w1.heap.size < wr.heap.size := by have := HGL.out; have := hst.out.sz; omega
      have HG := Lib.hid hg
      have HDK := Lib.hid (show d0.block ≠ wr.heap.size from by have := HDL5.out; have := hst.out.sz; omega)
      clear hmi hmc hmb bW HMI hg
      obtain ⟨b, hop⟩ : ∃ b, c.opn = b := ⟨_, rfl⟩
      have y5 : (wr.alloc (.cells #[.int .i64 0, .slice none 0 0, .slice none 0 0] 47)).cell? ⟨w1.heap.size, 5, none⟩ = some (.bool c.opn) := st1.out.B.cell 5
      rw [hop] at y5
      by_cases hk : kind = 0
      · subst hk
        cases b
        · go_wp2_with (first
            | (refine wpl_load_blk rfl 40 (.tmp 7) rfl w1.heap.size 40 _ _ rfl st1.out.B Try.underlying40 rfl Try.sizeC ?_)
            | (go_at_call 13; have cin := Lib.hid (st1.out.calin hob.out RN.out q1 q2 f1 f2); refine (tick_any cin hob.out).mono ?_; rintro e w6 ⟨c', ans', m', D', dc', code, L', E, em, ec, G, gm, gc, rfl, hb, hob', hcs⟩; have st2 := Lib.hid (st1.out.later hb HGL.out HDL5.out); have K2 := Lib.hid (K1.out.below hb K1.out.lt); have HOB2 := Lib.hid hob'; have HCS := Lib.hid hcs; clear hb hob' hcs cin)
            | (refine wpl_store_blk rfl 40 (.tmp 7) (.tmp 84) rfl w1.heap.size 40 (c.cs 2 N nc m D dc) (c'.cs 2 N nc m' D' dc') rfl rfl (st2.out.B) rfl Try.sizeC rfl ?_; intro w7 hB hO; have st3 := Lib.hid (st2.out.step hO.out hB.out HDN.out); have K3 := Lib.hid (hO.out.blk K2.out (by have := HG.out; omega)); clear hB hO)
            | (refine wpl_store_blk rfl 47 (.tmp 14) (.tmp 86) rfl wr.heap.size 47 (#[.int .i64 0, .slice none 0 0, .slice none 0 0]) (#[.int .i64 code, .slice E em ec, .slice G gm gc]) rfl rfl (K3.out) rfl Try.sizeA rfl ?_; intro w8 hB hO; have st4 := Lib.hid (st3.out.only hO.out HG.out HDK.out); have z0 : w8.cell? ⟨wr.heap.size, 0, none⟩ = some (.int .i64 code) := hB.out.cell 0; have ZQ := Lib.hid (show w8.cell? ⟨w1.heap.size, 5, none⟩ = some (.bool c'.opn) from st4.out.B.cell 5); clear hB hO; obtain ⟨rfl, rfl, z5⟩ := step_false HCS.out hop ZQ.out))
          exact ⟨⟨i + 1, t + 1, _, c', m', D', dc', by omega, by go_num, rfl, rfl, by omega, by omega, ha0, ha1, HOB2, st4⟩, by simp [intOf]; omega⟩
        · go_wp2_with (first
            | (refine wpl_load_blk rfl 40 (.tmp 7) rfl w1.heap.size 40 _ _ rfl st1.out.B Try.underlying40 rfl Try.sizeC ?_)
            | (go_at_call 13; have cin := Lib.hid (st1.out.calin hob.out RN.out q1 q2 f1 f2); refine (tick_any cin hob.out).mono ?_; rintro e w6 ⟨c', ans', m', D', dc', code, L', E, em, ec, G, gm, gc, rfl, hb, hob', hcs⟩; have st2 := Lib.hid (st1.out.later hb HGL.out HDL5.out); have K2 := Lib.hid (K1.out.below hb K1.out.lt); have HOB2 := Lib.hid hob'; have HCS := Lib.hid hcs; clear hb hob' hcs cin)
            | (refine wpl_store_blk rfl 40 (.tmp 7) (.tmp 84) rfl w1.heap.size 40 (c.cs 2 N nc m D dc) (c'.cs 2 N nc m' D' dc') rfl rfl (st2.out.B) rfl Try.sizeC rfl ?_; intro w7 hB hO; have st3 := Lib.hid (st2.out.step hO.out hB.out HDN.out); have K3 := Lib.hid (hO.out.blk K2.out (by have := HG.out; omega)); clear hB hO)
            | (refine wpl_store_blk rfl 47 (.tmp 14) (.tmp 86) rfl wr.heap.size 47 (#[.int .i64 0, .slice none 0 0, .slice none 0 0]) (#[.int .i64 code, .slice E em ec, .slice G gm gc]) rfl rfl (K3.out) rfl Try.sizeA rfl ?_; intro w8 hB hO; have st4 := Lib.hid (st3.out.only hO.out HG.out HDK.out); have z0 : w8.cell? ⟨wr.heap.size, 0, none⟩ = some (.int .i64 code) := hB.out.cell 0; have ZQ := Lib.hid (show w8.cell? ⟨w1.heap.size, 5, none⟩ = some (.bool c'.opn) from st4.out.B.cell 5); clear hB hO; rcases step_true HCS.out hop ZQ.out with ⟨rfl, rfl, z5⟩ | ⟨g1, g2, g3, g4, rfl, rfl, z5⟩))
          · exact ⟨⟨i + 1, t + 1, _, c', m', D', dc', by omega, by go_num, rfl, rfl, by omega, by omega, ha0, ha1, HOB2, st4⟩, by simp [intOf]; omega⟩
          · exact ⟨⟨i + 1, t + 1, 1, c', m', D', dc', by omega, by go_num, rfl, rfl, by omega, by omega, by omega, by omega, HOB2, st4⟩, by simp [intOf]; omega⟩
      · have ek : (kind == 0) = false := by simp; omega
        cases b
        · go_wp2
          refine wp_region_late (S0 := fun _ => True) (S := fun w' => Blk w' w1.heap.size 40 (c.cs 2 N nc m D dc) ∧ ∀ j v, ms[j]? = some v → w'.cell? ((ad.add (i * 27)).add j) = some v) 10 12 (by kernel_rfl) rfl ⟨trivial, st1.out.B.drew, HMC.out⟩ (fun wd hwd hH => ?_)
          have DW := Lib.hid (show Below (wr.alloc (.cells #[.int .i64 0, .slice none 0 0, .slice none 0 0] 47)).heap.size (wr.alloc (.cells #[.int .i64 0, .slice none 0 0, .slice none 0 0] 47)) wd from by rw [hwd]; exact (Below.refl _ _).drew)
          clear hwd
          have st1 := Lib.hid (st1.out.later DW.out HGL.out HDL5.out)
          have K1 := Lib.hid (K1.out.below DW.out K1.out.lt)
          have HMI2 := Lib.hid (HMI1.out.later DW.out)
          clear y5 kc
          refine wpAnyT_take 0 rfl (by kernel_rfl) (fun _ _ _ h => h) (yields_load_blk rfl 40 (.tmp 7) rfl w1.heap.size 40 (c.cs 2 N nc m D dc) _ rfl (fun w' hw' => hw'.1) Try.underlying40 rfl Try.sizeC) hH ?_
          try simp only [Act.put, List.setIfInBounds_toArray, List.set_cons_zero, List.set_cons_succ]
          refine wpAnyT_stay 1 (v := ?_) rfl (by kernel_rfl) (fun _ _ _ h => h) (Or.inl ⟨by rfl, ?_⟩) ⟨hH.1, fun _ => hH.2⟩ ?_
          rotate_left
          · (intro wx hx; obtain _ := hx; go_simp <;> with_reducible rfl)
          try simp only [Act.put, List.setIfInBounds_toArray, List.set_cons_zero, List.set_cons_succ]
          refine wpAnyT_stay 2 (v := ?_) rfl (by kernel_rfl) (fun _ _ _ h => h) (Or.inl ⟨by rfl, ?_⟩) ⟨hH.1, fun _ => hH.2⟩ ?_
          rotate_left
          · (intro wx hx; obtain _ := hx; go_simp <;> with_reducible rfl)
          try simp only [Act.put, List.setIfInBounds_toArray, List.set_cons_zero, List.set_cons_succ]
          refine wpAnyT_stay 3 (v := ?_) rfl (by kernel_rfl) (fun _ _ _ h => h) (Or.inl ⟨by rfl, ?_⟩) ⟨hH.1, fun _ => hH.2⟩ ?_
          rotate_left
          · (intro wx hx; obtain _ := hx; go_simp <;> with_reducible rfl)
          try simp only [Act.put, List.setIfInBounds_toArray, List.set_cons_zero, List.set_cons_succ]
          refine wpAnyT_take 4 rfl (by kernel_rfl) (fun _ _ _ h => h) (yields_load_at rfl 38 (.tmp 93) rfl (ad.add (i * 27)) ms _ rfl (fun w' hw' => hw'.2) Try.underlying38 rfl (Try.sizeM.trans (congrArg some HMI2.out.size.symm))) hH ?_
          try simp only [Act.put, List.setIfInBounds_toArray, List.set_cons_zero, List.set_cons_succ]
          refine wpAnyT_one 5 rfl (by kernel_rfl) (fun K hK => ?_)
          go_simp
          (go_at_call 10; have cin := Lib.hid (st1.out.calin hob.out RN.out q1 q2 f1 f2); refine (got_any ms kind cin hob.out HMI2.out).mono ?_; rintro e w6 ⟨c', ans', m', D', dc', code, L', E, em, ec, G, gm, gc, rfl, hb, hob', hcs⟩; have hb6 := Lib.hid hb; have st2 := Lib.hid (st1.out.later hb HGL.out HDL5.out); have K2 := Lib.hid (K1.out.below hb K1.out.lt); have HOB2 := Lib.hid hob'; have HCS := Lib.hid hcs; clear hb hob' hcs cin)
          refine hK.out _ _ ⟨trivial, st2.out.B, fun j v hv => (hb6.out.cell (World.block_lt_of_cell? _ _ (hH.2.2 j v hv))).trans (hH.2.2 j v hv)⟩ (fun hH5 => ?_)
          clear hK K hH
          try simp only [Act.put, List.setIfInBounds_toArray, List.set_cons_zero, List.set_cons_succ]
          refine wpAnyT_stay 6 (v := ?_) rfl (by kernel_rfl) (fun _ _ _ h => h) (Or.inl ⟨by rfl, ?_⟩) ⟨hH5.1, fun _ => hH5.2⟩ ?_
          rotate_left
          · (intro wx hx; obtain _ := hx; go_simp <;> with_reducible rfl)
          try simp only [Act.put, List.setIfInBounds_toArray, List.set_cons_zero, List.set_cons_succ]
          refine wpAnyT_stay 7 (v := ?_) rfl (by kernel_rfl) (fun _ _ _ h => h) (Or.inl ⟨by rfl, ?_⟩) ⟨hH5.1, fun _ => hH5.2⟩ ?_
          rotate_left
          · (intro wx hx; obtain _ := hx; go_simp <;> with_reducible rfl)
          try simp only [Act.put, List.setIfInBounds_toArray, List.set_cons_zero, List.set_cons_succ]
          refine wpAnyT_stay 8 (v := ?_) rfl (by kernel_rfl) (fun _ _ _ h => h) (Or.inl ⟨by rfl, ?_⟩) ⟨hH5.1, fun _ => hH5.2⟩ ?_
          rotate_left
          · (intro wx hx; obtain _ := hx; go_simp <;> with_reducible rfl)
          try simp only [Act.put, List.setIfInBounds_toArray, List.set_cons_zero, List.set_cons_succ]
          refine wpAnyT_stay 9 (v := ?_) rfl (by kernel_rfl) (fun _ _ _ h => h) (Or.inl ⟨by rfl, ?_⟩) ⟨hH5.1, fun _ => hH5.2⟩ ?_
          rotate_left
          · (intro wx hx; obtain _ := hx; go_simp <;> with_reducible rfl)
          try simp only [Act.put, List.setIfInBounds_toArray, List.set_cons_zero, List.set_cons_succ]
          refine wpAnyT_last 10 rfl (by kernel_rfl) (by decide) (fun K hK => ?_)
          refine step_store_blk rfl 40 (.tmp 7) (.tmp 96) rfl w1.heap.size 40 (c.cs 2 N nc m D dc) (c'.cs 2 N nc m' D' dc') rfl rfl st2.out.B rfl Try.sizeC rfl ?_
          intro w7 hB hO
          have st3 := Lib.hid (st2.out.step hO.out hB.out HDN.out)
          have K3 := Lib.hid (hO.out.blk K2.out (by have := HG.out; omega))
          clear hB hO
          refine hK.out _ _ trivial (fun hH10 => ?_)
          clear hK K
          try simp only [Act.put]
          refine wpAnyT_last 11 rfl (by kernel_rfl) (by decide) (fun K hK => ?_)
          refine step_store_blk rfl 47 (.tmp 14) (.tmp 98) rfl wr.heap.size 47 #[.int .i64 0, .slice none 0 0, .slice none 0 0] #[.int .i64 code, .slice E em ec, .slice G gm gc] rfl rfl K3.out rfl Try.sizeA rfl ?_
          intro w8 hB hO
          have st4 := Lib.hid (st3.out.only hO.out HG.out HDK.out)
          have z0 : w8.cell? ⟨wr.heap.size, 0, none⟩ = some (.int .i64 code) := hB.out.cell 0
          have ZQ := Lib.hid (show w8.cell? ⟨w1.heap.size, 5, none⟩ = some (.bool c'.opn) from st4.out.B.cell 5)
          clear hB hO
          refine hK.out _ _ trivial (fun hH11 => ?_)
          clear hK K
          try simp only [Act.put]
          refine wpAnyT_done (by kernel_rfl) ?_ _
          clear hH5 hH10 hH11 HMC HMI1 HMI2
          obtain ⟨rfl, rfl, z5⟩ := step_false HCS.out hop ZQ.out
          go_wp2
          exact ⟨⟨i + 1, t, _, c', m', D', dc', by omega, by go_num, rfl, rfl, by omega, by omega, ha0, ha1, HOB2, st4⟩, by simp [intOf]; omega⟩
        · go_wp2
          refine wp_region_late (S0 := fun _ => True) (S := fun w' => Blk w' w1.heap.size 40 (c.cs 2 N nc m D dc) ∧ ∀ j v, ms[j]? = some v → w'.cell? ((ad.add (i * 27)).add j) = some v) 10 12 (by kernel_rfl) rfl ⟨trivial, st1.out.B.drew, HMC.out⟩ (fun wd hwd hH => ?_)
          have DW := Lib.hid (show Below (wr.alloc (.cells #[.int .i64 0, .slice none 0 0, .slice none 0 0] 47)).heap.size (wr.alloc (.cells #[.int .i64 0, .slice none 0 0, .slice none 0 0] 47)) wd from by rw [hwd]; exact (Below.refl _ _).drew)
          clear hwd
          have st1 := Lib.hid (st1.out.later DW.out HGL.out HDL5.out)
          have K1 := Lib.hid (K1.out.below DW.out K1.out.lt)
          have HMI2 := Lib.hid (HMI1.out.later DW.out)
          clear y5 kc
          refine wpAnyT_take 0 rfl (by kernel_rfl) (fun _ _ _ h => h) (yields_load_blk rfl 40 (.tmp 7) rfl w1.heap.size 40 (c.cs 2 N nc m D dc) _ rfl (fun w' hw' => hw'.1) Try.underlying40 rfl Try.sizeC) hH ?_
          try simp only [Act.put, List.setIfInBounds_toArray, List.set_cons_zero, List.set_cons_succ]
          refine wpAnyT_stay 1 (v := ?_) rfl (by kernel_rfl) (fun _ _ _ h => h) (Or.inl ⟨by rfl, ?_⟩) ⟨hH.1, fun _ => hH.2⟩ ?_
          rotate_left
          · (intro wx hx; obtain _ := hx; go_simp <;> with_reducible rfl)
          try simp only [Act.put, List.setIfInBounds_toArray, List.set_cons_zero, List.set_cons_succ]
          refine wpAnyT_stay 2 (v := ?_) rfl (by kernel_rfl) (fun _ _ _ h => h) (Or.inl ⟨by rfl, ?_⟩) ⟨hH.1, fun _ => hH.2⟩ ?_
          rotate_left
          · (intro wx hx; obtain _ := hx; go_simp <;> with_reducible rfl)
          try simp only [Act.put, List.setIfInBounds_toArray, List.set_cons_zero, List.set_cons_succ]
          refine wpAnyT_stay 3 (v := ?_) rfl (by kernel_rfl) (fun _ _ _ h => h) (Or.inl ⟨by rfl, ?_⟩) ⟨hH.1, fun _ => hH.2⟩ ?_
          rotate_left
          · (intro wx hx; obtain _ := hx; go_simp <;> with_reducible rfl)
          try simp only [Act.put, List.setIfInBounds_toArray, List.set_cons_zero, List.set_cons_succ]
          refine wpAnyT_take 4 rfl (by kernel_rfl) (fun _ _ _ h => h) (yields_load_at rfl 38 (.tmp 93) rfl (ad.add (i * 27)) ms _ rfl (fun w' hw' => hw'.2) Try.underlying38 rfl (Try.sizeM.trans (congrArg some HMI2.out.size.symm))) hH ?_
          try simp only [Act.put, List.setIfInBounds_toArray, List.set_cons_zero, List.set_cons_succ]
          refine wpAnyT_one 5 rfl (by kernel_rfl) (fun K hK => ?_)
          go_simp
          (go_at_call 10; have cin := Lib.hid (st1.out.calin hob.out RN.out q1 q2 f1 f2); refine (got_any ms kind cin hob.out HMI2.out).mono ?_; rintro e w6 ⟨c', ans', m', D', dc', code, L', E, em, ec, G, gm, gc, rfl, hb, hob', hcs⟩; have hb6 := Lib.hid hb; have st2 := Lib.hid (st1.out.later hb HGL.out HDL5.out); have K2 := Lib.hid (K1.out.below hb K1.out.lt); have HOB2 := Lib.hid hob'; have HCS := Lib.hid hcs; clear hb hob' hcs cin)
          refine hK.out _ _ ⟨trivial, st2.out.B, fun j v hv => (hb6.out.cell (World.block_lt_of_cell? _ _ (hH.2.2 j v hv))).trans (hH.2.2 j v hv)⟩ (fun hH5 => ?_)
          clear hK K hH
          try simp only [Act.put, List.setIfInBounds_toArray, List.set_cons_zero, List.set_cons_succ]
          refine wpAnyT_stay 6 (v := ?_) rfl (by kernel_rfl) (fun _ _ _ h => h) (Or.inl ⟨by rfl, ?_⟩) ⟨hH5.1, fun _ => hH5.2⟩ ?_
          rotate_left
          · (intro wx hx; obtain _ := hx; go_simp <;> with_reducible rfl)
          try simp only [Act.put, List.setIfInBounds_toArray, List.set_cons_zero, List.set_cons_succ]
          refine wpAnyT_stay 7 (v := ?_) rfl (by kernel_rfl) (fun _ _ _ h => h) (Or.inl ⟨by rfl, ?_⟩) ⟨hH5.1, fun _ => hH5.2⟩ ?_
          rotate_left
          · (intro wx hx; obtain _ := hx; go_simp <;> with_reducible rfl)
          try simp only [Act.put, List.setIfInBounds_toArray, List.set_cons_zero, List.set_cons_succ]
          refine wpAnyT_stay 8 (v := ?_) rfl (by kernel_rfl) (fun _ _ _ h => h) (Or.inl ⟨by rfl, ?_⟩) ⟨hH5.1, fun _ => hH5.2⟩ ?_
          rotate_left
          · (intro wx hx; obtain _ := hx; go_simp <;> with_reducible rfl)
          try simp only [Act.put, List.setIfInBounds_toArray, List.set_cons_zero, List.set_cons_succ]
          refine wpAnyT_stay 9 (v := ?_) rfl (by kernel_rfl) (fun _ _ _ h => h) (Or.inl ⟨by rfl, ?_⟩) ⟨hH5.1, fun _ => hH5.2⟩ ?_
          rotate_left
          · (intro wx hx; obtain _ := hx; go_simp <;> with_reducible rfl)
          try simp only [Act.put, List.setIfInBounds_toArray, List.set_cons_zero, List.set_cons_succ]
          refine wpAnyT_last 10 rfl (by kernel_rfl) (by decide) (fun K hK => ?_)
          refine step_store_blk rfl 40 (.tmp 7) (.tmp 96) rfl w1.heap.size 40 (c.cs 2 N nc m D dc) (c'.cs 2 N nc m' D' dc') rfl rfl st2.out.B rfl Try.sizeC rfl ?_
          intro w7 hB hO
          have st3 := Lib.hid (st2.out.step hO.out hB.out HDN.out)
          have K3 := Lib.hid (hO.out.blk K2.out (by have := HG.out; omega))
          clear hB hO
          refine hK.out _ _ trivial (fun hH10 => ?_)
          clear hK K
          try simp only [Act.put]
          refine wpAnyT_last 11 rfl (by kernel_rfl) (by decide) (fun K hK => ?_)
          refine step_store_blk rfl 47 (.tmp 14) (.tmp 98) rfl wr.heap.size 47 #[.int .i64 0, .slice none 0 0, .slice none 0 0] #[.int .i64 code, .slice E em ec, .slice G gm gc] rfl rfl K3.out rfl Try.sizeA rfl ?_
          intro w8 hB hO
          have st4 := Lib.hid (st3.out.only hO.out HG.out HDK.out)
          have z0 : w8.cell? ⟨wr.heap.size, 0, none⟩ = some (.int .i64 code) := hB.out.cell 0
          have ZQ := Lib.hid (show w8.cell? ⟨w1.heap.size, 5, none⟩ = some (.bool c'.opn) from st4.out.B.cell 5)
          clear hB hO
          refine hK.out _ _ trivial (fun hH11 => ?_)
          clear hK K
          try simp only [Act.put]
          refine wpAnyT_done (by kernel_rfl) ?_ _
          clear hH5 hH10 hH11 HMC HMI1 HMI2
          rcases step_true HCS.out hop ZQ.out with ⟨rfl, rfl, z5⟩ | ⟨g1, g2, g3, g4, rfl, rfl, z5⟩
          · go_wp2
            exact ⟨⟨i + 1, t, _, c', m', D', dc', by omega, by go_num, rfl, rfl, by omega, by omega, ha0, ha1, HOB2, st4⟩, by simp [intOf]; omega⟩
          · go_wp2
            exact ⟨⟨i + 1, t, 1, c', m', D', dc', by omega, by go_num, rfl, rfl, by omega, by omega, by omega, by omega, HOB2, st4⟩, by simp [intOf]; omega⟩
    · obtain rfl : i = n := by omega
      go_wp2
      go_loopw [11, 16, 17, 18, 19] (fun va vi _ _ _ wr => ∃ (t ans : Int) (c : Cal) (m : Nat) (D : Option Addr) (dc : Nat), vi = .int .i64 t ∧ va = .int .i64 ans ∧ 0 ≤ t ∧ t ≤ 501 ∧ 0 ≤ ans ∧ ans ≤ 1 ∧ Hid (Ob lim (some d0) fc c t ans m D dc) ∧ Hid (OSt w1 w1.heap.size L N nc d0 c m D dc wr)) (fun _ vi _ _ _ _ => (lim + 1 - intOf vi).toNat)
      case atStart => exact ⟨t, ans, c, m, D, dc, rfl, rfl, ht0, by omega, ha0, ha1, hob, hst⟩
      case round =>
        clear hob hst ht0 ht1 ha0 ha1
        obtain ⟨t, ans, c, m, D, dc, rfl, rfl, ht0, ht1, ha0, ha1, hob, hst⟩ := hrel
        by_cases hlt : t ≤ lim
        · go_wp2_with (first
            | (refine wpl_load_blk rfl 40 (.tmp 7) rfl w1.heap.size 40 _ _ rfl hst.out.B Try.underlying40 rfl Try.sizeC ?_)
            | (go_at_call 13; have cin := Lib.hid (hst.out.calin hob.out RN.out q1 q2 f1 f2); refine (tick_any cin hob.out).mono ?_; rintro e w6 ⟨c', ans', m', D', dc', code, L', E, em, ec, G, gm, gc, rfl, hb, hob', hcs⟩; have st2 := Lib.hid (hst.out.later hb HGL.out HDL5.out); have HOB2 := Lib.hid hob'; have HCS := Lib.hid (step_two hcs); clear hb hob' hcs cin)
            | (refine wpl_store_blk rfl 40 (.tmp 17) (.tmp 140) rfl w6.heap.size 40 (#[.int .u64 0, .slice none 0 0, .int .i64 0, .int .i64 0, .int .u64 0, .bool false, .int .i64 0, .string ⟨#[]⟩, .slice none 0 0, .int .i64 0, .int .i64 0, .int .i64 0]) (c'.cs 2 N nc m' D' dc') rfl rfl ((Blk.new _ _ _).alloc _) rfl Try.sizeC rfl ?_; intro w7 hB hO; have st3 := Lib.hid ((st2.out.later (((Below.refl w6.heap.size w6).alloc (Nat.le_refl _) (.cells #[.int .u64 0, .slice none 0 0, .int .i64 0, .int .i64 0, .int .u64 0, .bool false, .int .i64 0, .string ⟨#[]⟩, .slice none 0 0, .int .i64 0, .int .i64 0, .int .i64 0] 40)).alloc (by simp) (.cells #[.int .i64 0, .slice none 0 0, .slice none 0 0] 47)) HGL.out HDL5.out).only hO.out (by have := HGL.out; have := st2.out.sz; omega) (by have := HDL5.out; have := st2.out.sz; omega)); have K19 := Lib.hid (hO.out.blk (blk_second w6 _ 47 #[.int .i64 0, .slice none 0 0, .slice none 0 0]) (by omega)); have B17 := hB; clear hB hO)
            | (refine wpl_store_blk rfl 47 (.tmp 19) (.tmp 142) rfl (w6.heap.size + 1) 47 (#[.int .i64 0, .slice none 0 0, .slice none 0 0]) (#[.int .i64 code, .slice E em ec, .slice G gm gc]) rfl rfl (K19.out) rfl Try.sizeA rfl ?_; intro w8 hB hO; have st4 := Lib.hid (st3.out.only hO.out (by have := HGL.out; have := st2.out.sz; omega) (by have := HDL5.out; have := st2.out.sz; omega)); have B17 := Lib.hid (hO.out.blk B17.out (by omega)); have K19 := hB; clear hB hO)
            | (refine wpl_load_blk rfl 40 (.tmp 17) rfl w6.heap.size 40 _ _ rfl B17.out Try.underlying40 rfl Try.sizeC ?_)
            | (refine wpl_store_blk rfl 40 (.tmp 7) (.tmp 143) rfl w1.heap.size 40 (c.cs 2 N nc m D dc) (c'.cs 2 N nc m' D' dc') rfl rfl (st4.out.B) rfl Try.sizeC rfl ?_; intro w9 hB hO; have st5 := Lib.hid (st4.out.step hO.out hB.out HDN.out); have z0 : w9.cell? ⟨w6.heap.size + 1, 0, none⟩ = some (.int .i64 code) := (hO.out.blk K19.out (by have := HGL.out; have := st2.out.sz; omega)).cell 0; clear hB hO; rcases HCS.out with ⟨rfl, rfl⟩ | ⟨g1, rfl, rfl⟩))
          · exact ⟨⟨t + 1, _, c', m', D', dc', rfl, rfl, by omega, by omega, ha0, ha1, HOB2, st5⟩, by simp [intOf]; omega⟩
          · exact ⟨⟨t + 1, 1, c', m', D', dc', rfl, rfl, by omega, by omega, by omega, by omega, HOB2, st5⟩, by simp [intOf]; omega⟩
        · have hcl : c.opn = false ∧ ans = 1 ∧ m = 0 ∧ D = none ∧ dc = 0 := by
            rcases hob.out.st with ⟨_, _, _, hw, _⟩ | ⟨h1, _, h2, h3, h4, h5⟩
            · have := hob.out.may.w1
              rw [hob.out.lim] at this
              omega
            · exact ⟨h1, h2, h3, h4, h5⟩
          obtain ⟨hop, rfl, rfl, rfl, rfl⟩ := hcl
          have HOP := Lib.hid hop
          clear hop
          go_wp2_with (first
            | (refine wpl_load_blk rfl 40 (.tmp 7) rfl w1.heap.size 40 _ _ rfl hst.out.B Try.underlying40 rfl Try.sizeC ?_)
            | (go_at_call 11; have cin := Lib.hid (hst.out.calin hob.out RN.out q1 q2 f1 f2); refine (call_yes c 2 N nc 0 none 0 4 ⟨#[]⟩ none 0 0 [] _ cin hob.out.may HOP.out rfl (Lib.hid Reads.none_) (fun x hx => by cases hx) (by omega) callable_list).mono ?_; rintro e w6 ⟨m', F, fc', u, rfl, hm, -, -, -, ⟨um', U', uc', rfl, -⟩, hb⟩; obtain rfl : m' = 0 := hm.symm; have st2 := Lib.hid (hst.out.later hb HGL.out HDL5.out); clear hb hm cin)
            | (refine wpl_store_blk rfl 40 (.tmp 20) (.tmp 152) rfl w6.heap.size 40 (#[.int .u64 0, .slice none 0 0, .int .i64 0, .int .i64 0, .int .u64 0, .bool false, .int .i64 0, .string ⟨#[]⟩, .slice none 0 0, .int .i64 0, .int .i64 0, .int .i64 0]) ((c.calls 4 ⟨#[]⟩ []).cs 2 N nc 0 F fc') rfl rfl ((Blk.new _ _ _).alloc _) rfl Try.sizeC rfl ?_; intro w7 hB hO; have st3 := Lib.hid ((st2.out.later (((Below.refl w6.heap.size w6).alloc (Nat.le_refl _) (.cells #[.int .u64 0, .slice none 0 0, .int .i64 0, .int .i64 0, .int .u64 0, .bool false, .int .i64 0, .string ⟨#[]⟩, .slice none 0 0, .int .i64 0, .int .i64 0, .int .i64 0] 40)).alloc (by simp) (.cells msgZ 38)) HGL.out HDL5.out).only hO.out (by have := HGL.out; have := st2.out.sz; omega) (by have := HDL5.out; have := st2.out.sz; omega)); have K19 := Lib.hid (hO.out.blk (blk_second w6 _ 38 msgZ) (by omega)); clear hB hO)
            | (refine wpl_store_blk rfl 38 (.tmp 21) (.tmp 153) rfl (w6.heap.size + 1) 38 (msgZ) (askCs (c.calls 4 ⟨#[]⟩ []) (c.calls 4 ⟨#[]⟩ []).to um' U' uc') rfl rfl (K19.out) rfl Try.sizeM rfl ?_; intro w8 hB hO; have st4 := Lib.hid (st3.out.only hO.out (by have := HGL.out; have := st2.out.sz; omega) (by have := HDL5.out; have := st2.out.sz; omega)); have z5 : w8.cell? ⟨w1.heap.size, 5, none⟩ = some (.bool false) := (show w8.cell? ⟨w1.heap.size, 5, none⟩ = some (.bool c.opn) from st4.out.B.cell 5).trans (congrArg (fun b => some (Value.bool b)) HOP.out); clear hB hO)
            | (go_at_call 9; refine (heads_true _).mono ?_; rintro e w9 ⟨rfl, hb⟩; have HB9 := Lib.hid hb; clear hb))
          go_ret
          exact ⟨rfl, bel_trans (BB.out.trans (st4.out.nb.mono BB.out.size)) HB9.out⟩
end Go.Proofs.Ytmamdnikjfmenaa
