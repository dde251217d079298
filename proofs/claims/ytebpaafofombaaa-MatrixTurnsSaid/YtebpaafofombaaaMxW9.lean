/-
  Apply.
-/
import Derived.Test.YtebpaafofombaaaMxW8
namespace Go.Proofs.Ytebpaafofombaaa
open Go.RowKit GfMath MxMath
set_option linter.unusedVariables false
/-- A row of bytes that grows, beside the call's Errno. -/
structure BSt (w : World) (v : Value) (xs : List Nat) (wr : World) : Prop where
  own : wr.ownsRow w.heap.size 5 1 v xs.length (xs.map bv)
  bel : Below w.heap.size w wr
  err : Blk wr w.heap.size 26 #[.int .i64 0]
theorem BSt.new (w : World) : BSt w (.slice none 0 0) [] (w.alloc (.cells #[.int .i64 0] 26)) := ⟨⟨rfl, .inl ⟨rfl, rfl⟩⟩, (Below.refl _ _).alloc (Nat.le_refl _) _, Blk.new _ _ _⟩
theorem BSt.later {w wr w' : World} {v : Value} {xs : List Nat} (h : BSt w v xs wr) (hb : Below wr.heap.size wr w') : BSt w v xs w' := ⟨own_below h.own hb, h.bel.trans (hb.mono h.bel.size), h.err.below hb h.err.lt⟩
theorem BSt.ends {w wr : World} {v : Value} {xs : List Nat} (h : BSt w v xs wr) (c : Int) : (wr.setCell ⟨w.heap.size, 0, none⟩ (.int .i64 c)).ownsRow w.heap.size 5 1 v xs.length (xs.map bv) ∧ Below w.heap.size w (wr.setCell ⟨w.heap.size, 0, none⟩ (.int .i64 c)) ∧
    (wr.setCell ⟨w.heap.size, 0, none⟩ (.int .i64 c)).cell? ⟨w.heap.size, 0, none⟩ = some (.int .i64 c) :=
  ⟨own_far h.own (own_blk_ne h.own h.err (by decide)) _, h.bel.setCell (by simp) _, World.cell?_setCell_same _ _ _ (h.err.cell 0)⟩
theorem wpl_byte {ops : Array Oper} {rest : List Oper} {o : Oper} {a : Act} {Q : Exit → Act → World → Prop} {w wr : World} {v : Value} {xs : List Nat} (hg : o.guard = none) (s x : Operand)
    (ho : o.op = .call { callee := .builtin .append, args := #[s, x], argTypes := #[22, 22] }) (hst : BSt w v xs wr) (hl : xs.length ≤ 1000) (y : Nat)
    (hs : a.eval s = v) {gx : Nat} (hgx : gx = wr.heap.size) (hx : a.eval x = .slice (some ⟨gx, 0, none⟩) 1 1)
    (h : ∀ v' w', Hid (BSt w v' (xs ++ [y]) w') → wpList Try.prog ops Q rest (a.put o.dst v') w') : wpList Try.prog ops Q (o :: rest) a (wr.alloc (.cells #[.int .u8 (y : Nat)] 5)) := by
  subst hgx
  obtain ⟨i, hi, h2, h3, h4⟩ := info_parts Try.info5
  obtain ⟨hown, hbel, herr⟩ := hst.later ((Below.refl _ _).alloc (Nat.le_refl _) (.cells #[.int .u8 (y : Nat)] 5))
  refine wpList_append_any _ hg s x 22 ho w.heap.size 5 i (.int .u8 0) 1 1 Try.underlying22 hi h2 h3 h4 rfl (by decide) v xs.length (xs.map bv) hs hown (wr.heap.size + 1) (some ⟨wr.heap.size, 0, none⟩) 1 1 [bv y] hx
    (Reads.lit1 wr 5 (bv y)) (bv_one [y]) (by unfold maxLen; omega) (by omega) hbel.size fun v' w' k1 k2 k3 => h v' w' (Lib.hid ⟨?_, ?_, ?_⟩)
  · rw [List.length_append, List.map_append]; exact k1
  · exact bel_grown_own hbel hbel.size hown k2
  · exact herr.grown k2 fun e => own_blk_ne hown herr (by decide) e.symm
/-- A row and an Errno that are answered. -/
def RetRowE (r : Nat) (f : Nat → El) (code : Int) (w : World) (e : Ending) (w' : World) : Prop :=
  ∃ A cap, e = .returned (.tuple #[.slice A r cap, .int .i64 code]) ∧ r ≤ cap ∧ cap ≤ maxLen ∧ w'.ownsRow w.heap.size 5 1 (.slice A r cap) r ((lrow r f).map bv) ∧ Below w.heap.size w w'
set_option maxRecDepth 100000 in
set_option maxHeartbeats 1000000 in
theorem apply_ok (A B : Option Addr) (ca cb r n : Nat) (M : Mat) (f : Nat → El) (w : World) (HA : Hid (InM w A ca (lmat r n M))) (HB : Hid (Reads w w.heap.size 1 B n ((lrow n f).map bv))) (r0 : 0 < r) (r1 : r ≤ 255) (n0 : 0 < n) (n1 : n ≤ 255) :
    Calls Try.prog 21 #[.slice A r ca, .slice B n cb] w (RetRowE r (fun i => fsum n (fun j => M i j * f j)) 0 w) := by
  have HST : Hid (BSt w (.slice none 0 0) (lrow 0 (fun i => fsum n (fun j => M i j * f j))) (w.alloc (.cells #[.int .i64 0] 26))) := Lib.hid (BSt.new w)
  have HA1 := Lib.hid (HA.out.later HST.out.bel)
  go_enter_defers Try.func21, Try.ntmps21
  go_wp2_with (first
    | (go_at_call 32; refine (needs_ok _).mono ?_; rintro e w1 ⟨rfl, rfl⟩)
    | (go_at_call 33; refine (sized_mat _ _ _ _ _ _ HA1 (by assumption) (by assumption) (by assumption) (by assumption)).mono ?_; rintro e w1 ⟨rfl, rfl⟩))
  generalize w.alloc (.cells #[.int .i64 0] 26) = wa at *
  go_loopw [4, 9, 10, 11, 12, 25] (fun vo _ _ _ _ vi wr => ∃ k : Nat, k ≤ r ∧ vi = .int .i64 k ∧ Hid (BSt w vo (lrow k (fun i => fsum n (fun j => M i j * f j))) wr)) (fun _ _ _ _ _ vi _ => r - (intOf vi).toNat)
  case atStart => exact ⟨0, by omega, rfl, HST⟩
  case round =>
    obtain ⟨k, hk, rfl, hst⟩ := hrel
    clear HST HA1
    by_cases hlt : k < r
    · obtain ⟨ad, D, c', rfl, hc1, h3, h4, hrow⟩ := (HA.out.later hst.out.bel).mrow hlt
      have HRow := Lib.hid hrow
      have HBr := Lib.hid (HB.out.later hst.out.bel)
      clear hrow
      go_wp2
      go_loopw [10, 11, 12, 31] (fun vx _ _ vi w' => ∃ j : Nat, j ≤ n ∧ vi = .int .i64 j ∧ vx = .int .u8 (fsum j (fun j => M k j * f j)).v ∧ w' = wr) (fun _ _ _ vi _ => n - (intOf vi).toNat)
      case atStart => exact ⟨0, by omega, rfl, rfl, by first | rfl | trivial⟩
      case round =>
        obtain ⟨j, hj, rfl, rfl, rfl⟩ := hrel
        by_cases hjl : j < n
        · obtain ⟨a1, rfl, _, hd1⟩ := HRow.out.elem hjl
          obtain ⟨a2, rfl, _, hd2⟩ := HBr.out.elem hjl
          have hxx := xor8 (fsum j (fun j => M k j * f j)).v (gmul (M k j).v (f j).v) (El.lt _) (gmul_lt (M k j).lt)
          have hs : (((fsum j (fun j => M k j * f j)).v ^^^ gmul (M k j).v (f j).v : Nat)) = (fsum (j + 1) (fun j => M k j * f j)).v := rfl
          rw [hs] at hxx
          clear hs
          go_wp2_with (go_at_call 40; refine (mul_any (M k j).v (f j).v (M k j).lt (f j).lt _).mono ?_; rintro e w1 ⟨rfl, rfl⟩)
          exact ⟨⟨j + 1, by omega, by go_num, rfl, by first | rfl | trivial⟩, by simp [intOf]; omega⟩
        · obtain rfl : j = n := by omega
          go_wp2_with (at_builtin
                       refine wpl_byte rfl (.tmp 45) (.tmp 47) rfl hst.out ?ln (fsum j (fun j => M k j * f j)).v rfl ?gx rfl ?_
                       case gx => rfl
                       case ln => (rw [lrow_len]; omega)
                       intro v2 w2 hh)
          refine ⟨⟨k + 1, by omega, by go_num, Lib.hid ?_⟩, by simp [intOf]; omega⟩
          rw [lrow_snoc]; exact hh.out
    · obtain rfl : k = r := by omega
      have hcE := hst.out.err.cell 0
      have hfE := hst.out.err.frozen 0
      have hEnd := hst.out.ends 0
      rw [lrow_len] at hEnd
      obtain ⟨C, d, rfl, q1, q2⟩ := own_slice hEnd.1
      have HEnd := Lib.hid hEnd
      clear hEnd
      go_wp2
      have hx := HEnd.out.2.2
      refine leaves_cons (f := 31) (args := #[.pointer (some ⟨w.heap.size, 0, none⟩)]) (by simp) (by simp [go_sem]) ?_
      refine (refused_idle _ _).mono ?_
      rintro e u' w'' ⟨rfl, rfl, rfl⟩
      simp [Leaves, settle, results, Try.results21, go_sem, hx]
      exact ⟨C, d, rfl, q1, q2, HEnd.out.1, HEnd.out.2.1⟩
end Go.Proofs.Ytebpaafofombaaa
