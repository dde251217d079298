/-
  The walks of what With calls: a count of members below a number, a copy of members.
-/
import Derived.Test.YtmdffmajnbokeaaPlIn
namespace Go.Proofs.Ytmdffmajnbokeaa
open Go.RowKit StrMath PlMath
set_option linter.unusedVariables false
/-- How many members have a number below one. -/
def lessN (ms : List Mem) (id : Int) : Nat := (ms.filter fun x => decide (x.1 < id)).length
theorem lessN_take (ms : List Mem) (id : Int) (k : Nat) (h : k < ms.length) : lessN (ms.take (k + 1)) id = lessN (ms.take k) id + if (ms.getD k (0, 0)).1 < id then 1 else 0 := by
  unfold lessN
  rw [List.take_succ_eq_append_getElem h, List.filter_append, List.length_append, List.getD_eq_getElem?_getD, List.getElem?_eq_getElem h]
  simp only [Option.getD_some]
  congr 1
  rw [List.filter_cons]
  split <;> simp_all
theorem lessN_le (ms : List Mem) (id : Int) : lessN ms id ≤ ms.length := List.length_filter_le _ _
theorem lessN_at {ms : List Mem} (hU : Up ms) (k : Nat) (h : k < ms.length) : lessN ms (ms.getD k (0, 0)).1 = k := by
  have hp := List.pairwise_iff_getElem.1 hU.1
  have eg : ms.getD k (0, 0) = ms[k] := by rw [List.getD_eq_getElem?_getD, List.getElem?_eq_getElem h]; rfl
  rw [eg]
  unfold lessN
  have e0 : ms = ms.take k ++ ms.drop k := (List.take_append_drop k ms).symm
  have h1 : (ms.take k).filter (fun x => decide (x.1 < ms[k].1)) = ms.take k := List.filter_eq_self.2 fun x hx => by
    obtain ⟨j, hj, ej⟩ := List.mem_iff_getElem.1 hx
    have hj' : j < k := by rw [List.length_take] at hj; omega
    rw [List.getElem_take] at ej
    have := hp j k (by omega) h hj'
    rw [ej] at this
    simpa using this
  have h2 : (ms.drop k).filter (fun x => decide (x.1 < ms[k].1)) = [] := List.filter_eq_nil_iff.2 fun x hx => by
    obtain ⟨j, hj, ej⟩ := List.mem_iff_getElem.1 hx
    rw [List.getElem_drop] at ej
    rw [List.length_drop] at hj
    by_cases e : j = 0
    · subst e
      simp only [Nat.add_zero] at ej
      rw [ej]; simp
    · have := hp k (k + j) h (by omega) (by omega)
      rw [ej] at this
      simp; omega
  rw [show ms.filter (fun x => decide (x.1 < ms[k].1)) = (ms.take k ++ ms.drop k).filter (fun x => decide (x.1 < ms[k].1)) from congrArg (List.filter fun x => decide (x.1 < ms[k].1)) e0]
  rw [List.filter_append, h1, h2, List.append_nil, List.length_take]
  omega
set_option maxRecDepth 100000 in
theorem less_any (b : Nat) (id wt x : Int) (w : World) (hc : w.cell? ⟨b, 0, none⟩ = some (.int .i64 x)) (hs : b < w.heap.size) : Calls Try.prog 32 #[.agg #[.int .i64 id, .int .i64 wt], .pointer (some ⟨b, 0, none⟩)] w fun e w' => e = .returned (.bool (decide (id < x))) ∧ Below w.heap.size w w' := by
  go_enter Try.func32, Try.ntmps32
  go_wp2
  go_ret
  exact ⟨rfl, (Below.refl _ _).alloc (Nat.le_refl _) _⟩
set_option maxRecDepth 100000 in
set_option maxHeartbeats 1000000 in
theorem count_less (b : Nat) (x : Int) (e : Nat) (A : Option Addr) (n cap : Nat) (ms : List Mem) (w : World) (hr : Reads w w.heap.size 2 A n (mcells ms)) (hc : n ≤ cap) (hm : cap ≤ maxLen) (hx : w.cell? ⟨b, 0, none⟩ = some (.int .i64 x)) (hs : b < w.heap.size) :
    Calls Try.prog 31 #[mapV e A n cap, .func (.func 32) #[] #[.pointer (some ⟨b, 0, none⟩)]] w fun e w' => e = .returned (.int .i64 (lessN ms x : Nat)) ∧ Below w.heap.size w w' := by
  unfold maxLen at hm
  have hl : ms.length = n := by have := hr.1; rw [mcells_len] at this; omega
  have HR := Lib.hid hr
  have HL := Lib.hid hl
  have HX := Lib.hid hx
  clear hr hl hx
  unfold mapV
  go_enter Try.func31, Try.ntmps31
  go_wp2
  go_loopw [5, 7, 11] (fun vc _ vi wr => ∃ k : Nat, k ≤ n ∧ vi = .int .i64 k ∧ vc = .int .i64 (lessN (ms.take k) x : Nat) ∧ Below w.heap.size w wr ∧ w.heap.size < wr.heap.size) (fun _ _ vi _ => n - (intOf vi).toNat)
  case atStart => exact ⟨0, by omega, rfl, rfl, (Below.refl _ _).alloc (Nat.le_refl _) _, by simp⟩
  case round =>
    obtain ⟨k, hk, rfl, rfl, hb, hsz⟩ := hrel
    have hwl := lessN_le (ms.take k) x
    rw [List.length_take] at hwl
    have hwk : lessN (ms.take k) x ≤ k := by omega
    clear hwl
    by_cases hlt : k < n
    · obtain ⟨ad, rfl, hbl, hc1, hc2⟩ := (HR.out.below hb).mem hlt
      have hd := lessN_take ms x k (by have := HL.out; omega)
      obtain ⟨y, ex⟩ : ∃ y, ms.getD k (0, 0) = y := ⟨_, rfl⟩
      rw [ex] at hc1 hc2 hd
      obtain ⟨id, wt⟩ := y
      simp only at hc1 hc2 hd
      clear ex
      have hb2 := hb.alloc (Nat.le_of_lt hsz) (.cells #[.int .i64 id, .int .i64 wt] 41)
      have HC : Hid ((wr.alloc (.cells #[.int .i64 id, .int .i64 wt] 41)).cell? ⟨b, 0, none⟩ = some (.int .i64 x)) := Lib.hid ((hb2.cell (p := ⟨b, 0, none⟩) hs).trans HX.out)
      by_cases g : id < x
      · rw [if_pos g] at hd
        have e1 : decide (id < x) = true := decide_eq_true g
        generalize lessN (ms.take k) x = c at *
        have Q := Lib.hid hd
        clear hd
        go_wp2_with fail
        refine (less_any b id wt x _ HC.out (by simp; omega)).mono ?_
        rintro e w2 ⟨rfl, hb3⟩
        have hb4 : Below w.heap.size w w2 := hb2.trans (hb3.mono hb2.size)
        have hs3 := hb3.size
        rw [e1]
        simp at hs3
        clear hb3
        go_wp2
        exact ⟨⟨k + 1, by omega, by go_num, by rw [Q.out]; go_num, hb4, by omega⟩, by simp [intOf]; omega⟩
      · rw [if_neg g] at hd
        have e1 : decide (id < x) = false := decide_eq_false g
        generalize lessN (ms.take k) x = c at *
        have Q := Lib.hid hd
        clear hd
        go_wp2_with fail
        refine (less_any b id wt x _ HC.out (by simp; omega)).mono ?_
        rintro e w2 ⟨rfl, hb3⟩
        have hb4 : Below w.heap.size w w2 := hb2.trans (hb3.mono hb2.size)
        have hs3 := hb3.size
        rw [e1]
        simp at hs3
        clear hb3
        go_wp2
        exact ⟨⟨k + 1, by omega, by go_num, by rw [Q.out]; rfl, hb4, by omega⟩, by simp [intOf]; omega⟩
    · obtain rfl : n = k := by omega
      have e0 := congrArg (fun l => lessN l x) (List.take_of_length_le (l := ms) (i := n) (by have := HL.out; omega))
      have E0 := Lib.hid e0
      clear e0
      go_wp2
      go_ret
      exact ⟨ret_int (by have := E0.out; rw [this]), hb⟩
theorem Try.infoMem : (Try.prog.info? 41).map (fun i => (i.zero, i.size, i.bytes)) = some (some (.agg #[.int .i64 0, .int .i64 0]), 2, 16) := by kernel_rfl
theorem mcells_one (ms : List Mem) : ∀ u ∈ mcells ms, u.oneCell' = true := by
  intro u hu
  obtain ⟨p, _, hp⟩ := List.mem_flatMap.1 hu
  simp only [List.mem_cons, List.not_mem_nil, or_false] at hp
  rcases hp with rfl | rfl <;> rfl
/-- A row of members of the call's own (or none). -/
def RetMs (ms : List Mem) (w : World) (e : Ending) (w' : World) : Prop :=
  ∃ v, e = .returned v ∧ w'.ownsRow w.heap.size 41 2 v ms.length (mcells ms) ∧ Below w.heap.size w w'
set_option maxRecDepth 100000 in
theorem clone_any (A : Option Addr) (n cap : Nat) (ms : List Mem) (w : World) (hr : Hid (Reads w w.heap.size 2 A n (mcells ms))) (hn : n ≤ 1000) :
    Calls Try.prog 33 #[.slice A n cap] w (RetMs ms w) := by
  have hl : ms.length = n := by have := hr.out.1; rw [mcells_len] at this; omega
  have HL := Lib.hid hl
  have k0 := fun W : World => Lib.run_eql_slice_nil (P := Try.prog) W 23 41 A n cap 0 0 Try.underlying23
  cases A with
  | none =>
    have h0 : n = 0 := by
      rcases Nat.eq_zero_or_pos n with h | h
      · exact h
      · obtain ⟨_, h1, _⟩ := hr.out.2 h; cases h1
    subst h0
    obtain rfl := List.eq_nil_of_length_eq_zero hl
    clear hl
    go_enter Try.func33, Try.ntmps33
    go_wp2
    go_ret
    exact ⟨_, rfl, ⟨rfl, .inl ⟨rfl, rfl⟩⟩, Below.refl _ _⟩
  | some ad =>
    clear hl
    simp only [Option.isNone_some] at k0
    have M1 := Lib.hid (mcells_one ms)
    go_enter Try.func33, Try.ntmps33
    go_wp2_with (at_builtin
                 refine wpl_append rfl (.tmp 5) (.tmp 6) _ rfl w w.heap.size 41 _ 2 16 Try.underlying23 Try.infoMem rfl (by decide) (.slice (some ⟨w.heap.size, 0, none⟩) 0 0) 0 [] rfl ?own (w.heap.size + 1) (some ad) n cap (mcells ms) rfl ?rd M1.out (by omega) (by decide) ?bel ?base ?_
                 case own => exact World.ownsRow_lit _ #[] 0 (Nat.le_refl _) (by unfold maxLen; omega) rfl
                 case rd => exact (hr.out.alloc (Nat.le_refl _) _).more (by simp)
                 case bel => exact (Below.refl _ _).alloc (Nat.le_refl _) _
                 case base => simp
                 intro v1 w1 hh)
    go_ret
    refine ⟨v1, rfl, ?_, hh.out.2.1⟩
    have h := hh.out.1
    rw [HL.out]
    simpa using h
end Go.Proofs.Ytmdffmajnbokeaa
