/-
  A CALLER OF ClientOnce: what a tick and any message make of it.
-/
import Derived.Test.YtmamdnikjfmenaaClW11
import Derived.Test.YtmamdnikjfmenaaClW14
import Derived.Test.YtmamdnikjfmenaaClW15
namespace Go.Proofs.Ytmamdnikjfmenaa
open Go.RowKit
set_option linter.unusedVariables false
/-- Behind its call, with t ticks and ans answers so far. -/
structure Ob (lim : Int) (D0 : Option Addr) (dc0 : Nat) (c : Cal) (t ans : Int) (m : Nat) (D : Option Addr) (dc : Nat) : Prop where
  may : May c
  nd : c.nodes = [3, 1]
  cl : c.client = 1
  lim : c.limit = lim
  st : (c.opn = true ∧ c.kind = 1 ∧ c.data = [1] ∧ c.waited = t ∧ ans = 0 ∧ m = 1 ∧ D = D0 ∧ dc = dc0) ∨ (c.opn = false ∧ c.data = [] ∧ ans = 1 ∧ m = 0 ∧ D = none ∧ dc = 0)
theorem Ob.calin {lim : Int} {D0 : Option Addr} {dc0 : Nat} {c : Cal} {t ans : Int} {m : Nat} {D : Option Addr} {dc : Nat} {w : World} {B B' : Nat} {N : Option Addr} {nc : Nat} (h : Ob lim D0 dc0 c t ans m D dc)
    (hn : Reads w B 1 N 2 (([3, 1] : List Int).map iv)) (hd : Reads w B' 1 D0 1 (([1] : List Nat).map bv)) (h1 : 2 ≤ nc) (h2 : nc ≤ maxLen) (h3 : 1 ≤ dc0) (h4 : dc0 ≤ maxLen) : CalIn w c 2 N nc m D dc := by
  rcases h.st with ⟨_, _, e, _, _, rfl, rfl, rfl⟩ | ⟨_, e, _, rfl, rfl, rfl⟩
  · exact ⟨by rw [h.nd]; rfl, by rw [h.nd]; exact hn.here (by omega), h1, h2, by rw [e]; rfl, by rw [e]; exact hd.here (by omega), h3, h4, by rw [e]; intro x hx; rw [List.mem_singleton.1 hx]; omega⟩
  · exact ⟨by rw [h.nd]; rfl, by rw [h.nd]; exact hn.here (by omega), h1, h2, by rw [e]; rfl, by rw [e]; exact Reads.none_, Nat.le_refl _, by unfold maxLen; omega, by rw [e]; exact fun x hx => by cases hx⟩
theorem Ob.small {lim : Int} {D0 : Option Addr} {dc0 : Nat} {c : Cal} {t ans : Int} {m : Nat} {D : Option Addr} {dc : Nat} (h : Ob lim D0 dc0 c t ans m D dc) : m ≤ 140737488351232 := by
  rcases h.st with ⟨_, _, e, _, _, rfl, rfl, rfl⟩ | ⟨_, e, _, rfl, rfl, rfl⟩ <;> omega
/-- Closed by an answer. -/
theorem Ob.shut {lim : Int} {D0 : Option Addr} {dc0 : Nat} {c : Cal} {t ans : Int} {m : Nat} {D : Option Addr} {dc : Nat} (h : Ob lim D0 dc0 c t ans m D dc) (t' : Int) : Ob lim D0 dc0 c.closed t' 1 0 none 0 :=
  ⟨⟨h.may.c1, h.may.c2, h.may.n0, h.may.r1, h.may.r2, h.may.l1, h.may.nodes, h.may.a0, h.may.a1, h.may.t0, h.may.t1, by simp [Cal.closed], by have := h.may.r1; have := h.may.r2; simp only [Cal.closed]; omega, h.may.s1⟩, h.nd, h.cl, h.lim, .inr ⟨rfl, rfl, rfl, rfl, rfl, rfl⟩⟩
def RetStep (lim : Int) (D0 : Option Addr) (dc0 : Nat) (c : Cal) (N : Option Addr) (nc : Nat) (t ans : Int) (w : World) (e : Ending) (w' : World) : Prop :=
  ∃ (c' : Cal) (ans' : Int) (m : Nat) (D : Option Addr) (dc : Nat) (code : Int) (L : Value) (E : Option Addr) (em ec : Nat) (G : Option Addr) (gm gc : Nat), e = .returned (.tuple #[.agg (c'.cs 2 N nc m D dc), L, .agg #[.int .i64 code, .slice E em ec, .slice G gm gc]]) ∧ Below w.heap.size w w' ∧ Ob lim D0 dc0 c' t ans' m D dc ∧
    ((code = 0 ∧ ans' = ans ∧ c'.opn = c.opn) ∨ (1 ≤ code ∧ code ≠ 4 ∧ code ≠ 5 ∧ c.opn = true ∧ c'.opn = false ∧ ans = 0 ∧ ans' = 1))
section
variable {lim : Int} {D0 : Option Addr} {dc0 : Nat} {c : Cal} {t ans : Int} {m : Nat} {D : Option Addr} {dc : Nat} {w : World} {N : Option Addr} {nc : Nat}
theorem quiet_step {c' : Cal} {t' : Int} {e : Ending} {w' : World} (h : RetQuiet c' 2 N nc m D dc 0 w e w') (ob : Ob lim D0 dc0 c' t' ans m D dc) (ho : c'.opn = c.opn) : RetStep lim D0 dc0 c N nc t' ans w e w' := by
  obtain ⟨rfl, hb⟩ := h
  exact ⟨c', ans, m, D, dc, 0, _, none, 0, 0, none, 0, 0, rfl, hb, ob, .inl ⟨rfl, rfl, ho⟩⟩
theorem asks_step {c' : Cal} {t' : Int} {e : Ending} {w' : World} (h : RetAsks c' 2 N nc m D dc w e w') (ob : Ob lim D0 dc0 c' t' ans m D dc) (ho : c'.opn = c.opn) : RetStep lim D0 dc0 c N nc t' ans w e w' := by
  obtain ⟨g, um, U, uc, rfl, hb, -⟩ := h
  exact ⟨c', ans, m, D, dc, 0, _, none, 0, 0, none, 0, 0, rfl, hb, ob, .inl ⟨rfl, rfl, ho⟩⟩
theorem tells_step {code : Int} {em gm : Nat} {data : List Nat} {names : List Value} {e : Ending} {w' : World} (h : RetTells c 2 N nc code em gm data names w e w') (ob : Ob lim D0 dc0 c t ans m D dc) (ho : c.opn = true) (h0 : ans = 0) (h1 : 1 ≤ code) (h4 : code ≠ 4) (h5 : code ≠ 5) :
    RetStep lim D0 dc0 c N nc t ans w e w' := by
  obtain ⟨E, ec, G, gc, rfl, hb, -⟩ := h
  exact ⟨c.closed, 1, 0, none, 0, code, _, E, em, ec, G, gm, gc, rfl, hb, ob.shut t, .inr ⟨h1, h4, h5, ho, rfl, h0, rfl⟩⟩
theorem tick_any (h : Hid (CalIn w c 2 N nc m D dc)) (ob : Ob lim D0 dc0 c t ans m D dc) : Calls Try.prog 13 #[.agg (c.cs 2 N nc m D dc)] w (RetStep lim D0 dc0 c N nc (t + 1) ans w) := by
  have hm := ob.may
  rcases ob.st with ⟨ho, hk, hd, hw, ha, e1, e2, e3⟩ | ⟨ho, hd, ha, e1, e2, e3⟩
  · by_cases hl : c.limit < c.waited + 1
    · refine (tick_lost c 2 N nc m D dc w h hm ho hl).mono fun e w' hr => ?_
      obtain ⟨rfl, hb⟩ := hr
      exact ⟨c.closed, 1, 0, none, 0, 6, _, none, 0, 0, none, 0, 0, rfl, hb, ob.shut _, .inr ⟨by omega, by omega, by omega, ho, rfl, ha, rfl⟩⟩
    · have hr0 := hm.r1
      have h0 := Int.emod_nonneg (c.waited + 1) (show c.retry ≠ 0 by omega)
      have hmay : ∀ (a b : Int), 0 ≤ a → a < 2 → 0 ≤ b → b < 2 → May { c with waited := c.waited + 1, turn := a, at_ := b } := fun a b a0 a1 b0 b1 =>
        ⟨hm.c1, hm.c2, hm.n0, hm.r1, hm.r2, hm.l1, hm.nodes, b0, by show b < (c.nodes.length : Int); rw [ob.nd]; exact b1, a0, by show a < (c.nodes.length : Int); rw [ob.nd]; exact a1, by have := hm.w0; show 0 ≤ c.waited + 1; omega, by show c.waited + 1 ≤ c.limit; omega, hm.s1⟩
      have ln : (c.nodes.length : Int) = 2 := by rw [ob.nd]; rfl
      by_cases hq : (c.waited + 1) % c.retry = 0
      · have t0 := Int.emod_nonneg (c.turn + 1) (show ((2 : Nat) : Int) ≠ 0 by omega)
        have t1 := Int.emod_lt_of_pos (c.turn + 1) (show 0 < ((2 : Nat) : Int) by omega)
        refine (tick_asks c 2 N nc m D dc w h hm ho (by omega) hq ob.small _ rfl).mono fun e w' hr => asks_step hr ⟨hmay _ _ t0 t1 t0 t1, ob.nd, ob.cl, ob.lim, .inl ⟨ho, hk, hd, ?_, ha, e1, e2, e3⟩⟩ rfl
        show c.waited + 1 = t + 1
        rw [hw]
      · refine (tick_waits c 2 N nc m D dc w h hm ho (by omega) (by omega)).mono fun e w' hr => quiet_step hr ⟨?_, ob.nd, ob.cl, ob.lim, .inl ⟨ho, hk, hd, ?_, ha, e1, e2, e3⟩⟩ rfl
        · exact hmay c.turn c.at_ hm.t0 (by have := hm.t1; omega) hm.a0 (by have := hm.a1; omega)
        · show c.waited + 1 = t + 1
          rw [hw]
  · exact (tick_shut c 2 N nc m D dc w h hm ho).mono fun e w' hr => quiet_step hr ⟨hm, ob.nd, ob.cl, ob.lim, .inr ⟨ho, hd, ha, e1, e2, e3⟩⟩ rfl
theorem got_any (ms : Array Value) (kind : Int) (h : Hid (CalIn w c 2 N nc m D dc)) (ob : Ob lim D0 dc0 c t ans m D dc) (hi : MsgIn w ms kind) :
    Calls Try.prog 10 #[.agg (c.cs 2 N nc m D dc), .agg ms] w (RetStep lim D0 dc0 c N nc t ans w) := by
  have hm := ob.may
  obtain ⟨client, seq, code, ctx, E, em, ec, data, G, gm, gc, names, h1, h2, h3, h4, h5, h6, h7, h8, h9, h10, h11, h12, h13⟩ := hi
  have q : ∀ {e w'}, RetQuiet c 2 N nc m D dc 0 w e w' → RetStep lim D0 dc0 c N nc t ans w e w' := fun hr => quiet_step hr ob rfl
  rcases ob.st with ⟨ho, hk, hd, hw, ha, e1, e2, e3⟩ | ⟨ho, hd, ha, e1, e2, e3⟩
  · have hsm := ob.small
    by_cases k1 : kind = 17
    rotate_left
    · exact (got_kind c 2 N nc m D dc ms kind client seq code w h hm h1 h2 h3 h4 h5 ho k1).mono fun _ _ hr => q hr
    by_cases k2 : client = c.client
    rotate_left
    · exact (got_client c 2 N nc m D dc ms kind client seq code w h hm h1 h2 h3 h4 h5 ho k1 k2).mono fun _ _ hr => q hr
    by_cases k3 : seq = c.seq
    rotate_left
    · exact (got_seq c 2 N nc m D dc ms kind client seq code w h hm h1 h2 h3 h4 h5 ho k1 k2 k3).mono fun _ _ hr => q hr
    by_cases c1 : code = 1
    · exact (got_one c 2 N nc m D dc ms kind client seq code w h hm h1 h2 h3 h4 h5 ho k1 k2 k3 c1 E em ec data h7 (Lib.hid h8) h9 G gm gc names h10 (Lib.hid h11) h12 (by omega)).mono fun _ _ hr => tells_step hr ob ho ha (by omega) (by omega) (by omega)
    by_cases c2 : code = 2
    · exact (got_two c 2 N nc m D dc ms kind client seq code w h hm h1 h2 h3 h4 h5 ho k1 k2 k3 c2 E em ec data h7 (Lib.hid h8) h9 G gm gc names h10 (Lib.hid h11) h12 (by omega)).mono fun _ _ hr => tells_step hr ob ho ha (by omega) (by omega) (by omega)
    by_cases c3 : code = 3
    · exact (got_three c 2 N nc m D dc ms kind client seq code w h hm h1 h2 h3 h4 h5 ho k1 k2 k3 c3 E em ec data h7 (Lib.hid h8) h9 G gm gc names h10 (Lib.hid h11) h12 (by omega)).mono fun _ _ hr => tells_step hr ob ho ha (by omega) (by omega) (by omega)
    by_cases c4 : code = 4
    · exact (got_now c 2 N nc m D dc ms kind client seq code w h hm h1 h2 h3 h4 h5 ho k1 k2 k3 c4 (by rw [hk]; omega) (by rw [hk]; omega)).mono fun _ _ hr => q hr
    by_cases c5 : code = 5
    · refine (got_else c 2 N nc m D dc ms kind client seq code w h hm h1 h2 h3 h4 h5 ho k1 k2 k3 c5 ctx h6 hsm).mono fun e w' hr => ?_
      rcases hr with hr | ⟨i, i0, i1, hr⟩
      · exact q hr
      · exact asks_step hr ⟨⟨hm.c1, hm.c2, hm.n0, hm.r1, hm.r2, hm.l1, hm.nodes, i0, by show i < (c.nodes.length : Int); rw [ob.nd]; exact i1, hm.t0, hm.t1, hm.w0, hm.w1, hm.s1⟩, ob.nd, ob.cl, ob.lim, .inl ⟨ho, hk, hd, hw, ha, e1, e2, e3⟩⟩ rfl
    exact (got_code c 2 N nc m D dc ms kind client seq code w h hm h1 h2 h3 h4 h5 ho k1 k2 k3 c1 c2 c3 c4 c5).mono fun _ _ hr => q hr
  · exact (got_shut c 2 N nc m D dc ms kind client seq code w h hm h1 h2 h3 h4 h5 ho).mono fun _ _ hr => q hr
end
end Go.Proofs.Ytmamdnikjfmenaa
