/-
  What a message and a tick make of a caller: the program and the reference make the same.
-/
import Derived.Test.YtmamdnikjfmenaaClB5
import Derived.Test.YtmamdnikjfmenaaClS3
import Derived.Test.YtmamdnikjfmenaaClS5
import Derived.Test.YtmamdnikjfmenaaClS6
import Derived.Test.YtmamdnikjfmenaaClS7
import Derived.Test.YtmamdnikjfmenaaClW12
namespace Go.Proofs.Ytmamdnikjfmenaa
open Go.RowKit
set_option linter.unusedVariables false
/-- The messages that a step sends: none, or one. -/
def Msgs (w : World) (L : Option Addr) (ln : Nat) (M : Option Mg) : Prop :=
  match M with
  | none => ln = 0
  | some M => ln = 1 ∧ ∃ g m D dc, L = some ⟨g, 0, none⟩ ∧ Blk w g 38 (M.cs m D dc) ∧ M.data.length = m ∧ Reads w w.heap.size 1 D m (M.data.map bv)
theorem Msgs.later {w w' : World} {L : Option Addr} {ln : Nat} {M : Option Mg} (h : Msgs w L ln M) (hb : Below w.heap.size w w') : Msgs w' L ln M := by
  cases M with
  | none => exact h
  | some M =>
    obtain ⟨h0, g, m, D, dc, e, hB, hl, hr⟩ := h
    exact ⟨h0, g, m, D, dc, e, hB.below hb hB.lt, hl, hr.later hb⟩
def MOk (M : Option Mg) : Prop := ∀ X, M = some X → X.Ok
theorem rows_any (M : Option Mg) (L L' : Option Addr) (ln ln' ca cb : Nat) (w : World) (hM : MOk M) (h : Hid (Msgs w L ln M)) (h' : Hid (Msgs w L' ln' M)) :
    Calls Try.prog 19 #[.slice L ln ca, .slice L' ln' cb] w fun e w' => e = .returned (.bool true) ∧ Below w.heap.size w w' := by
  cases M with
  | none =>
    obtain rfl : ln = 0 := h.out
    obtain rfl : ln' = 0 := h'.out
    exact rows_none L L' ca cb w
  | some M =>
    obtain ⟨rfl, g, m, D, dc, rfl, hB, hl, hr⟩ := h.out
    obtain ⟨rfl, g', m', D', dc', rfl, hB', hl', hr'⟩ := h'.out
    exact rows_one M g m D dc g' m' D' dc' ca cb w (hM M rfl) hl hl' (Lib.hid hB) (Lib.hid hB') (Lib.hid hr) (Lib.hid hr')
/-- A step's result. -/
def RetSt (c : Cal) (M : Option Mg) (code : Int) (data : List Nat) (ss : List ByteArray) (w : World) (e : Ending) (w' : World) : Prop :=
  ∃ n N nc m D dc L ln lc E em ec G gm gc, e = .returned (.tuple #[.agg (c.cs n N nc m D dc), .slice L ln lc, .agg #[.int .i64 code, .slice E em ec, .slice G gm gc]]) ∧ CalIn w' c n N nc m D dc ∧ Msgs w' L ln M ∧
    Reads w' w'.heap.size 1 E em (data.map bv) ∧ Reads w' w'.heap.size 1 G gm (ss.map tv) ∧ Below w.heap.size w w'
section
variable {c : Cal} {n : Nat} {N : Option Addr} {nc m : Nat} {D : Option Addr} {dc : Nat} {w w' : World} {e : Ending}
theorem quiet_st {code : Int} (hi : CalIn w c n N nc m D dc) (h : RetQuiet c n N nc m D dc code w e w') : RetSt c none code [] [] w e w' := by
  obtain ⟨rfl, hb⟩ := h
  exact ⟨n, N, nc, m, D, dc, none, 0, 0, none, 0, 0, none, 0, 0, rfl, hi.later hb, rfl, Reads.none_, Reads.none_, hb⟩
theorem asks_st (hi : CalIn w c n N nc m D dc) (h : RetAsks c n N nc m D dc w e w') : RetSt c (some (askM c)) 0 [] [] w e w' := by
  obtain ⟨g, um, U, uc, rfl, hb, hg, hB, hl, h1, h2, ho⟩ := h
  exact ⟨n, N, nc, m, D, dc, _, 1, 1, none, 0, 0, none, 0, 0, rfl, hi.later hb, ⟨rfl, g, um, U, uc, rfl, hB, hl, Reads.of_own ho⟩, Reads.none_, Reads.none_, hb⟩
theorem tells_st {code : Int} {em gm : Nat} {data : List Nat} {ss : List ByteArray} (hi : CalIn w c n N nc m D dc) (h : RetTells c n N nc code em gm data (ss.map tv) w e w') : RetSt c.closed none code data ss w e w' := by
  obtain ⟨E, ec, G, gc, rfl, hb, h1, h2, ho, h3, h4, ho'⟩ := h
  exact ⟨n, N, nc, 0, none, 0, none, 0, 0, E, em, ec, G, gm, gc, rfl, (closed_in hi).later hb, rfl, Reads.of_own ho, Reads.of_own ho', hb⟩
end
theorem calin_at {w : World} {c : Cal} {n m : Nat} {N : Option Addr} {nc : Nat} {D : Option Addr} {dc : Nat} (h : CalIn w c n N nc m D dc) (x : Int) : CalIn w { c with at_ := x } n N nc m D dc := ⟨h.nl, h.nr, h.n1, h.n2, h.dl, h.dr, h.d1, h.d2, h.db⟩
theorem calin_w {w : World} {c : Cal} {n m : Nat} {N : Option Addr} {nc : Nat} {D : Option Addr} {dc : Nat} (h : CalIn w c n N nc m D dc) {x : Int} : CalIn w { c with waited := x } n N nc m D dc := ⟨h.nl, h.nr, h.n1, h.n2, h.dl, h.dr, h.d1, h.d2, h.db⟩
theorem calin_t {w : World} {c : Cal} {n m : Nat} {N : Option Addr} {nc : Nat} {D : Option Addr} {dc : Nat} (h : CalIn w c n N nc m D dc) {x y z : Int} : CalIn w { c with waited := x, turn := y, at_ := z } n N nc m D dc := ⟨h.nl, h.nr, h.n1, h.n2, h.dl, h.dr, h.d1, h.d2, h.db⟩
theorem to_range {c : Cal} (hm : May c) (x : Int) (h0 : 0 ≤ x) (h1 : x < c.nodes.length) : 1 ≤ c.nodes.getD x.toNat 0 ∧ c.nodes.getD x.toNat 0 ≤ 32 :=
  ⟨(hm.nodes x.toNat (by omega)).1, (hm.nodes x.toNat (by omega)).2.1⟩
theorem mok_none : MOk none := fun X h => by cases h
theorem mok_some {M : Mg} (h : M.Ok) : MOk (some M) := fun X e => by injection e with e; rw [← e]; exact h
/-- The program's Got, where it answers. -/
theorem got_tells (c : Cal) (n : Nat) (N : Option Addr) (nc m : Nat) (D : Option Addr) (dc : Nat) (ms : Array Value) (kind : Int) (client seq : Nat) (code : Int) (w : World) (h : Hid (CalIn w c n N nc m D dc)) (hm : May c) (hms : ms.size = 27) (hm0 : ms[0]? = some (.int .i64 kind)) (hm21 : ms[21]? = some (.int .u64 client)) (hm22 : ms[22]? = some (.int .u64 seq)) (hm25 : ms[25]? = some (.int .i64 code)) (ho : c.opn = true) (hk : kind = 17) (hc : client = c.client) (hs : seq = c.seq) (hcd : Tells c code) (E : Option Addr) (em ec : Nat) (data : List Nat) (hm20 : ms[20]? = some (.slice E em ec)) (HE : Hid (Reads w w.heap.size 1 E em (data.map bv))) (hem : em ≤ 140737488351232) (G : Option Addr) (gm gc : Nat) (names : List Value) (hm26 : ms[26]? = some (.slice G gm gc)) (HG : Hid (Reads w w.heap.size 1 G gm names)) (hn1 : ∀ u ∈ names, u.oneCell' = true) (hgm : gm * 16 ≤ 140737488355328) :
    Calls Try.prog 10 #[.agg (c.cs n N nc m D dc), .agg ms] w (RetTells c n N nc code em gm data names w) := by
  rcases hcd with h1 | h1 | h1 | ⟨h1, h2 | h2⟩
  · subst h1; exact got_one c n N nc m D dc ms kind client seq 1 w h hm hms hm0 hm21 hm22 hm25 ho hk hc hs rfl E em ec data hm20 HE hem G gm gc names hm26 HG hn1 hgm
  · subst h1; exact got_two c n N nc m D dc ms kind client seq 2 w h hm hms hm0 hm21 hm22 hm25 ho hk hc hs rfl E em ec data hm20 HE hem G gm gc names hm26 HG hn1 hgm
  · subst h1; exact got_three c n N nc m D dc ms kind client seq 3 w h hm hms hm0 hm21 hm22 hm25 ho hk hc hs rfl E em ec data hm20 HE hem G gm gc names hm26 HG hn1 hgm
  · subst h1; exact got_foura c n N nc m D dc ms kind client seq 4 w h hm hms hm0 hm21 hm22 hm25 ho hk hc hs rfl h2 E em ec data hm20 HE hem G gm gc names hm26 HG hn1 hgm
  · subst h1; exact got_fourb c n N nc m D dc ms kind client seq 4 w h hm hms hm0 hm21 hm22 hm25 ho hk hc hs rfl h2 E em ec data hm20 HE hem G gm gc names hm26 HG hn1 hgm
theorem rgot_code (c : Cal) (n : Nat) (N : Option Addr) (nc m : Nat) (D : Option Addr) (dc : Nat) (ms : Array Value) (kind : Int) (client seq : Nat) (code : Int) (w : World) (h : Hid (CalIn w c n N nc m D dc)) (hm : May c) (hms : ms.size = 27) (hm0 : ms[0]? = some (.int .i64 kind)) (hm21 : ms[21]? = some (.int .u64 client)) (hm22 : ms[22]? = some (.int .u64 seq)) (hm25 : ms[25]? = some (.int .i64 code)) (ho : c.opn = true) (hk : kind = 17) (hc : client = c.client) (hs : seq = c.seq) (q1 : code ≠ 1) (q2 : code ≠ 2) (q3 : code ≠ 3) (q4 : code ≠ 4) (q5 : code ≠ 5) :
    Calls Try.prog 17 #[.agg (c.cs n N nc m D dc), .agg ms] w (RetQuiet c n N nc m D dc 0 w) := by
  by_cases k2 : c.kind = 2
  · exact rgot_codea c n N nc m D dc ms kind client seq code w h hm hms hm0 hm21 hm22 hm25 ho hk hc hs q1 q2 q3 q4 q5 k2
  · by_cases k4 : c.kind = 4
    · exact rgot_codeb c n N nc m D dc ms kind client seq code w h hm hms hm0 hm21 hm22 hm25 ho hk hc hs q1 q2 q3 q4 q5 k4
    · exact rgot_codec c n N nc m D dc ms kind client seq code w h hm hms hm0 hm21 hm22 hm25 ho hk hc hs q1 q2 q3 q4 q5 k2 k4
/-- Both Gots make the same. -/
theorem gots (c : Cal) (n : Nat) (N : Option Addr) (nc m : Nat) (D : Option Addr) (dc : Nat) (ms : Array Value) (kind : Int) (client seq : Nat) (code : Int) (ctx : Nat) (E : Option Addr) (em ec : Nat) (data : List Nat) (G : Option Addr) (gm gc : Nat) (ss : List ByteArray)
    (hms : ms.size = 27) (hm0 : ms[0]? = some (.int .i64 kind)) (hm21 : ms[21]? = some (.int .u64 client)) (hm22 : ms[22]? = some (.int .u64 seq)) (hm25 : ms[25]? = some (.int .i64 code)) (hm7 : ms[7]? = some (.int .u64 ctx)) (hm20 : ms[20]? = some (.slice E em ec)) (hby : Byt data) (hem : em ≤ 1048576) (hm26 : ms[26]? = some (.slice G gm gc)) (hgl : ss.length = gm) (hgm : gm ≤ 1048576)
    (hnl : c.nodes.length = n) (hdl : c.data.length = m) (hsm : m ≤ 1048576) (hkey : c.key.size ≤ 1048576) (hseq : c.seq < 18446744073709551616) (hkind : -9223372036854775808 ≤ c.kind ∧ c.kind ≤ 9223372036854775807) :
    ∃ c' M code' data' ss', MOk M ∧ Byt data' ∧ ss'.length ≤ 1048576 ∧ ∀ w, Hid (CalIn w c n N nc m D dc) → Hid (Reads w w.heap.size 1 E em (data.map bv)) → Hid (Reads w w.heap.size 1 G gm (ss.map tv)) →
      Calls Try.prog 10 #[.agg (c.cs n N nc m D dc), .agg ms] w (RetSt c' M code' data' ss' w) ∧ Calls Try.prog 17 #[.agg (c.cs n N nc m D dc), .agg ms] w (RetSt c' M code' data' ss' w) := by
  have hnil : Byt [] := fun x hx => by cases hx
  by_cases hm : May c
  · cases ho : c.opn with
    | false => exact ⟨c, none, 0, [], [], mok_none, hnil, by simp, fun w h _ _ => ⟨(got_shut c n N nc m D dc ms kind client seq code w h hm hms hm0 hm21 hm22 hm25 ho).mono fun e w' k => quiet_st h.out k, (rgot_shut c n N nc m D dc ms kind client seq code w h hm hms hm0 hm21 hm22 hm25 ho).mono fun e w' k => quiet_st h.out k⟩⟩
    | true =>
      by_cases hk : kind = 17
      · by_cases hc : client = c.client
        · by_cases hs : seq = c.seq
          · by_cases h5 : code = 5
            · by_cases hj : ∃ i, Jump c ctx i
              · obtain ⟨i, hj⟩ := hj
                have hto := to_range hm (i : Int) (by omega) (by have := hj.1; omega)
                refine ⟨{ c with at_ := (i : Int) }, some (askM { c with at_ := (i : Int) }), 0, [], [], mok_some (askM_ok (c := { c with at_ := (i : Int) }) hm.c2 hto hkind.1 hkind.2 hseq (show c.key.size ≤ _ by omega) (show c.data.length ≤ _ by omega)), hnil, by simp, fun w h _ _ => ⟨(got_jump c n N nc m D dc ms kind client seq code w h hm hms hm0 hm21 hm22 hm25 ho hk hc hs h5 ctx hm7 (by omega)).mono fun e w' k => ?_, (rgot_jump c n N nc m D dc ms kind client seq code w h hm hms hm0 hm21 hm22 hm25 ho hk hc hs h5 ctx hm7 (by omega)).mono fun e w' k => ?_⟩⟩
                · rcases k with ⟨h1, _⟩ | ⟨i', h1, h2⟩
                  · exact (h1 i hj).elim
                  · rw [jump_one hm hj h1]; exact asks_st (calin_at h.out _) h2
                · rcases k with ⟨h1, _⟩ | ⟨i', h1, h2⟩
                  · exact (h1 i hj).elim
                  · rw [jump_one hm hj h1]; exact asks_st (calin_at h.out _) h2
              · refine ⟨c, none, 0, [], [], mok_none, hnil, by simp, fun w h _ _ => ⟨(got_jump c n N nc m D dc ms kind client seq code w h hm hms hm0 hm21 hm22 hm25 ho hk hc hs h5 ctx hm7 (by omega)).mono fun e w' k => ?_, (rgot_jump c n N nc m D dc ms kind client seq code w h hm hms hm0 hm21 hm22 hm25 ho hk hc hs h5 ctx hm7 (by omega)).mono fun e w' k => ?_⟩⟩
                · rcases k with ⟨_, h2⟩ | ⟨i', h1, _⟩
                  · exact quiet_st h.out h2
                  · exact (hj ⟨i', h1⟩).elim
                · rcases k with ⟨_, h2⟩ | ⟨i', h1, _⟩
                  · exact quiet_st h.out h2
                  · exact (hj ⟨i', h1⟩).elim
            · by_cases ht : Tells c code
              · exact ⟨c.closed, none, code, data, ss, mok_none, hby, by omega, fun w h HE HG => ⟨(got_tells c n N nc m D dc ms kind client seq code w h hm hms hm0 hm21 hm22 hm25 ho hk hc hs ht E em ec data hm20 HE (by omega) G gm gc (ss.map tv) hm26 HG (tv_one ss) (by omega)).mono fun e w' k => tells_st h.out k, (rgot_tells c n N nc m D dc ms kind client seq code w h hm hms hm0 hm21 hm22 hm25 ho hk hc hs ht E em ec data hm20 HE (by omega) G gm gc (ss.map tv) hm26 HG (tv_one ss) (by omega)).mono fun e w' k => tells_st h.out k⟩⟩
              · have q1 : code ≠ 1 := fun q => ht (.inl q)
                have q2 : code ≠ 2 := fun q => ht (.inr (.inl q))
                have q3 : code ≠ 3 := fun q => ht (.inr (.inr (.inl q)))
                by_cases h4 : code = 4
                · have k2 : c.kind ≠ 2 := fun q => ht (.inr (.inr (.inr ⟨h4, .inl q⟩)))
                  have k4 : c.kind ≠ 4 := fun q => ht (.inr (.inr (.inr ⟨h4, .inr q⟩)))
                  exact ⟨c, none, 0, [], [], mok_none, hnil, by simp, fun w h _ _ => ⟨(got_now c n N nc m D dc ms kind client seq code w h hm hms hm0 hm21 hm22 hm25 ho hk hc hs h4 k2 k4).mono fun e w' k => quiet_st h.out k, (rgot_now c n N nc m D dc ms kind client seq code w h hm hms hm0 hm21 hm22 hm25 ho hk hc hs h4 k2 k4).mono fun e w' k => quiet_st h.out k⟩⟩
                · exact ⟨c, none, 0, [], [], mok_none, hnil, by simp, fun w h _ _ => ⟨(got_code c n N nc m D dc ms kind client seq code w h hm hms hm0 hm21 hm22 hm25 ho hk hc hs q1 q2 q3 h4 h5).mono fun e w' k => quiet_st h.out k, (rgot_code c n N nc m D dc ms kind client seq code w h hm hms hm0 hm21 hm22 hm25 ho hk hc hs q1 q2 q3 h4 h5).mono fun e w' k => quiet_st h.out k⟩⟩
          · exact ⟨c, none, 0, [], [], mok_none, hnil, by simp, fun w h _ _ => ⟨(got_seq c n N nc m D dc ms kind client seq code w h hm hms hm0 hm21 hm22 hm25 ho hk hc hs).mono fun e w' k => quiet_st h.out k, (rgot_seq c n N nc m D dc ms kind client seq code w h hm hms hm0 hm21 hm22 hm25 ho hk hc hs).mono fun e w' k => quiet_st h.out k⟩⟩
        · exact ⟨c, none, 0, [], [], mok_none, hnil, by simp, fun w h _ _ => ⟨(got_client c n N nc m D dc ms kind client seq code w h hm hms hm0 hm21 hm22 hm25 ho hk hc).mono fun e w' k => quiet_st h.out k, (rgot_client c n N nc m D dc ms kind client seq code w h hm hms hm0 hm21 hm22 hm25 ho hk hc).mono fun e w' k => quiet_st h.out k⟩⟩
      · exact ⟨c, none, 0, [], [], mok_none, hnil, by simp, fun w h _ _ => ⟨(got_kind c n N nc m D dc ms kind client seq code w h hm hms hm0 hm21 hm22 hm25 ho hk).mono fun e w' k => quiet_st h.out k, (rgot_kind c n N nc m D dc ms kind client seq code w h hm hms hm0 hm21 hm22 hm25 ho hk).mono fun e w' k => quiet_st h.out k⟩⟩
  · exact ⟨c, none, 0, [], [], mok_none, hnil, by simp, fun w h _ _ => ⟨(got_may c n N nc m D dc ms kind client seq code w h hm hms hm0 hm21 hm22 hm25).mono fun e w' k => quiet_st h.out k, (rgot_may c n N nc m D dc ms kind client seq code w h hm hms hm0 hm21 hm22 hm25).mono fun e w' k => quiet_st h.out k⟩⟩
/-- Both Ticks make the same. -/
theorem ticks (c : Cal) (n : Nat) (N : Option Addr) (nc m : Nat) (D : Option Addr) (dc : Nat) (hnl : c.nodes.length = n) (hdl : c.data.length = m) (hsm : m ≤ 1048576) (hkey : c.key.size ≤ 1048576) (hseq : c.seq < 18446744073709551616) (hkind : -9223372036854775808 ≤ c.kind ∧ c.kind ≤ 9223372036854775807) :
    ∃ c' M code', MOk M ∧ ∀ w, Hid (CalIn w c n N nc m D dc) →
      Calls Try.prog 13 #[.agg (c.cs n N nc m D dc)] w (RetSt c' M code' [] [] w) ∧ Calls Try.prog 18 #[.agg (c.cs n N nc m D dc)] w (RetSt c' M code' [] [] w) := by
  by_cases hm : May c
  · cases ho : c.opn with
    | false => exact ⟨c, none, 0, mok_none, fun w h => ⟨(tick_shut c n N nc m D dc w h hm ho).mono fun e w' k => quiet_st h.out k, (rtick_shut c n N nc m D dc w h hm ho).mono fun e w' k => quiet_st h.out k⟩⟩
    | true =>
      by_cases hl : c.limit < c.waited + 1
      · exact ⟨c.closed, none, 6, mok_none, fun w h => ⟨(tick_lost c n N nc m D dc w h hm ho hl).mono fun e w' k => quiet_st (closed_in h.out) k, (rtick_lost c n N nc m D dc w h hm ho hl).mono fun e w' k => quiet_st (closed_in h.out) k⟩⟩
      · have hr := hm.r1
        have hw := hm.w0
        rcases Int.lt_or_le 0 ((c.waited + 1) % c.retry) with hq | hq
        · exact ⟨{ c with waited := c.waited + 1 }, none, 0, mok_none, fun w h => ⟨(tick_waits c n N nc m D dc w h hm ho (by omega) hq).mono fun e w' k => quiet_st (calin_w h.out) k, (rtick_waits c n N nc m D dc w h hm ho (by omega) hq).mono fun e w' k => quiet_st (calin_w h.out) k⟩⟩
        · have hq0 : (c.waited + 1) % c.retry = 0 := by have := Int.emod_nonneg (c.waited + 1) (show c.retry ≠ 0 by omega); omega
          have hn0 := hm.n0
          have hto := to_range hm ((c.turn + 1) % (n : Int)) (Int.emod_nonneg _ (by omega)) (by rw [hnl]; exact Int.emod_lt_of_pos _ (by omega))
          exact ⟨{ c with waited := c.waited + 1, turn := (c.turn + 1) % (n : Int), at_ := (c.turn + 1) % (n : Int) }, some (askM { c with waited := c.waited + 1, turn := (c.turn + 1) % (n : Int), at_ := (c.turn + 1) % (n : Int) }), 0, mok_some (askM_ok (c := { c with waited := c.waited + 1, turn := (c.turn + 1) % (n : Int), at_ := (c.turn + 1) % (n : Int) }) hm.c2 hto hkind.1 hkind.2 hseq (show c.key.size ≤ _ by omega) (show c.data.length ≤ _ by omega)),
            fun w h => ⟨(tick_asks c n N nc m D dc w h hm ho (by omega) hq0 (by omega) _ rfl).mono fun e w' k => asks_st (calin_t h.out) k, (rtick_asks c n N nc m D dc w h hm ho (by omega) hq0 (by omega) _ rfl).mono fun e w' k => asks_st (calin_t h.out) k⟩⟩
  · exact ⟨c, none, 0, mok_none, fun w h => ⟨(tick_may c n N nc m D dc w h hm).mono fun e w' k => quiet_st h.out k, (rtick_may c n N nc m D dc w h hm).mono fun e w' k => quiet_st h.out k⟩⟩
theorem ans_dims {w w' : World} {E E' G G' : Option Addr} {em em' gm gm' : Nat} {data : List Nat} {ss : List ByteArray} (h : Reads w w.heap.size 1 E em (data.map bv)) (h' : Reads w' w'.heap.size 1 E' em' (data.map bv)) (g : Reads w w.heap.size 1 G gm (ss.map tv)) (g' : Reads w' w'.heap.size 1 G' gm' (ss.map tv)) : em = em' ∧ gm = gm' := by
  have a := h.1; have b := h'.1; have c := g.1; have d := g'.1
  exact ⟨by omega, by omega⟩
theorem ans_small {w : World} {G : Option Addr} {gm : Nat} {ss : List ByteArray} (hs : ss.length ≤ 1048576) (g : Reads w w.heap.size 1 G gm (ss.map tv)) : gm ≤ 9223372036854775807 := by
  have a := g.1
  simp at a
  omega
set_option maxRecDepth 100000 in
set_option maxHeartbeats 40000000 in
theorem steps_ok (W : World) (c : Cal) (n : Nat) (N : Option Addr) (nc m : Nat) (D : Option Addr) (dc : Nat) (ms : Array Value) (kind : Int) (client seq : Nat) (code : Int) (ctx : Nat) (E : Option Addr) (em ec : Nat) (data : List Nat) (G : Option Addr) (gm gc : Nat) (ss : List ByteArray)
    (hc : CalIn W c n N nc m D dc) (hms : ms.size = 27) (hm0 : ms[0]? = some (.int .i64 kind)) (hm21 : ms[21]? = some (.int .u64 client)) (hm22 : ms[22]? = some (.int .u64 seq)) (hm25 : ms[25]? = some (.int .i64 code)) (hm7 : ms[7]? = some (.int .u64 ctx)) (hm20 : ms[20]? = some (.slice E em ec)) (hby : Byt data) (hem : em ≤ 1048576) (hm26 : ms[26]? = some (.slice G gm gc)) (hgl : ss.length = gm) (hgm : gm ≤ 1048576)
    (hsm : m ≤ 1048576) (hkey : c.key.size ≤ 1048576) (hseq : c.seq < 18446744073709551616) (hkind : -9223372036854775808 ≤ c.kind ∧ c.kind ≤ 9223372036854775807) (HE0 : Reads W W.heap.size 1 E em (data.map bv)) (HG0 : Reads W W.heap.size 1 G gm (ss.map tv)) :
    Calls Try.prog 6 #[.agg (c.cs n N nc m D dc), .agg ms] W (Yes W) := by
  obtain ⟨c1, M1, code1, data1, ss1, ok1, by1, s1, hgot⟩ := gots c n N nc m D dc ms kind client seq code ctx E em ec data G gm gc ss hms hm0 hm21 hm22 hm25 hm7 hm20 hby hem hm26 hgl hgm hc.nl hc.dl hsm hkey hseq hkind
  obtain ⟨c2, M2, code2, ok2, htick⟩ := ticks c n N nc m D dc hc.nl hc.dl hsm hkey hseq hkind
  have HGOT := Lib.hid hgot
  have HTICK := Lib.hid htick
  have HOK1 := Lib.hid ok1
  have HOK2 := Lib.hid ok2
  have HBY := Lib.hid by1
  have HSS := Lib.hid s1
  have HMS := Lib.hid hms
  have hb0 := ((Below.refl W.heap.size W).alloc (Nat.le_refl _) (.cells (c.cs n N nc m D dc) 40)).alloc (by simp) (.cells ms 38)
  have CC := Lib.hid (hc.later hb0)
  have HRE := Lib.hid (HE0.later hb0)
  have HRG := Lib.hid (HG0.later hb0)
  have NB := Lib.hid hb0
  have B2 := Lib.hid ((Blk.new W 40 (c.cs n N nc m D dc)).alloc (.cells ms 38))
  have B3 := Lib.hid (blk_second W (.cells (c.cs n N nc m D dc) 40) 38 ms)
  have tk1 : True := trivial
  have tk2 : True := trivial
  have tk3 : True := trivial
  clear hgot htick ok1 ok2 by1 s1 hb0 hc hms hm0 hm21 hm22 hm25 hm7 hm20 hby hem hm26 hgl hgm hsm hkey hseq hkind HE0 HG0
  go_enter Try.func6, Try.ntmps6
  go_wp2_with (first
    | (refine wpl_load_blk rfl 40 (.tmp 2) rfl W.heap.size 40 _ _ rfl B2.out Try.underlying40 rfl Try.sizeC ?_)
    | (refine wpl_load_blk rfl 38 (.tmp 3) rfl (W.heap.size + 1) 38 _ _ rfl B3.out Try.underlying38 rfl (Try.sizeM.trans (congrArg some HMS.out.symm)) ?_)
    | (go_at_call 10; refine (HGOT.out _ CC HRE HRG).1.mono ?_; rintro e w1 ⟨na, Na, nca, ma, Da, dca, La, lna, lca, Ea, ema, eca, Ga, gma, gca, rfl, hi, hl, hr, hg, hb⟩; have CC := Lib.hid (CC.out.later hb); have HRE := Lib.hid (HRE.out.later hb); have HRG := Lib.hid (HRG.out.later hb); have B2 := Lib.hid (B2.out.below hb B2.out.lt); have B3 := Lib.hid (B3.out.below hb B3.out.lt); have CIa := Lib.hid hi; have MLa := Lib.hid hl; have REa := Lib.hid hr; have RGa := Lib.hid hg; have NB := Lib.hid (bel_trans NB.out (hb)); clear hi hl hr hg hb)
    | (refine wpl_store_blk rfl 40 (.tmp 5) (.tmp 21) rfl (w1.heap.size) 40 (#[.int .u64 0, .slice none 0 0, .int .i64 0, .int .i64 0, .int .u64 0, .bool false, .int .i64 0, .string ⟨#[]⟩, .slice none 0 0, .int .i64 0, .int .i64 0, .int .i64 0]) (c1.cs na Na nca ma Da dca) rfl rfl ((Blk.new _ _ _).alloc _) rfl Try.sizeC rfl ?_; intro w2 hB hO; have hba := (((Below.refl w1.heap.size w1).alloc (Nat.le_refl _) (.cells #[.int .u64 0, .slice none 0 0, .int .i64 0, .int .i64 0, .int .u64 0, .bool false, .int .i64 0, .string ⟨#[]⟩, .slice none 0 0, .int .i64 0, .int .i64 0, .int .i64 0] 40)).alloc (by simp) (.cells (ansZ 0) 47)).trans (hO.out.below (Nat.le_refl _)); have Za := Lib.hid (hO.out.blk (blk_second w1 _ _ _) (by omega)); have Ya := hB; have HBa := Lib.hid hba; clear hB hO hba)
    | (refine wpl_store_blk rfl 47 (.tmp 7) (.tmp 23) rfl (w1.heap.size + 1) 47 (ansZ 0) (#[.int .i64 code1, .slice Ea ema eca, .slice Ga gma gca]) rfl rfl Za.out rfl Try.sizeA rfl ?_; intro w3 hB hO; have hb := HBa.out.trans (hO.out.below (show w1.heap.size ≤ w1.heap.size + 1 by omega)); have CC := Lib.hid (CC.out.later hb); have HRE := Lib.hid (HRE.out.later hb); have HRG := Lib.hid (HRG.out.later hb); have B2 := Lib.hid (B2.out.below hb B2.out.lt); have B3 := Lib.hid (B3.out.below hb B3.out.lt); have CIa := Lib.hid (CIa.out.later hb); have MLa := Lib.hid (MLa.out.later hb); have REa := Lib.hid (REa.out.later hb); have RGa := Lib.hid (RGa.out.later hb); have BCa := Lib.hid (hO.out.blk Ya.out (by omega)); have BAa := hB; have NB := Lib.hid (bel_trans NB.out (hb)); clear hb hB hO)
    | (go_at_call 17; refine (HGOT.out _ CC HRE HRG).2.mono ?_; rintro e w4 ⟨nb, Nb, ncb, mb, Db, dcb, Lb, lnb, lcb, Eb, emb, ecb, Gb, gmb, gcb, rfl, hi, hl, hr, hg, hb⟩; have CC := Lib.hid (CC.out.later hb); have HRE := Lib.hid (HRE.out.later hb); have HRG := Lib.hid (HRG.out.later hb); have B2 := Lib.hid (B2.out.below hb B2.out.lt); have B3 := Lib.hid (B3.out.below hb B3.out.lt); have CIa := Lib.hid (CIa.out.later hb); have MLa := Lib.hid (MLa.out.later hb); have REa := Lib.hid (REa.out.later hb); have RGa := Lib.hid (RGa.out.later hb); have BCa := Lib.hid (BCa.out.below hb BCa.out.lt); have BAa := Lib.hid (BAa.out.below hb BAa.out.lt); have CIb := Lib.hid hi; have MLb := Lib.hid hl; have REb := Lib.hid hr; have RGb := Lib.hid hg; have NB := Lib.hid (bel_trans NB.out (hb)); clear hi hl hr hg hb)
    | (refine wpl_store_blk rfl 40 (.tmp 8) (.tmp 28) rfl (w4.heap.size) 40 (#[.int .u64 0, .slice none 0 0, .int .i64 0, .int .i64 0, .int .u64 0, .bool false, .int .i64 0, .string ⟨#[]⟩, .slice none 0 0, .int .i64 0, .int .i64 0, .int .i64 0]) (c1.cs nb Nb ncb mb Db dcb) rfl rfl ((Blk.new _ _ _).alloc _) rfl Try.sizeC rfl ?_; intro w5 hB hO; have hbb := (((Below.refl w4.heap.size w4).alloc (Nat.le_refl _) (.cells #[.int .u64 0, .slice none 0 0, .int .i64 0, .int .i64 0, .int .u64 0, .bool false, .int .i64 0, .string ⟨#[]⟩, .slice none 0 0, .int .i64 0, .int .i64 0, .int .i64 0] 40)).alloc (by simp) (.cells (ansZ 0) 47)).trans (hO.out.below (Nat.le_refl _)); have Zb := Lib.hid (hO.out.blk (blk_second w4 _ _ _) (by omega)); have Yb := hB; have HBb := Lib.hid hbb; clear hB hO hbb)
    | (refine wpl_store_blk rfl 47 (.tmp 10) (.tmp 30) rfl (w4.heap.size + 1) 47 (ansZ 0) (#[.int .i64 code1, .slice Eb emb ecb, .slice Gb gmb gcb]) rfl rfl Zb.out rfl Try.sizeA rfl ?_; intro w6 hB hO; have hb := HBb.out.trans (hO.out.below (show w4.heap.size ≤ w4.heap.size + 1 by omega)); have CC := Lib.hid (CC.out.later hb); have HRE := Lib.hid (HRE.out.later hb); have HRG := Lib.hid (HRG.out.later hb); have B2 := Lib.hid (B2.out.below hb B2.out.lt); have B3 := Lib.hid (B3.out.below hb B3.out.lt); have CIa := Lib.hid (CIa.out.later hb); have MLa := Lib.hid (MLa.out.later hb); have REa := Lib.hid (REa.out.later hb); have RGa := Lib.hid (RGa.out.later hb); have BCa := Lib.hid (BCa.out.below hb BCa.out.lt); have BAa := Lib.hid (BAa.out.below hb BAa.out.lt); have CIb := Lib.hid (CIb.out.later hb); have MLb := Lib.hid (MLb.out.later hb); have REb := Lib.hid (REb.out.later hb); have RGb := Lib.hid (RGb.out.later hb); have BCb := Lib.hid (hO.out.blk Yb.out (by omega)); have BAb := hB; have NB := Lib.hid (bel_trans NB.out (hb)); clear hb hB hO)
    | (go_at_call 13; refine (HTICK.out _ CC).1.mono ?_; rintro e w7 ⟨nd, Nd, ncd, md, Dd, dcd, Ld, lnd, lcd, Ed, emd, ecd, Gd, gmd, gcd, rfl, hi, hl, hr, hg, hb⟩; have CC := Lib.hid (CC.out.later hb); have HRE := Lib.hid (HRE.out.later hb); have HRG := Lib.hid (HRG.out.later hb); have B2 := Lib.hid (B2.out.below hb B2.out.lt); have B3 := Lib.hid (B3.out.below hb B3.out.lt); have CIa := Lib.hid (CIa.out.later hb); have MLa := Lib.hid (MLa.out.later hb); have REa := Lib.hid (REa.out.later hb); have RGa := Lib.hid (RGa.out.later hb); have BCa := Lib.hid (BCa.out.below hb BCa.out.lt); have BAa := Lib.hid (BAa.out.below hb BAa.out.lt); have CIb := Lib.hid (CIb.out.later hb); have MLb := Lib.hid (MLb.out.later hb); have REb := Lib.hid (REb.out.later hb); have RGb := Lib.hid (RGb.out.later hb); have BCb := Lib.hid (BCb.out.below hb BCb.out.lt); have BAb := Lib.hid (BAb.out.below hb BAb.out.lt); have CId := Lib.hid hi; have MLd := Lib.hid hl; have REd := Lib.hid hr; have RGd := Lib.hid hg; have NB := Lib.hid (bel_trans NB.out (hb)); clear hi hl hr hg hb)
    | (refine wpl_store_blk rfl 40 (.tmp 11) (.tmp 34) rfl (w7.heap.size) 40 (#[.int .u64 0, .slice none 0 0, .int .i64 0, .int .i64 0, .int .u64 0, .bool false, .int .i64 0, .string ⟨#[]⟩, .slice none 0 0, .int .i64 0, .int .i64 0, .int .i64 0]) (c2.cs nd Nd ncd md Dd dcd) rfl rfl ((Blk.new _ _ _).alloc _) rfl Try.sizeC rfl ?_; intro w8 hB hO; have hbd := (((Below.refl w7.heap.size w7).alloc (Nat.le_refl _) (.cells #[.int .u64 0, .slice none 0 0, .int .i64 0, .int .i64 0, .int .u64 0, .bool false, .int .i64 0, .string ⟨#[]⟩, .slice none 0 0, .int .i64 0, .int .i64 0, .int .i64 0] 40)).alloc (by simp) (.cells (ansZ 0) 47)).trans (hO.out.below (Nat.le_refl _)); have Zd := Lib.hid (hO.out.blk (blk_second w7 _ _ _) (by omega)); have Yd := hB; have HBd := Lib.hid hbd; clear hB hO hbd)
    | (refine wpl_store_blk rfl 47 (.tmp 13) (.tmp 36) rfl (w7.heap.size + 1) 47 (ansZ 0) (#[.int .i64 code2, .slice Ed emd ecd, .slice Gd gmd gcd]) rfl rfl Zd.out rfl Try.sizeA rfl ?_; intro w9 hB hO; have hb := HBd.out.trans (hO.out.below (show w7.heap.size ≤ w7.heap.size + 1 by omega)); have CC := Lib.hid (CC.out.later hb); have HRE := Lib.hid (HRE.out.later hb); have HRG := Lib.hid (HRG.out.later hb); have B2 := Lib.hid (B2.out.below hb B2.out.lt); have B3 := Lib.hid (B3.out.below hb B3.out.lt); have CIa := Lib.hid (CIa.out.later hb); have MLa := Lib.hid (MLa.out.later hb); have REa := Lib.hid (REa.out.later hb); have RGa := Lib.hid (RGa.out.later hb); have BCa := Lib.hid (BCa.out.below hb BCa.out.lt); have BAa := Lib.hid (BAa.out.below hb BAa.out.lt); have CIb := Lib.hid (CIb.out.later hb); have MLb := Lib.hid (MLb.out.later hb); have REb := Lib.hid (REb.out.later hb); have RGb := Lib.hid (RGb.out.later hb); have BCb := Lib.hid (BCb.out.below hb BCb.out.lt); have BAb := Lib.hid (BAb.out.below hb BAb.out.lt); have CId := Lib.hid (CId.out.later hb); have MLd := Lib.hid (MLd.out.later hb); have REd := Lib.hid (REd.out.later hb); have RGd := Lib.hid (RGd.out.later hb); have BCd := Lib.hid (hO.out.blk Yd.out (by omega)); have BAd := hB; have NB := Lib.hid (bel_trans NB.out (hb)); clear hb hB hO)
    | (go_at_call 18; refine (HTICK.out _ CC).2.mono ?_; rintro e w10 ⟨ne, Ne, nce, me, De, dce, Le, lne, lce, Ee, eme, ece, Ge, gme, gce, rfl, hi, hl, hr, hg, hb⟩; have CC := Lib.hid (CC.out.later hb); have HRE := Lib.hid (HRE.out.later hb); have HRG := Lib.hid (HRG.out.later hb); have B2 := Lib.hid (B2.out.below hb B2.out.lt); have B3 := Lib.hid (B3.out.below hb B3.out.lt); have CIa := Lib.hid (CIa.out.later hb); have MLa := Lib.hid (MLa.out.later hb); have REa := Lib.hid (REa.out.later hb); have RGa := Lib.hid (RGa.out.later hb); have BCa := Lib.hid (BCa.out.below hb BCa.out.lt); have BAa := Lib.hid (BAa.out.below hb BAa.out.lt); have CIb := Lib.hid (CIb.out.later hb); have MLb := Lib.hid (MLb.out.later hb); have REb := Lib.hid (REb.out.later hb); have RGb := Lib.hid (RGb.out.later hb); have BCb := Lib.hid (BCb.out.below hb BCb.out.lt); have BAb := Lib.hid (BAb.out.below hb BAb.out.lt); have CId := Lib.hid (CId.out.later hb); have MLd := Lib.hid (MLd.out.later hb); have REd := Lib.hid (REd.out.later hb); have RGd := Lib.hid (RGd.out.later hb); have BCd := Lib.hid (BCd.out.below hb BCd.out.lt); have BAd := Lib.hid (BAd.out.below hb BAd.out.lt); have CIe := Lib.hid hi; have MLe := Lib.hid hl; have REe := Lib.hid hr; have RGe := Lib.hid hg; have NB := Lib.hid (bel_trans NB.out (hb)); clear hi hl hr hg hb)
    | (refine wpl_store_blk rfl 40 (.tmp 14) (.tmp 40) rfl (w10.heap.size) 40 (#[.int .u64 0, .slice none 0 0, .int .i64 0, .int .i64 0, .int .u64 0, .bool false, .int .i64 0, .string ⟨#[]⟩, .slice none 0 0, .int .i64 0, .int .i64 0, .int .i64 0]) (c2.cs ne Ne nce me De dce) rfl rfl ((Blk.new _ _ _).alloc _) rfl Try.sizeC rfl ?_; intro w11 hB hO; have hbe := (((Below.refl w10.heap.size w10).alloc (Nat.le_refl _) (.cells #[.int .u64 0, .slice none 0 0, .int .i64 0, .int .i64 0, .int .u64 0, .bool false, .int .i64 0, .string ⟨#[]⟩, .slice none 0 0, .int .i64 0, .int .i64 0, .int .i64 0] 40)).alloc (by simp) (.cells (ansZ 0) 47)).trans (hO.out.below (Nat.le_refl _)); have Ze := Lib.hid (hO.out.blk (blk_second w10 _ _ _) (by omega)); have Ye := hB; have HBe := Lib.hid hbe; clear hB hO hbe)
    | (refine wpl_store_blk rfl 47 (.tmp 16) (.tmp 42) rfl (w10.heap.size + 1) 47 (ansZ 0) (#[.int .i64 code2, .slice Ee eme ece, .slice Ge gme gce]) rfl rfl Ze.out rfl Try.sizeA rfl ?_; intro w12 hB hO; have hb := HBe.out.trans (hO.out.below (show w10.heap.size ≤ w10.heap.size + 1 by omega)); have CC := Lib.hid (CC.out.later hb); have HRE := Lib.hid (HRE.out.later hb); have HRG := Lib.hid (HRG.out.later hb); have B2 := Lib.hid (B2.out.below hb B2.out.lt); have B3 := Lib.hid (B3.out.below hb B3.out.lt); have CIa := Lib.hid (CIa.out.later hb); have MLa := Lib.hid (MLa.out.later hb); have REa := Lib.hid (REa.out.later hb); have RGa := Lib.hid (RGa.out.later hb); have BCa := Lib.hid (BCa.out.below hb BCa.out.lt); have BAa := Lib.hid (BAa.out.below hb BAa.out.lt); have CIb := Lib.hid (CIb.out.later hb); have MLb := Lib.hid (MLb.out.later hb); have REb := Lib.hid (REb.out.later hb); have RGb := Lib.hid (RGb.out.later hb); have BCb := Lib.hid (BCb.out.below hb BCb.out.lt); have BAb := Lib.hid (BAb.out.below hb BAb.out.lt); have CId := Lib.hid (CId.out.later hb); have MLd := Lib.hid (MLd.out.later hb); have REd := Lib.hid (REd.out.later hb); have RGd := Lib.hid (RGd.out.later hb); have BCd := Lib.hid (BCd.out.below hb BCd.out.lt); have BAd := Lib.hid (BAd.out.below hb BAd.out.lt); have CIe := Lib.hid (CIe.out.later hb); have MLe := Lib.hid (MLe.out.later hb); have REe := Lib.hid (REe.out.later hb); have RGe := Lib.hid (RGe.out.later hb); have BCe := Lib.hid (hO.out.blk Ye.out (by omega)); have BAe := hB; have NB := Lib.hid (bel_trans NB.out (hb)); clear hb hB hO)
    | (refine wpl_load_blk rfl 40 (.tmp 5) rfl w1.heap.size 40 _ _ rfl BCa.out Try.underlying40 rfl Try.sizeC ?_)
    | (refine wpl_load_blk rfl 40 (.tmp 8) rfl w4.heap.size 40 _ _ rfl BCb.out Try.underlying40 rfl Try.sizeC ?_)
    | (go_at_call 12; have _t := tk1; obtain ⟨rfl, rfl⟩ := cal_dims CIa.out CIb.out; refine (cal_same c1 na Na nca ma Da dca Nb ncb Db dcb _ CIa CIb).mono ?_; rintro e w13 ⟨rfl, hb⟩; have MLa := Lib.hid (MLa.out.later hb); have REa := Lib.hid (REa.out.later hb); have RGa := Lib.hid (RGa.out.later hb); have BAa := Lib.hid (BAa.out.below hb BAa.out.lt); have MLb := Lib.hid (MLb.out.later hb); have REb := Lib.hid (REb.out.later hb); have RGb := Lib.hid (RGb.out.later hb); have BAb := Lib.hid (BAb.out.below hb BAb.out.lt); have CId := Lib.hid (CId.out.later hb); have MLd := Lib.hid (MLd.out.later hb); have REd := Lib.hid (REd.out.later hb); have RGd := Lib.hid (RGd.out.later hb); have BCd := Lib.hid (BCd.out.below hb BCd.out.lt); have BAd := Lib.hid (BAd.out.below hb BAd.out.lt); have CIe := Lib.hid (CIe.out.later hb); have MLe := Lib.hid (MLe.out.later hb); have REe := Lib.hid (REe.out.later hb); have RGe := Lib.hid (RGe.out.later hb); have BCe := Lib.hid (BCe.out.below hb BCe.out.lt); have BAe := Lib.hid (BAe.out.below hb BAe.out.lt); have NB := Lib.hid (bel_trans NB.out (hb)); clear hb tk1 _t)
    | (go_at_call 19; have _t := tk2; refine (rows_any M1 La Lb lna lnb lca lcb _ HOK1.out MLa MLb).mono ?_; rintro e w14 ⟨rfl, hb⟩; have REa := Lib.hid (REa.out.later hb); have RGa := Lib.hid (RGa.out.later hb); have BAa := Lib.hid (BAa.out.below hb BAa.out.lt); have REb := Lib.hid (REb.out.later hb); have RGb := Lib.hid (RGb.out.later hb); have BAb := Lib.hid (BAb.out.below hb BAb.out.lt); have CId := Lib.hid (CId.out.later hb); have MLd := Lib.hid (MLd.out.later hb); have REd := Lib.hid (REd.out.later hb); have RGd := Lib.hid (RGd.out.later hb); have BCd := Lib.hid (BCd.out.below hb BCd.out.lt); have BAd := Lib.hid (BAd.out.below hb BAd.out.lt); have CIe := Lib.hid (CIe.out.later hb); have MLe := Lib.hid (MLe.out.later hb); have REe := Lib.hid (REe.out.later hb); have RGe := Lib.hid (RGe.out.later hb); have BCe := Lib.hid (BCe.out.below hb BCe.out.lt); have BAe := Lib.hid (BAe.out.below hb BAe.out.lt); have NB := Lib.hid (bel_trans NB.out (hb)); clear hb tk2 _t)
    | (refine wpl_load_blk_g ?_ 47 (.tmp 7) ?_ (w1.heap.size + 1) 47 _ _ ?_ BAa.out Try.underlying47 rfl Try.sizeA ?_; rfl; rfl; rfl)
    | (refine wpl_load_blk_g ?_ 47 (.tmp 10) ?_ (w4.heap.size + 1) 47 _ _ ?_ BAb.out Try.underlying47 rfl Try.sizeA ?_; rfl; rfl; rfl)
    | (go_at_call 20; have _t := tk3; obtain ⟨rfl, rfl⟩ := ans_dims REa.out REb.out RGa.out RGb.out; refine (alike_same code1 Ea Eb ema eca ecb data1 Ga Gb gma gca gcb ss1 _ HBY.out (ans_small HSS.out RGa.out) REa REb RGa RGb).mono ?_; rintro e w15 ⟨rfl, hb⟩; have CId := Lib.hid (CId.out.later hb); have MLd := Lib.hid (MLd.out.later hb); have REd := Lib.hid (REd.out.later hb); have RGd := Lib.hid (RGd.out.later hb); have BCd := Lib.hid (BCd.out.below hb BCd.out.lt); have BAd := Lib.hid (BAd.out.below hb BAd.out.lt); have CIe := Lib.hid (CIe.out.later hb); have MLe := Lib.hid (MLe.out.later hb); have REe := Lib.hid (REe.out.later hb); have RGe := Lib.hid (RGe.out.later hb); have BCe := Lib.hid (BCe.out.below hb BCe.out.lt); have BAe := Lib.hid (BAe.out.below hb BAe.out.lt); have NB := Lib.hid (bel_trans NB.out (hb)); clear hb tk3 _t)
    | (refine wpl_load_blk_g ?_ 40 (.tmp 11) ?_ (w7.heap.size) 40 _ _ ?_ BCd.out Try.underlying40 rfl Try.sizeC ?_; rfl; rfl; rfl)
    | (refine wpl_load_blk_g ?_ 40 (.tmp 14) ?_ (w10.heap.size) 40 _ _ ?_ BCe.out Try.underlying40 rfl Try.sizeC ?_; rfl; rfl; rfl)
    | (go_at_call 12; obtain ⟨rfl, rfl⟩ := cal_dims CId.out CIe.out; refine (cal_same c2 nd Nd ncd md Dd dcd Ne nce De dce _ CId CIe).mono ?_; rintro e w16 ⟨rfl, hb⟩; have MLd := Lib.hid (MLd.out.later hb); have REd := Lib.hid (REd.out.later hb); have RGd := Lib.hid (RGd.out.later hb); have BAd := Lib.hid (BAd.out.below hb BAd.out.lt); have MLe := Lib.hid (MLe.out.later hb); have REe := Lib.hid (REe.out.later hb); have RGe := Lib.hid (RGe.out.later hb); have BAe := Lib.hid (BAe.out.below hb BAe.out.lt); have NB := Lib.hid (bel_trans NB.out (hb)); clear hb)
    | (go_at_call 19; refine (rows_any M2 Ld Le lnd lne lcd lce _ HOK2.out MLd MLe).mono ?_; rintro e w17 ⟨rfl, hb⟩; have REd := Lib.hid (REd.out.later hb); have RGd := Lib.hid (RGd.out.later hb); have BAd := Lib.hid (BAd.out.below hb BAd.out.lt); have REe := Lib.hid (REe.out.later hb); have RGe := Lib.hid (RGe.out.later hb); have BAe := Lib.hid (BAe.out.below hb BAe.out.lt); have NB := Lib.hid (bel_trans NB.out (hb)); clear hb)
    | (refine wpl_load_blk_g ?_ 47 (.tmp 13) ?_ (w7.heap.size + 1) 47 _ _ ?_ BAd.out Try.underlying47 rfl Try.sizeA ?_; rfl; rfl; rfl)
    | (refine wpl_load_blk_g ?_ 47 (.tmp 16) ?_ (w10.heap.size + 1) 47 _ _ ?_ BAe.out Try.underlying47 rfl Try.sizeA ?_; rfl; rfl; rfl)
    | (go_at_call 20; obtain ⟨rfl, rfl⟩ := ans_dims REd.out REe.out RGd.out RGe.out; refine (alike_same code2 Ed Ee emd ecd ece ([] : List Nat) Gd Ge gmd gcd gce ([] : List ByteArray) _ (fun x hx => by cases hx) (ans_small (show ([] : List ByteArray).length ≤ 1048576 by decide) RGd.out) REd REe RGd RGe).mono ?_; rintro e w18 ⟨rfl, hb⟩; skip; have NB := Lib.hid (bel_trans NB.out (hb)); clear hb)
    | (go_at_call 9; refine (heads_true _).mono ?_; rintro e w19 ⟨rfl, hb⟩; have NB := Lib.hid (bel_trans NB.out (hb)); clear hb))
  go_ret
  exact ⟨rfl, NB.out⟩
end Go.Proofs.Ytmamdnikjfmenaa
