/-
  Got at Elsewhere, where it is said which node is asked.
-/
import Derived.Test.YtmamdnikjfmenaaClS4
namespace Go.Proofs.Ytmamdnikjfmenaa
open Go.RowKit
set_option linter.unusedVariables false
theorem pred_ctx_x (g : Nat) (ms : Array Value) (ctx x : Nat) (w : World) (hx : x ≤ 32) (hB : Hid (Blk w g 38 ms)) (h7 : w.cell? ⟨g, 7, none⟩ = some (.int .u64 ctx)) :
    Calls Try.prog 24 #[.int .i64 (x : Nat), .pointer (some ⟨g, 0, none⟩)] w fun e w' => e = .returned (.bool ((x : Int) == (ctx : Int))) ∧ w = w' := by
  go_enter Try.func24, Try.ntmps24
  go_wp2
  go_ret
  exact ⟨rfl, rfl⟩
def PFind (xs : List Int) (n ctx : Nat) (i : Int) : Prop := (i < 0 → ∀ j, j < n → xs.getD j 0 ≠ (ctx : Int)) ∧ (0 ≤ i → xs.getD i.toNat 0 = (ctx : Int))
set_option maxRecDepth 100000 in
set_option maxHeartbeats 400000 in
theorem find_ctx_x (A : Option Addr) (n cap : Nat) (xs : List Int) (g : Nat) (ms : Array Value) (ctx : Nat) (w : World) (hl : xs.length = n) (HR : Hid (Reads w w.heap.size 1 A n (xs.map iv))) (hm : n ≤ 9223372036854775807) (hB : Hid (Blk w g 38 ms)) (h7 : ms[7]? = some (.int .u64 ctx)) (HX : Hid (∀ i, i < n → 0 ≤ xs.getD i 0 ∧ xs.getD i 0 ≤ 32)) :
    Calls Try.prog 23 #[.slice A n cap, .func (.func 24) #[] #[.pointer (some ⟨g, 0, none⟩)]] w fun e w' => (∃ i : Int, e = .returned (.int .i64 i) ∧ -1 ≤ i ∧ i < n ∧ PFind xs n ctx i) ∧ w = w' := by
  have HL := Lib.hid hl
  have H7 := Lib.hid ((hB.out.cell 7).trans h7)
  clear hl h7
  go_enter Try.func23, Try.ntmps23
  go_wp2
  go_loopw [5, 8] (fun _ vi wr => ∃ k : Nat, k ≤ n ∧ vi = .int .i64 k ∧ wr = w ∧ Hid (∀ j, j < k → xs.getD j 0 ≠ (ctx : Int))) (fun _ vi _ => n - (intOf vi).toNat)
  case atStart => exact ⟨0, by omega, rfl, rfl, Lib.hid (fun j hj => by omega)⟩
  case round =>
    obtain ⟨k, hk, rfl, rfl, hz⟩ := hrel
    by_cases hlt : k < n
    · obtain ⟨ad, rfl, _, hc⟩ := HR.out.int_ hlt
      obtain ⟨xn, hxn, hx32⟩ : ∃ xn : Nat, xs.getD k 0 = (xn : Int) ∧ xn ≤ 32 := by
        have h1 := HX.out k hlt
        exact ⟨(xs.getD k 0).toNat, by omega, by omega⟩
      rw [hxn] at hc
      have HXN := Lib.hid hxn
      clear hxn
      by_cases q1 : xn = ctx
      · have f1 : ((xn : Int) == (ctx : Int)) = true := by simp; omega
        have Q1 := Lib.hid q1
        clear q1
        go_wp2_with (go_at_call 24; refine (pred_ctx_x g ms ctx xn _ hx32 hB H7.out).mono ?_; rintro e w1 ⟨rfl, rfl⟩; rw [f1])
        go_ret
        exact ⟨⟨_, rfl, by omega, by omega, fun h => absurd h (by omega), fun _ => by rw [Int.toNat_natCast, HXN.out, Q1.out]⟩, rfl⟩
      · have f1 : ((xn : Int) == (ctx : Int)) = false := by simp; omega
        have H := Lib.hid (show ∀ j, j < k + 1 → xs.getD j 0 ≠ (ctx : Int) from fun j hj => by
          rcases Nat.lt_or_ge j k with h1 | h1
          · exact hz.out j h1
          · obtain rfl : j = k := by omega
            rw [HXN.out]; omega)
        clear q1 hz
        go_wp2_with (go_at_call 24; refine (pred_ctx_x g ms ctx xn _ hx32 hB H7.out).mono ?_; rintro e w1 ⟨rfl, rfl⟩; rw [f1])
        exact ⟨⟨k + 1, by omega, by go_num, by first | rfl | trivial, H⟩, by simp [intOf]; omega⟩
    · obtain rfl : n = k := by omega
      go_wp2
      go_ret
      exact ⟨⟨_, rfl, by omega, by omega, fun _ => hz.out, fun h => absurd h (by omega)⟩, rfl⟩
set_option maxRecDepth 100000 in
set_option maxHeartbeats 1000000 in
theorem got_jump (c : Cal) (n : Nat) (N : Option Addr) (nc m : Nat) (D : Option Addr) (dc : Nat) (ms : Array Value) (kind : Int) (client seq : Nat) (code : Int) (w : World) (h : Hid (CalIn w c n N nc m D dc)) (hm : May c) (hms : ms.size = 27) (hm0 : ms[0]? = some (.int .i64 kind)) (hm21 : ms[21]? = some (.int .u64 client)) (hm22 : ms[22]? = some (.int .u64 seq)) (hm25 : ms[25]? = some (.int .i64 code)) (ho : c.opn = true) (hk : kind = 17) (hc : client = c.client) (hs : seq = c.seq) (hcd : code = 5) (ctx : Nat) (hm7 : ms[7]? = some (.int .u64 ctx)) (hsm : m ≤ 140737488351232) :
    Calls Try.prog 10 #[.agg (c.cs n N nc m D dc), .agg ms] w (fun e w' => (NoJump c ctx ∧ RetQuiet c n N nc m D dc 0 w e w') ∨ ∃ i : Nat, Jump c ctx i ∧ RetAsks { c with at_ := (i : Int) } n N nc m D dc w e w') := by
  subst hk
  subst hc
  subst hs
  subst hcd
  have e1 : ((c.client : Int) != (c.client : Int)) = false := by simp
  have e2 : ((c.seq : Int) != (c.seq : Int)) = false := by simp
  have HM7 := Lib.hid hm7
  have hn32 : n ≤ 9223372036854775807 := by have := h.out.n1; have := h.out.n2; unfold maxLen at this; omega
  have HN32 := Lib.hid hn32
  have HNL := Lib.hid h.out.nl
  have HMAY := Lib.hid hm
  clear hm7 hn32
  have HM := Lib.hid (may_opn hm true)
  have hcl := hm.c2
  clear hm
  unfold Cal.cs
  rw [ho]
  have HO := Lib.hid ho
  clear ho
  have hb0 := ((((Below.refl w.heap.size w).alloc (Nat.le_refl _) (.cells #[.int .u64 c.client, .slice N n nc, .int .i64 (c.at_), .int .i64 (c.turn), .int .u64 c.seq, .bool true, .int .i64 (c.kind), .string c.key, .slice D m dc, .int .i64 (c.waited), .int .i64 c.retry, .int .i64 c.limit] 40)).alloc (by simp) (.cells ms 38)).alloc (by simp; omega) (.cells #[.int .u64 0, .slice none 0 0, .int .i64 0, .int .i64 0, .int .u64 0, .bool false, .int .i64 0, .string ⟨#[]⟩, .slice none 0 0, .int .i64 0, .int .i64 0, .int .i64 0] 40)).alloc (by simp; omega) (.cells (ansZ 0) 47)
  have b0 := (((Blk.new w 40 #[.int .u64 c.client, .slice N n nc, .int .i64 (c.at_), .int .i64 (c.turn), .int .u64 c.seq, .bool true, .int .i64 (c.kind), .string c.key, .slice D m dc, .int .i64 (c.waited), .int .i64 c.retry, .int .i64 c.limit]).alloc (.cells ms 38)).alloc (.cells #[.int .u64 0, .slice none 0 0, .int .i64 0, .int .i64 0, .int .u64 0, .bool false, .int .i64 0, .string ⟨#[]⟩, .slice none 0 0, .int .i64 0, .int .i64 0, .int .i64 0] 40)).alloc (.cells (ansZ 0) 47)
  have b3 := ((blk_second w (.cells #[.int .u64 c.client, .slice N n nc, .int .i64 (c.at_), .int .i64 (c.turn), .int .u64 c.seq, .bool true, .int .i64 (c.kind), .string c.key, .slice D m dc, .int .i64 (c.waited), .int .i64 c.retry, .int .i64 c.limit] 40) 38 ms).alloc (.cells #[.int .u64 0, .slice none 0 0, .int .i64 0, .int .i64 0, .int .u64 0, .bool false, .int .i64 0, .string ⟨#[]⟩, .slice none 0 0, .int .i64 0, .int .i64 0, .int .i64 0] 40)).alloc (.cells (ansZ 0) 47)
  have b1 := (blk_second (w.alloc (.cells #[.int .u64 c.client, .slice N n nc, .int .i64 (c.at_), .int .i64 (c.turn), .int .u64 c.seq, .bool true, .int .i64 (c.kind), .string c.key, .slice D m dc, .int .i64 (c.waited), .int .i64 c.retry, .int .i64 c.limit] 40)) (.cells ms 38) 40 #[.int .u64 0, .slice none 0 0, .int .i64 0, .int .i64 0, .int .u64 0, .bool false, .int .i64 0, .string ⟨#[]⟩, .slice none 0 0, .int .i64 0, .int .i64 0, .int .i64 0]).alloc (.cells (ansZ 0) 47)
  have b2 := blk_second ((w.alloc (.cells #[.int .u64 c.client, .slice N n nc, .int .i64 (c.at_), .int .i64 (c.turn), .int .u64 c.seq, .bool true, .int .i64 (c.kind), .string c.key, .slice D m dc, .int .i64 (c.waited), .int .i64 c.retry, .int .i64 c.limit] 40)).alloc (.cells ms 38)) (.cells #[.int .u64 0, .slice none 0 0, .int .i64 0, .int .i64 0, .int .u64 0, .bool false, .int .i64 0, .string ⟨#[]⟩, .slice none 0 0, .int .i64 0, .int .i64 0, .int .i64 0] 40) 47 (ansZ 0)
  simp only [World.size_alloc] at b1 b2
  obtain ⟨wa, hwa⟩ : ∃ wa, (((w.alloc (.cells #[.int .u64 c.client, .slice N n nc, .int .i64 (c.at_), .int .i64 (c.turn), .int .u64 c.seq, .bool true, .int .i64 (c.kind), .string c.key, .slice D m dc, .int .i64 (c.waited), .int .i64 c.retry, .int .i64 c.limit] 40)).alloc (.cells ms 38)).alloc (.cells #[.int .u64 0, .slice none 0 0, .int .i64 0, .int .i64 0, .int .u64 0, .bool false, .int .i64 0, .string ⟨#[]⟩, .slice none 0 0, .int .i64 0, .int .i64 0, .int .i64 0] 40)).alloc (.cells (ansZ 0) 47) = wa := ⟨_, rfl⟩
  have hsz : wa.heap.size = w.heap.size + 1 + 1 + 1 + 1 := by rw [← hwa]; simp
  rw [hwa] at hb0 b0 b1 b2 b3
  obtain ⟨bx, hbx⟩ : ∃ bx, w.heap.size = bx := ⟨_, rfl⟩
  have HBX := Lib.hid hbx
  rw [hbx] at b0 b1 b2 b3 hsz
  have HS := Lib.hid hsz
  have HA := Lib.hid hb0
  have C1 := Lib.hid ((calin_opn h.out true).later hb0)
  have Z1 := Lib.hid b1
  have Z2 := Lib.hid b2
  have X0 := Lib.hid b0
  have Y0 := Lib.hid b3
  have HM0 := Lib.hid hm0
  have HM21 := Lib.hid hm21
  have HM22 := Lib.hid hm22
  have HM25 := Lib.hid hm25
  have HMS := Lib.hid hms
  have x0 := b0.cell 0
  have x1 := b0.cell 1
  have x2 := b0.cell 2
  have x3 := b0.cell 3
  have x4 := b0.cell 4
  have x5 := b0.cell 5
  have x6 := b0.cell 6
  have x7 := b0.cell 7
  have x8 := b0.cell 8
  have x9 := b0.cell 9
  have x10 := b0.cell 10
  have x11 := b0.cell 11
  simp only [List.getElem?_toArray, List.getElem?_cons_zero, List.getElem?_cons_succ] at x0 x1 x2 x3 x4 x5 x6 x7 x8 x9 x10 x11
  clear hsz hb0 b0 b1 b2 b3 hm0 hm21 hm22 hm25 hms
  unfold ansZ at hwa
  go_enter Try.func10, Try.ntmps10
  go_wp2_with (first
    | (go_at_call 22; clear hwa; refine (may_yes (c := { c with opn := true }) (n := n) (N := N) (nc := nc) (m := m) (D := D) (dc := dc) C1 HM.out).mono ?_; rintro e w1 ⟨rfl, hb⟩; have HA1 := Lib.hid (HA.out.trans (hb.mono HA.out.size)); have Z1 := Lib.hid (Z1.out.below hb Z1.out.lt); have Z2 := Lib.hid (Z2.out.below hb Z2.out.lt); have x := X0.out.below hb X0.out.lt; have y := Y0.out.below hb Y0.out.lt; have c0 := x.cell 0; have c1 := x.cell 1; have c2 := x.cell 2; have c3 := x.cell 3; have c4 := x.cell 4; have c5 := x.cell 5; have c6 := x.cell 6; have c7 := x.cell 7; have c8 := x.cell 8; have c9 := x.cell 9; have c10 := x.cell 10; have c11 := x.cell 11; have fx := x.frozen; have y0 := (y.cell 0).trans HM0.out; have y21 := (y.cell 21).trans HM21.out; have y22 := (y.cell 22).trans HM22.out; have y25 := (y.cell 25).trans HM25.out; have Y1 := Lib.hid y; have X1 := Lib.hid x; have HS1 := Lib.hid (show bx + 1 + 1 + 1 + 1 ≤ w1.heap.size from by have := hb.size; have := HS.out; omega); clear x y hb x0 x1 x2 x3 x4 x5 x6 x7 x8 x9 x10 x11; simp only [List.getElem?_toArray, List.getElem?_cons_zero, List.getElem?_cons_succ] at c0 c1 c2 c3 c4 c5 c6 c7 c8 c9 c10 c11; have NR1 := Lib.hid ((h.out.nr.below HA1.out).more (B' := w1.heap.size) (by rw [hbx]; have := HS1.out; omega)))
    | (go_at_call 23; refine (find_ctx_x N n nc c.nodes (bx + 1) ms ctx _ HNL.out NR1 HN32.out Y1 HM7.out (Lib.hid (fun i hi => by have := HMAY.out.nodes i (by rw [HNL.out]; exact hi); omega))).mono ?_; rintro e w8 ⟨⟨i, rfl, i0, i1, hp⟩, rfl⟩; have HP := Lib.hid hp; clear hp; obtain ⟨b, e9⟩ : ∃ b, (i != c.at_) = b := ⟨_, rfl⟩; rcases Int.lt_or_le i 0 with hi | hi; all_goals cases b)
    | (refine wpl_store_blk rfl 40 (.tmp 4) (.tmp 85) rfl (bx + 1 + 1) 40 #[.int .u64 0, .slice none 0 0, .int .i64 0, .int .i64 0, .int .u64 0, .bool false, .int .i64 0, .string ⟨#[]⟩, .slice none 0 0, .int .i64 0, .int .i64 0, .int .i64 0] (#[.int .u64 c.client, .slice N n nc, .int .i64 (c.at_), .int .i64 (c.turn), .int .u64 c.seq, .bool true, .int .i64 (c.kind), .string c.key, .slice D m dc, .int .i64 (c.waited), .int .i64 c.retry, .int .i64 c.limit]) rfl rfl Z1.out rfl Try.sizeC rfl ?_; intro w2 hB2 hO2)
    | (refine wpl_store_blk rfl 47 (.tmp 6) (.tmp 86) rfl (bx + 1 + 1 + 1) 47 (ansZ 0) (ansZ 0) rfl rfl (hO2.out.blk Z2.out (by omega)) rfl Try.sizeA rfl ?_; intro w3 hB3 hO3))
  · have hbel : Below bx w w3 := ((by have := HA1.out; rwa [hbx] at this : Below bx w w1).trans (hO2.out.below (by omega))).trans (hO3.out.below (by omega))
    exact bodyPost_ret (v := .tuple #[.agg #[.int .u64 c.client, .slice N n nc, .int .i64 (c.at_), .int .i64 (c.turn), .int .u64 c.seq, .bool true, .int .i64 (c.kind), .string c.key, .slice D m dc, .int .i64 (c.waited), .int .i64 c.retry, .int .i64 c.limit], .slice none 0 0, .agg (ansZ 0)]) (res_ctc Try.results10 rfl rfl rfl (load_blk (hO3.out.blk hB2.out (by omega)) Try.underlying40 rfl Try.sizeC) (load_blk hB3.out Try.underlying47 rfl Try.sizeA)) rfl (.inl ⟨fun j hj => HP.out.1 hi j (by have := hj.1; rw [HNL.out] at this; exact this) hj.2.1, by unfold Cal.cs; rw [HO.out], by rw [hbx]; exact hbel⟩)
  · have hbel : Below bx w w3 := ((by have := HA1.out; rwa [hbx] at this : Below bx w w1).trans (hO2.out.below (by omega))).trans (hO3.out.below (by omega))
    exact bodyPost_ret (v := .tuple #[.agg #[.int .u64 c.client, .slice N n nc, .int .i64 (c.at_), .int .i64 (c.turn), .int .u64 c.seq, .bool true, .int .i64 (c.kind), .string c.key, .slice D m dc, .int .i64 (c.waited), .int .i64 c.retry, .int .i64 c.limit], .slice none 0 0, .agg (ansZ 0)]) (res_ctc Try.results10 rfl rfl rfl (load_blk (hO3.out.blk hB2.out (by omega)) Try.underlying40 rfl Try.sizeC) (load_blk hB3.out Try.underlying47 rfl Try.sizeA)) rfl (.inl ⟨fun j hj => HP.out.1 hi j (by have := hj.1; rw [HNL.out] at this; exact this) hj.2.1, by unfold Cal.cs; rw [HO.out], by rw [hbx]; exact hbel⟩)
  · have hbel : Below bx w w3 := ((by have := HA1.out; rwa [hbx] at this : Below bx w w1).trans (hO2.out.below (by omega))).trans (hO3.out.below (by omega))
    exact bodyPost_ret (v := .tuple #[.agg #[.int .u64 c.client, .slice N n nc, .int .i64 (c.at_), .int .i64 (c.turn), .int .u64 c.seq, .bool true, .int .i64 (c.kind), .string c.key, .slice D m dc, .int .i64 (c.waited), .int .i64 c.retry, .int .i64 c.limit], .slice none 0 0, .agg (ansZ 0)]) (res_ctc Try.results10 rfl rfl rfl (load_blk (hO3.out.blk hB2.out (by omega)) Try.underlying40 rfl Try.sizeC) (load_blk hB3.out Try.underlying47 rfl Try.sizeA)) rfl (.inl ⟨fun j hj => hj.2.2 (by have h1 := node_one HMAY.out (i := j) (j := i.toNat) hj.1 (by rw [HNL.out]; omega) (hj.2.1.trans (HP.out.2 hi).symm); have h2 : i = c.at_ := (by simpa using e9); omega), by unfold Cal.cs; rw [HO.out], by rw [hbx]; exact hbel⟩)
  · obtain ⟨k, rfl⟩ : ∃ k : Nat, i = (k : Int) := ⟨i.toNat, by omega⟩
    have HJ : Hid (Jump c ctx k) := Lib.hid ⟨by rw [HNL.out]; omega, by have := HP.out.2 hi; rwa [Int.toNat_natCast] at this, by intro e; rw [e] at e9; simp at e9⟩
    clear e9
    obtain ⟨c', hc'⟩ : ∃ c' : Cal, { c with at_ := (k : Int) } = c' := ⟨_, rfl⟩
    have HC' := Lib.hid hc'
    clear hc'
    have HX := Lib.hid (show ({ c with at_ := (k : Int), opn := true } : Cal) = c' from by rw [← HC'.out]; exact congrArg (fun b => ({ c with at_ := (k : Int), opn := b } : Cal)) HO.out.symm)
    have HO2 := Lib.hid (Only.set_ w1 bx 2 (.int .i64 (k : Nat)))
    have X3 := (X1.out.set_ 2 (.int .i64 (k : Nat)))
    simp only [List.setIfInBounds_toArray, List.set_cons_zero, List.set_cons_succ] at X3
    obtain ⟨wq, hwq⟩ : ∃ wq, (w1.setCell ⟨bx, 2, none⟩ (.int .i64 (k : Nat))) = wq := ⟨_, rfl⟩
    rw [hwq] at HO2 X3 ⊢
    have O2 := HO2.out
    have HSQ := Lib.hid (show bx + 1 + 1 + 1 + 1 ≤ wq.heap.size from by rw [O2.size]; exact HS1.out)
    have b1 : Below bx w w1 := by have := HA1.out; rwa [hbx] at this
    have BQ := Lib.hid (b1.trans (O2.below (Nat.le_refl _)))
    have Z1 := Lib.hid (O2.blk Z1.out (by omega))
    have Z2 := Lib.hid (O2.blk Z2.out (by omega))
    have X3 := Lib.hid X3
    clear hwq O2 b1 c0 c1 c2 c3 c4 c5 c6 c7 c8 c9 c10 c11 fx y0 y21 y22 y25
    have NQ := Lib.hid (h.out.nr.below (by have := BQ.out; rwa [← hbx] at this))
    have DQ := Lib.hid (h.out.dr.below (by have := BQ.out; rwa [← hbx] at this))
    have CQ : Hid (CalIn wq c' n N nc m D dc) := Lib.hid (by rw [← HC'.out]; exact ⟨h.out.nl, NQ.out.here (by have := HSQ.out; omega), h.out.n1, h.out.n2, h.out.dl, DQ.out.here (by have := HSQ.out; omega), h.out.d1, h.out.d2, h.out.db⟩)
    have A1 : Hid (c'.client ≤ 64 ∧ 0 ≤ c'.at_ ∧ c'.at_ < (n : Int)) := Lib.hid (by rw [← HC'.out]; exact ⟨hcl, show (0 : Int) ≤ (k : Int) by omega, show (k : Int) < (n : Int) by omega⟩)
    have HE : Hid (c'.cs n N nc m D dc = #[.int .u64 c.client, .slice N n nc, .int .i64 (k : Nat), .int .i64 (c.turn), .int .u64 c.seq, .bool true, .int .i64 (c.kind), .string c.key, .slice D m dc, .int .i64 (c.waited), .int .i64 c.retry, .int .i64 c.limit]) := Lib.hid (by rw [← HC'.out]; unfold Cal.cs; rw [HO.out])
    have HASK : Hid (∀ W, Hid (CalIn W c' n N nc m D dc) → Calls Try.prog 25 #[.agg #[.int .u64 c.client, .slice N n nc, .int .i64 (k : Nat), .int .i64 (c.turn), .int .u64 c.seq, .bool true, .int .i64 (c.kind), .string c.key, .slice D m dc, .int .i64 (c.waited), .int .i64 c.retry, .int .i64 c.limit]] W (AskRet c' W)) := Lib.hid (fun W hW => by have hh := ask_any c' n N nc m D dc W hW A1.out.1 A1.out.2.1 A1.out.2.2 hsm; rwa [HE.out] at hh)
    refine wp_region_late (S0 := fun w' => Hid (Blk w' bx 40 #[.int .u64 c.client, .slice N n nc, .int .i64 (k : Nat), .int .i64 (c.turn), .int .u64 c.seq, .bool true, .int .i64 (c.kind), .string c.key, .slice D m dc, .int .i64 (c.waited), .int .i64 c.retry, .int .i64 c.limit])) (S := fun _ => True) 5 8 (by kernel_rfl) rfl ⟨Lib.hid X3.out.drew, trivial⟩ (fun wd hwd hH => ?_)
    have DD := Lib.hid (show Below wq.heap.size wq wd from by rw [hwd]; exact (Below.refl _ _).drew)
    clear hwd
    have CD := Lib.hid (CQ.out.later DD.out)
    have Z1 := Lib.hid (Z1.out.below DD.out Z1.out.lt)
    have Z2 := Lib.hid (Z2.out.below DD.out Z2.out.lt)
    have HSD := Lib.hid (Nat.le_trans HSQ.out DD.out.size)
    refine wpAnyT_stay 0 rfl (by kernel_rfl) (fun _ _ _ h => h) (yields_load_blk rfl 40 (.tmp 2) rfl bx 40 #[.int .u64 c.client, .slice N n nc, .int .i64 (k : Nat), .int .i64 (c.turn), .int .u64 c.seq, .bool true, .int .i64 (c.kind), .string c.key, .slice D m dc, .int .i64 (c.waited), .int .i64 c.retry, .int .i64 c.limit] _ rfl (fun w' hw' => hw'.out) Try.underlying40 rfl Try.sizeC) ⟨hH.1, fun _ => hH.2⟩ ?_
    try simp only [Act.put, List.setIfInBounds_toArray, List.set_cons_zero, List.set_cons_succ]
    refine wpAnyT_stay 1 rfl (by kernel_rfl) (fun _ _ _ h => h) (yields_load_blk rfl 40 (.tmp 2) rfl bx 40 #[.int .u64 c.client, .slice N n nc, .int .i64 (k : Nat), .int .i64 (c.turn), .int .u64 c.seq, .bool true, .int .i64 (c.kind), .string c.key, .slice D m dc, .int .i64 (c.waited), .int .i64 c.retry, .int .i64 c.limit] _ rfl (fun w' hw' => hw'.out) Try.underlying40 rfl Try.sizeC) ⟨hH.1, fun _ => hH.2⟩ ?_
    try simp only [Act.put, List.setIfInBounds_toArray, List.set_cons_zero, List.set_cons_succ]
    refine wpAnyT_stay 4 (v := .agg #[.int .i64 0, .slice none 0 0, .slice none 0 0]) rfl (by kernel_rfl) (fun _ _ _ h => h) (Or.inl ⟨by rfl, ?_⟩) ⟨hH.1, fun _ => hH.2⟩ ?_
    · (intro wx hx; go_simp <;> with_reducible rfl)
    try simp only [Act.put, List.setIfInBounds_toArray, List.set_cons_zero, List.set_cons_succ]
    refine wpAnyT_one 2 rfl (by kernel_rfl) (fun K hK => ?_)
    go_simp
    (go_at_call 25; refine (HASK.out _ CD).mono ?_; rintro e w3 ⟨u, rfl, ⟨um, U, uc, rfl, u1, u2, u3, u4⟩, hb⟩; have HB3 := Lib.hid hb; have HU := Lib.hid u4; clear hb u4)
    refine hK.out _ _ ⟨Lib.hid (hH.1.out.below HB3.out hH.1.out.lt), trivial⟩ (fun hH2 => ?_)
    clear hK K
    try simp only [Act.put, List.setIfInBounds_toArray, List.set_cons_zero, List.set_cons_succ]
    refine wpAnyT_two 3 5 rfl rfl (by kernel_rfl) (fun K hK => ?_) (fun K hK => ?_)
    · refine step_build_msg ?_ (.tmp 63) ?_ c' c'.to um U uc ?_ ?_
      · rfl
      · rfl
      · rfl
      refine hK.out _ _ ⟨Lib.hid (hH2.1.out.alloc _), trivial⟩ (fun hH3 => ?_)
      clear hK K
      try simp only [Act.put, List.setIfInBounds_toArray, List.set_cons_zero, List.set_cons_succ]
      refine wpAnyT_one 5 rfl (by kernel_rfl) (fun K hK => ?_)
      refine step_store_blk rfl 40 (.tmp 4) (.tmp 61) rfl (bx + 1 + 1) 40 #[.int .u64 0, .slice none 0 0, .int .i64 0, .int .i64 0, .int .u64 0, .bool false, .int .i64 0, .string ⟨#[]⟩, .slice none 0 0, .int .i64 0, .int .i64 0, .int .i64 0] #[.int .u64 c.client, .slice N n nc, .int .i64 (k : Nat), .int .i64 (c.turn), .int .u64 c.seq, .bool true, .int .i64 (c.kind), .string c.key, .slice D m dc, .int .i64 (c.waited), .int .i64 c.retry, .int .i64 c.limit] ?_ ?_ ?_ ?_ ?_ ?_ ?_
      · rfl
      · rfl
      · exact ((Z1.out.below HB3.out Z1.out.lt).alloc _)
      · rfl
      · exact Try.sizeC
      · rfl
      intro w5 hB5 hO5
      refine hK.out _ _ ⟨Lib.hid (hO5.out.blk hH3.1.out (by omega)), trivial⟩ (fun hH4 => ?_)
      clear hK K
      try simp only [Act.put]
      refine wpAnyT_stay 6 (v := ?_) rfl (by kernel_rfl) (fun _ _ _ h => h) (Or.inl ⟨by rfl, ?_⟩) ⟨hH4.1, fun _ => hH4.2⟩ ?_
      rotate_left
      · (intro wx hx; go_simp <;> with_reducible rfl)
      try simp only [Act.put, List.setIfInBounds_toArray, List.set_cons_zero, List.set_cons_succ]
      refine wpAnyT_one 7 rfl (by kernel_rfl) (fun K hK => ?_)
      refine step_store_blk rfl 47 (.tmp 6) (.tmp 65) rfl (bx + 1 + 1 + 1) 47 (ansZ 0) (ansZ 0) ?_ ?_ ?_ ?_ ?_ ?_ ?_
      · rfl
      · rfl
      · exact (hO5.out.blk ((Z2.out.below HB3.out Z2.out.lt).alloc _) (by omega))
      · rfl
      · exact Try.sizeA
      · rfl
      intro w7 hB7 hO7
      refine hK.out _ _ ⟨Lib.hid (hO7.out.blk hH4.1.out (by omega)), trivial⟩ (fun hH5 => ?_)
      clear hK K
      try simp only [Act.put]
      refine wpAnyT_done (by kernel_rfl) ?_ _
      have hfU := hO7.out.own (hO5.out.own (HU.out.alloc _) (own_up HU.out (by have := HSD.out; omega))) (own_up HU.out (by have := HSD.out; omega))
      have hfB : Below bx w w7 := ((((BQ.out.trans (DD.out.mono (by have := HSQ.out; omega))).trans (HB3.out.mono (by have := HSD.out; omega))).alloc (by have := HB3.out.size; have := HSD.out; omega) _).trans (hO5.out.below (by omega))).trans (hO7.out.below (by omega))
      have hfM : Blk w7 w3.heap.size 38 (askCs c' c'.to um U uc) := hO7.out.blk (hO5.out.blk (Blk.new w3 38 (askCs c' c'.to um U uc)) (by have := HB3.out.size; have := HSD.out; omega)) (by have := HB3.out.size; have := HSD.out; omega)
      have HFIN := Lib.hid (And.intro hfU (And.intro hfB hfM))
      clear hfU hfB hfM
      go_wp2
      have hbel := HFIN.out.2.1
      have hcal : CalIn w7 c' n N nc m D dc := by
        rw [← HC'.out]
        exact ⟨h.out.nl, (h.out.nr.below (by rwa [← hbx] at hbel)).here (by omega), h.out.n1, h.out.n2, h.out.dl, (h.out.dr.below (by rwa [← hbx] at hbel)).here (by omega), h.out.d1, h.out.d2, h.out.db⟩
      exact bodyPost_ret (v := .tuple #[.agg #[.int .u64 c.client, .slice N n nc, .int .i64 (k : Nat), .int .i64 (c.turn), .int .u64 c.seq, .bool true, .int .i64 (c.kind), .string c.key, .slice D m dc, .int .i64 (c.waited), .int .i64 c.retry, .int .i64 c.limit], .slice (some ⟨w3.heap.size, 0, none⟩) 1 1, .agg (ansZ 0)]) (res_ctc Try.results10 rfl rfl rfl (load_blk (hO7.out.blk hB5.out (by omega)) Try.underlying40 rfl Try.sizeC) (load_blk hB7.out Try.underlying47 rfl Try.sizeA)) rfl (.inr ⟨k, HJ.out, by rw [HX.out]; exact ⟨w3.heap.size, um, U, uc, by rw [HE.out], by rw [hbx]; exact hbel, by rw [hbx]; have := HB3.out.size; have := HSD.out; omega, HFIN.out.2.2, u1, u2, u3, own_base HFIN.out.1 (by rw [hbx]; have := HSD.out; omega)⟩⟩)
    · refine step_store_blk rfl 40 (.tmp 4) (.tmp 61) rfl (bx + 1 + 1) 40 #[.int .u64 0, .slice none 0 0, .int .i64 0, .int .i64 0, .int .u64 0, .bool false, .int .i64 0, .string ⟨#[]⟩, .slice none 0 0, .int .i64 0, .int .i64 0, .int .i64 0] #[.int .u64 c.client, .slice N n nc, .int .i64 (k : Nat), .int .i64 (c.turn), .int .u64 c.seq, .bool true, .int .i64 (c.kind), .string c.key, .slice D m dc, .int .i64 (c.waited), .int .i64 c.retry, .int .i64 c.limit] ?_ ?_ ?_ ?_ ?_ ?_ ?_
      · rfl
      · rfl
      · exact (Z1.out.below HB3.out Z1.out.lt)
      · rfl
      · exact Try.sizeC
      · rfl
      intro w5 hB5 hO5
      refine hK.out _ _ ⟨Lib.hid (hO5.out.blk hH2.1.out (by omega)), trivial⟩ (fun hH3 => ?_)
      clear hK K
      try simp only [Act.put]
      refine wpAnyT_one 3 rfl (by kernel_rfl) (fun K hK => ?_)
      refine step_build_msg ?_ (.tmp 63) ?_ c' c'.to um U uc ?_ ?_
      · rfl
      · rfl
      · rfl
      refine hK.out _ _ ⟨Lib.hid (hH3.1.out.alloc _), trivial⟩ (fun hH4 => ?_)
      clear hK K
      try simp only [Act.put, List.setIfInBounds_toArray, List.set_cons_zero, List.set_cons_succ]
      refine wpAnyT_stay 6 (v := ?_) rfl (by kernel_rfl) (fun _ _ _ h => h) (Or.inl ⟨by rfl, ?_⟩) ⟨hH4.1, fun _ => hH4.2⟩ ?_
      rotate_left
      · (intro wx hx; go_simp <;> with_reducible rfl)
      try simp only [Act.put, List.setIfInBounds_toArray, List.set_cons_zero, List.set_cons_succ]
      refine wpAnyT_one 7 rfl (by kernel_rfl) (fun K hK => ?_)
      refine step_store_blk rfl 47 (.tmp 6) (.tmp 65) rfl (bx + 1 + 1 + 1) 47 (ansZ 0) (ansZ 0) ?_ ?_ ?_ ?_ ?_ ?_ ?_
      · rfl
      · rfl
      · exact ((hO5.out.blk (Z2.out.below HB3.out Z2.out.lt) (by omega)).alloc _)
      · rfl
      · exact Try.sizeA
      · rfl
      intro w7 hB7 hO7
      refine hK.out _ _ ⟨Lib.hid (hO7.out.blk hH4.1.out (by omega)), trivial⟩ (fun hH5 => ?_)
      clear hK K
      try simp only [Act.put]
      refine wpAnyT_done (by kernel_rfl) ?_ _
      have hfU := hO7.out.own ((hO5.out.own HU.out (own_up HU.out (by have := HSD.out; omega))).alloc _) (own_up HU.out (by have := HSD.out; omega))
      have hfB : Below bx w w7 := ((((BQ.out.trans (DD.out.mono (by have := HSQ.out; omega))).trans (HB3.out.mono (by have := HSD.out; omega))).trans (hO5.out.below (by omega))).alloc (by have := HB3.out.size; have := HSD.out; have := hO5.out.size; omega) _).trans (hO7.out.below (by omega))
      have hfM : Blk w7 w5.heap.size 38 (askCs c' c'.to um U uc) := hO7.out.blk (Blk.new w5 38 (askCs c' c'.to um U uc)) (by have := HB3.out.size; have := HSD.out; have := hO5.out.size; omega)
      have HFIN := Lib.hid (And.intro hfU (And.intro hfB hfM))
      clear hfU hfB hfM
      go_wp2
      have hbel := HFIN.out.2.1
      have hcal : CalIn w7 c' n N nc m D dc := by
        rw [← HC'.out]
        exact ⟨h.out.nl, (h.out.nr.below (by rwa [← hbx] at hbel)).here (by omega), h.out.n1, h.out.n2, h.out.dl, (h.out.dr.below (by rwa [← hbx] at hbel)).here (by omega), h.out.d1, h.out.d2, h.out.db⟩
      exact bodyPost_ret (v := .tuple #[.agg #[.int .u64 c.client, .slice N n nc, .int .i64 (k : Nat), .int .i64 (c.turn), .int .u64 c.seq, .bool true, .int .i64 (c.kind), .string c.key, .slice D m dc, .int .i64 (c.waited), .int .i64 c.retry, .int .i64 c.limit], .slice (some ⟨w5.heap.size, 0, none⟩) 1 1, .agg (ansZ 0)]) (res_ctc Try.results10 rfl rfl rfl (load_blk (hO7.out.blk (hB5.out.alloc _) (by omega)) Try.underlying40 rfl Try.sizeC) (load_blk hB7.out Try.underlying47 rfl Try.sizeA)) rfl (.inr ⟨k, HJ.out, by rw [HX.out]; exact ⟨w5.heap.size, um, U, uc, by rw [HE.out], by rw [hbx]; exact hbel, by rw [hbx]; have := HB3.out.size; have := HSD.out; have := hO5.out.size; omega, HFIN.out.2.2, u1, u2, u3, own_base HFIN.out.1 (by rw [hbx]; have := HSD.out; omega)⟩⟩)
end Go.Proofs.Ytmamdnikjfmenaa
