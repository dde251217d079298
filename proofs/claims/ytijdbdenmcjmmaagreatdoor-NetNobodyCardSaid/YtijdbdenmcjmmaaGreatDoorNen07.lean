/-
  THE PROGRAM'S READER: lists of numbers; THE PROGRAM'S READER: structs; THE PROGRAM'S READER: heads. (printed by gen_par6.py); READING, in plain words: commands, entries; STATES, in plain words: members, objects, intents, sessions, wastes, states; which of them fit into the machin. (joined out of PaR5, PaR6, PaR7, PaM2, MeT by shake.py)
-/
import Derived.Test.YtijdbdenmcjmmaaGreatDoorNen06
import Derived.Test.YtijdbdenmcjmmaaGreatDoorNen04
section
namespace Go.Proofs.YtijdbdenmcjmmaaGreatDoor
open Go.RowKit OctMath
set_option linter.unusedVariables false
theorem rNum_le {bs : List Nat} (hb : Byt bs) {p q x : Nat} (h : rNum bs p = some (x, q)) : q ≤ bs.length := by
  unfold rNum at h
  obtain ⟨-, h1, h2⟩ := rdN_lt bs p hb
  split at h
  · simp only [Option.some.injEq, Prod.mk.injEq] at h
    rw [← h.2]; omega
  · cases h
theorem rInt_rng {bs : List Nat} (hb : Byt bs) {p q : Nat} {x : Int} (h : rInt bs p = some (x, q)) : -9223372036854775808 ≤ x ∧ x ≤ 9223372036854775807 := by
  unfold rInt rNum at h
  obtain ⟨h1, -, -⟩ := rdN_lt bs p hb
  split at h
  · simp only [Option.map_some, Option.some.injEq, Prod.mk.injEq] at h
    rw [← h.1]; exact unz_rng h1
  · cases h
set_option maxRecDepth 100000 in
set_option maxHeartbeats 2000000 in
theorem pg_ints (g : Nat) (A : Option Addr) (n cap : Nat) (bs : List Nat) (p : Nat) (w : World) (hP : Hid (PG g A n cap bs p w)) :
    Calls Tryz.prog 73 #[.pointer (some ⟨g, 0, none⟩), .func (.func 70) #[.pointer (some ⟨g, 0, none⟩)] #[]] w (RetR (rList bs (rInt bs) p) (vInts w.heap.size) g A n cap bs w) := by
  have HR := Lh (show rList bs (rInt bs) p = (rNum bs).bind (fun n p => if 1048576 < n ∨ bs.length - p < n then none else rTimes (rInt bs) n p) p from rfl)
  have HC := Lh (pg_number g A n cap bs p w hP)
  cases hq : rNum bs p with
  | none =>
    rw [hq] at HC
    rw [Rd.bind_none hq] at HR
    go_enter Tryz.func73, Tryz.ntmps73
    go_wp2_with (go_at_call 69; refine HC.out.mono ?_; rintro e w1 ⟨rfl, hk⟩; have HK := Lh hk; clear hk)
    refine ⟨rfl, ?_⟩
    rw [HR.out]
    exact RetR.none_ HK.out
  | some x =>
    obtain ⟨m, p0⟩ := x
    rw [hq] at HC
    rw [Rd.bind_some hq] at HR
    have hlen := hP.out.len
    have hn9 := hP.out.reach
    rw [hlen] at HR
    by_cases hm : 1048576 < m
    · rw [if_pos (.inl hm)] at HR
      have d1 : decide ((m : Int) > 1048576) = true := decide_eq_true (by omega)
      have d2 : decide (1048576 < m) = true := decide_eq_true hm
      clear hlen hn9 hm
      go_enter Tryz.func73, Tryz.ntmps73
      go_wp2_with (go_at_call 69; refine HC.out.mono ?_; rintro e w1 ⟨v, rfl, ⟨rfl, hx⟩, hp1, hk⟩; have HP1 := Lh hp1; have HK := Lh hk; have c0 := hp1.blk.cell 0; have c1 := hp1.blk.cell 1; clear hp1 hk)
      go_region
      go_wp2
      refine ⟨rfl, ?_⟩
      rw [HR.out]
      exact RetR.none_ (HK.out.trans keep_drew)
    · have d1 : decide ((m : Int) > 1048576) = false := decide_eq_false (by omega)
      have d2 : decide (1048576 < m) = false := decide_eq_false hm
      have hm1 : m ≤ 1048576 := by omega
      clear hm
      have hp0 := rNum_le hP.out.byt hq
      rw [hlen] at hp0
      obtain ⟨d, ed⟩ : ∃ d, n - p0 = d := ⟨_, rfl⟩
      have e1 : IntKind.i64.wrap ((n : Int) - (p0 : Int)) = (d : Int) := by rw [IntKind.wrap_i64]; omega
      have e2 : IntKind.u64.wrap (d : Int) = (d : Int) := by rw [IntKind.wrap_u64]; omega
      have e3 : IntKind.u64.wrap ((n : Int) - (p0 : Int)) = (d : Int) := by rw [IntKind.wrap_u64]; omega
      rw [ed] at HR
      have hdn : d ≤ n := by omega
      clear ed hp0 hlen hn9
      by_cases hm2 : d < m
      · rw [if_pos (.inr hm2)] at HR
        have d3 : decide ((m : Int) > (d : Int)) = true := decide_eq_true (by omega)
        have d4 : decide (d < m) = true := decide_eq_true hm2
        clear hm1 hm2 hdn
        go_enter Tryz.func73, Tryz.ntmps73
        go_wp2_with (go_at_call 69; refine HC.out.mono ?_; rintro e w1 ⟨v, rfl, ⟨rfl, hx⟩, hp1, hk⟩; have HP1 := Lh hp1; have HK := Lh hk; have c0 := hp1.blk.cell 0; have c1 := hp1.blk.cell 1; clear hp1 hk)
        go_region
        go_wp2
        refine ⟨rfl, ?_⟩
        rw [HR.out]
        exact RetR.none_ (HK.out.trans keep_drew)
      · rw [if_neg (by omega)] at HR
        have d3 : decide ((m : Int) > (d : Int)) = false := decide_eq_false (by omega)
        have d4 : decide (d < m) = false := decide_eq_false hm2
        clear hdn hm2
        go_enter Tryz.func73, Tryz.ntmps73
        go_wp2_with (go_at_call 69; refine HC.out.mono ?_; rintro e w1 ⟨v, rfl, ⟨rfl, hx⟩, hp1, hk⟩; have HP1 := Lh hp1; have HK := Lh hk; have c0 := hp1.blk.cell 0; have c1 := hp1.blk.cell 1; clear hp1 hk)
        go_region
        clear c0 c1 e1 e2 e3 d3 d4
        go_wp2
        obtain ⟨w2, ew2⟩ : ∃ w2, w1.drew = w2 := ⟨_, rfl⟩
        have hp2 := HP1.out.drew
        have hk2 : Keep (Not g) w w1.drew := HK.out.trans keep_drew
        rw [ew2] at hp2 hk2 ⊢
        have HP2 := Lh hp2
        have HK2 := Lh hk2
        clear ew2 HP1 HK hp2 hk2 HC
        have HB := Lh hP.out.byt
        have hg2 := Lh HP2.out.blk.lt
        have hst0 := Lh (LiR.start 3 1 HP2.out)
        clear hP
        go_loopw [6, 29] (fun vo vi wr => ∃ (k q : Nat) (xs : List Int), k ≤ m ∧ vi = .int .u64 k ∧ Hid (rTimes (rInt bs) k p0 = some (xs, q)) ∧ Hid (∀ x ∈ xs, -9223372036854775808 ≤ x ∧ x ≤ 9223372036854775807) ∧ Hid (LiR g A n cap bs w2 3 1 vo k (xs.map iv) q wr)) (fun _ vi _ => m - (intOf vi).toNat)
        case atStart => exact ⟨0, p0, [], by omega, rfl, Lh rfl, Lh (fun x hx => by cases hx), hst0⟩
        case round =>
          obtain ⟨k, q, xs, hk, rfl, hT, hX, hst⟩ := hrel
          clear hst0
          by_cases hlt : k < m
          · have d3 : decide (k < m) = true := decide_eq_true hlt
            have HI := Lh (pg_int g A n cap bs q wr (Lh hst.out.pg))
            cases hx1 : rInt bs q with
            | none =>
              rw [hx1] at HI
              have HN := Lh (rTimes_none (rTimes_end hT.out hx1) (m := m) (by omega))
              go_wp2_with (go_at_call 70; refine HI.out.mono ?_; rintro e w3 ⟨rfl, hk3⟩; have HK3 := Lh hk3; clear hk3)
              refine ⟨rfl, ?_⟩
              rw [HR.out, HN.out]
              exact RetR.none_ ((HK2.out.trans hst.out.kp).trans HK3.out)
            | some y =>
              obtain ⟨x, q'⟩ := y
              rw [hx1] at HI
              have HT1 := Lh (rTimes_more hT.out hx1)
              have HX1 := Lh (rInt_rng HB.out hx1)
              go_wp2_with (first
                | (go_at_call 70; refine HI.out.mono ?_; rintro e w3 ⟨v, rfl, ⟨rfl, -⟩, hp3, hk3⟩; have hst3 := Lh (hst.out.read hg2.out hp3 hk3); clear hp3 hk3)
                | (at_builtin
                   refine wpl_li rfl _ _ 25 _ 8 Tryz.underlying25 Tryz.infoI64 rfl (by decide) (by decide) rfl hst3.out HP2.out (by omega) [.int .i64 x] rfl (by intro u hu; rw [List.mem_singleton.1 hu]; rfl) rfl rfl ?_
                   intro v4 w4 hst4))
              refine ⟨⟨k + 1, q', xs ++ [x], by omega, by go_num, HT1, Lh (fun y hy => ?_), ?_⟩, by simp [intOf]; omega⟩
              · rcases List.mem_append.1 hy with h | h
                · exact hX.out y h
                · rw [List.mem_singleton.1 h]; exact HX1.out
              · rw [List.map_append]; exact hst4
          · obtain rfl : k = m := by omega
            go_wp2
            go_ret
            rw [HR.out, hT.out]
            have hl := rTimes_len hT.out
            subst hl
            obtain ⟨A1, k1, rfl, hl1⟩ := hst.out.list HK2.out.size
            exact RetR.some_ ⟨A1, k1, rfl, hl1, hX.out, hm1⟩ hst.out.pg (HK2.out.trans hst.out.kp)
end Go.Proofs.YtijdbdenmcjmmaaGreatDoor
end
section
namespace Go.Proofs.YtijdbdenmcjmmaaGreatDoor
open Go.RowKit OctMath
set_option linter.unusedVariables false
theorem Tryz.sizeI : (Tryz.prog.info? 29).map (·.size) = some 3 := by kernel_rfl
structure RS (g : Nat) (A : Option Addr) (n cap : Nat) (bs : List Nat) (w : World) (q : Nat) (wr : World) : Prop where
  pg : PG g A n cap bs q wr
  kp : Keep (Not g) w wr
section
variable {g : Nat} {A : Option Addr} {n cap : Nat} {bs : List Nat} {w wr w2 : World} {p q q' : Nat}
theorem RS.start (h : PG g A n cap bs q w) : RS g A n cap bs w q w := ⟨h, Keep.refl _ _⟩
theorem RS.alloc (h : RS g A n cap bs w q wr) (o : Obj) : RS g A n cap bs w q (wr.alloc o) := ⟨h.pg.below ((Below.refl _ _).alloc (Nat.le_refl _) o), h.kp.alloc o⟩
theorem RS.read (h : RS g A n cap bs w q wr) (hp : PG g A n cap bs q' w2) (hk : Keep (Not g) wr w2) : RS g A n cap bs w q' w2 := ⟨hp, h.kp.trans hk⟩
theorem RS.only (h : RS g A n cap bs w q wr) (hP : PG g A n cap bs p w) {x : Nat} (hx : w.heap.size ≤ x) (ho : Only x wr w2) : RS g A n cap bs w q w2 := by
  have hk : Keep (Not g) w w2 := ⟨ho.os.trans h.kp.os, ho.tape.trans h.kp.tape, ho.output.trans h.kp.output, Nat.le_trans h.kp.size (by rw [ho.size]; exact Nat.le_refl _), fun b hb hl => (ho.block b (by omega)).trans (h.kp.block b hb hl)⟩
  have hg := hP.blk.lt
  exact ⟨hP.turn hk (ho.blk h.pg.blk (by omega)) h.pg.pl, hk⟩
theorem Keep.notBlk {k : Nat} {t : TypeId} {cs : Array Value} (h : Keep (Not g) w w2) (hB : Blk w k t cs) (hk : k ≠ g) : Blk w2 k t cs := h.blk hB hk
end
def vId (d : IdT) (_ : World) (v : Value) : Prop := v = .agg #[.int .u64 (d.ver : Int), .int .i64 d.idx, .int .u64 (d.ep : Int)] ∧ d.ver < 18446744073709551616 ∧ (-9223372036854775808 ≤ d.idx ∧ d.idx ≤ 9223372036854775807) ∧ d.ep < 18446744073709551616
set_option maxRecDepth 100000 in
set_option maxHeartbeats 4000000 in
theorem pg_id (g : Nat) (A : Option Addr) (n cap : Nat) (bs : List Nat) (p : Nat) (w : World) (hP : Hid (PG g A n cap bs p w)) :
    Calls Tryz.prog 75 #[.pointer (some ⟨g, 0, none⟩)] w (RetR (rId bs p) vId g A n cap bs w) := by
  have HR := Lh (show rId bs p = ((rNum bs).bind fun v => (rInt bs).bind fun i => (rNum bs).bind fun e => Rd.pure ⟨v, i, e⟩) p from rfl)
  obtain ⟨w0, ew0⟩ : ∃ w0, w.alloc (.cells #[.int .u64 0, .int .i64 0, .int .u64 0] 29) = w0 := ⟨_, rfl⟩
  have hs := (RS.start hP.out).alloc (.cells #[.int .u64 0, .int .i64 0, .int .u64 0] 29)
  have hx : Blk (w.alloc (.cells #[.int .u64 0, .int .i64 0, .int .u64 0] 29)) w.heap.size 29 #[.int .u64 0, .int .i64 0, .int .u64 0] := by have := Blk.new w 29 #[.int .u64 0, .int .i64 0, .int .u64 0]; simpa using this
  rw [ew0] at hs hx
  have HS := Lh hs
  have HX := Lh hx
  have HG := Lh hP.out.blk.lt
  clear hs hx
  go_enter Tryz.func75, Tryz.ntmps75
  go_wp2_with fail
  clear ew0
  refine (pg_number g A n cap bs p _ (Lh HS.out.pg)).mono ?_
  cases h1 : rNum bs p with
  | none =>
    rw [Rd.bind_none h1] at HR
    rintro e w1 ⟨rfl, hk⟩
    refine ⟨rfl, ?_⟩
    rw [HR.out]
    exact RetR.none_ (HS.out.kp.trans hk)
  | some x =>
    obtain ⟨x1, q1⟩ := x
    rw [Rd.bind_some h1] at HR
    rintro e w1 ⟨v, rfl, ⟨rfl, b1⟩, hp, hk⟩
    have HX := Lh (hk.notBlk HX.out (by have := HG.out; omega))
    have HS := Lh (HS.out.read hp hk)
    clear hp hk
    go_wp2_with fail
    refine (pg_int g A n cap bs q1 _ (Lh HS.out.pg)).mono ?_
    cases h2 : rInt bs q1 with
    | none =>
      rw [Rd.bind_none h2] at HR
      rintro e w2 ⟨rfl, hk⟩
      refine ⟨rfl, ?_⟩
      rw [HR.out]
      exact RetR.none_ (HS.out.kp.trans hk)
    | some x =>
      obtain ⟨x2, q2⟩ := x
      rw [Rd.bind_some h2] at HR
      rintro e w2 ⟨v, rfl, ⟨rfl, b2⟩, hp, hk⟩
      have HX := Lh (hk.notBlk HX.out (by have := HG.out; omega))
      have HS := Lh (HS.out.read hp hk)
      clear hp hk
      go_wp2_with fail
      refine (pg_number g A n cap bs q2 _ (Lh HS.out.pg)).mono ?_
      cases h3 : rNum bs q2 with
      | none =>
        rw [Rd.bind_none h3] at HR
        rintro e w3 ⟨rfl, hk⟩
        refine ⟨rfl, ?_⟩
        rw [HR.out]
        exact RetR.none_ (HS.out.kp.trans hk)
      | some x =>
        obtain ⟨x3, q3⟩ := x
        rw [Rd.bind_some h3] at HR
        rintro e w3 ⟨v, rfl, ⟨rfl, b3⟩, hp, hk⟩
        have HX := Lh (hk.notBlk HX.out (by have := HG.out; omega))
        have HS := Lh (HS.out.read hp hk)
        clear hp hk
        go_wp2_with (refine wpl_store_blk rfl 29 (.tmp 2) (.tmp 13) rfl w.heap.size 29 _ #[.int .u64 (x1 : Int), .int .i64 x2, .int .u64 (x3 : Int)] rfl rfl HX.out rfl Tryz.sizeI rfl ?_; intro wf hB hO)
        have HS := Lh (HS.out.only hP.out (by omega) hO.out)
        refine bodyPost_ret (v := .agg #[.int .u64 (x1 : Int), .int .i64 x2, .int .u64 (x3 : Int)]) (res_c Tryz.results75 rfl (load_blk hB.out Tryz.underlying29 rfl Tryz.sizeI)) rfl ?_
        rw [HR.out]
        exact RetR.some_ ⟨rfl, b1, b2, b3⟩ HS.out.pg HS.out.kp
end Go.Proofs.YtijdbdenmcjmmaaGreatDoor
end
section
namespace Go.Proofs.YtijdbdenmcjmmaaGreatDoor
open Go.RowKit OctMath
set_option linter.unusedVariables false
theorem Tryz.sizeH : (Tryz.prog.info? 32).map (·.size) = some 7 := by kernel_rfl
structure HdOk (h : HdT) : Prop where
  ver : h.id.ver < 18446744073709551616
  idx : -9223372036854775808 ≤ h.id.idx ∧ h.id.idx ≤ 9223372036854775807
  ep : h.id.ep < 18446744073709551616
  k : -9223372036854775808 ≤ h.k ∧ h.k ≤ 9223372036854775807
  n : -9223372036854775808 ≤ h.n ∧ h.n ≤ 9223372036854775807
  size : -9223372036854775808 ≤ h.size ∧ h.size ≤ 9223372036854775807
  sum : h.sum < 4294967296
def vHd (h : HdT) (_ : World) (v : Value) : Prop := v = .agg #[.int .u64 (h.id.ver : Int), .int .i64 h.id.idx, .int .u64 (h.id.ep : Int), .int .i64 h.k, .int .i64 h.n, .int .i64 h.size, .int .u32 (h.sum : Int)] ∧ HdOk h
set_option maxRecDepth 100000 in
set_option maxHeartbeats 4000000 in
theorem pg_header (g : Nat) (A : Option Addr) (n cap : Nat) (bs : List Nat) (p : Nat) (w : World) (hP : Hid (PG g A n cap bs p w)) :
    Calls Tryz.prog 47 #[.pointer (some ⟨g, 0, none⟩)] w (RetR (rHd bs p) vHd g A n cap bs w) := by
  have HR := Lh (show rHd bs p = ((rId bs).bind fun d => (rInt bs).bind fun k => (rInt bs).bind fun n => (rInt bs).bind fun s => (rWord bs).bind fun m => Rd.pure ⟨d, k, n, s, m⟩) p from rfl)
  obtain ⟨w0, ew0⟩ : ∃ w0, w.alloc (.cells #[.int .u64 0, .int .i64 0, .int .u64 0, .int .i64 0, .int .i64 0, .int .i64 0, .int .u32 0] 32) = w0 := ⟨_, rfl⟩
  have hs := (RS.start hP.out).alloc (.cells #[.int .u64 0, .int .i64 0, .int .u64 0, .int .i64 0, .int .i64 0, .int .i64 0, .int .u32 0] 32)
  have hx : Blk (w.alloc (.cells #[.int .u64 0, .int .i64 0, .int .u64 0, .int .i64 0, .int .i64 0, .int .i64 0, .int .u32 0] 32)) w.heap.size 32 #[.int .u64 0, .int .i64 0, .int .u64 0, .int .i64 0, .int .i64 0, .int .i64 0, .int .u32 0] := by have := Blk.new w 32 #[.int .u64 0, .int .i64 0, .int .u64 0, .int .i64 0, .int .i64 0, .int .i64 0, .int .u32 0]; simpa using this
  rw [ew0] at hs hx
  have HS := Lh hs
  have HX := Lh hx
  have HG := Lh hP.out.blk.lt
  clear hs hx
  go_enter Tryz.func47, Tryz.ntmps47
  go_wp2_with fail
  clear ew0
  refine (pg_id g A n cap bs p _ (Lh HS.out.pg)).mono ?_
  cases h1 : rId bs p with
  | none =>
    rw [Rd.bind_none h1] at HR
    rintro e w1 ⟨rfl, hk⟩
    refine ⟨rfl, ?_⟩
    rw [HR.out]
    exact RetR.none_ (HS.out.kp.trans hk)
  | some x =>
    obtain ⟨x1, q1⟩ := x
    rw [Rd.bind_some h1] at HR
    rintro e w1 ⟨v, rfl, ⟨rfl, b1⟩, hp, hk⟩
    have HX := Lh (hk.notBlk HX.out (by have := HG.out; omega))
    have HS := Lh (HS.out.read hp hk)
    clear hp hk
    have HXY := Lh HX.out.lt
    go_wp2_with (refine wpl_store_blk rfl 32 (.tmp 3) (.tmp 6) rfl w1.heap.size 32 #[.int .u64 0, .int .i64 0, .int .u64 0, .int .i64 0, .int .i64 0, .int .i64 0, .int .u32 0] #[.int .u64 (x1.ver : Int), .int .i64 x1.idx, .int .u64 (x1.ep : Int), .int .i64 0, .int .i64 0, .int .i64 0, .int .u32 0] rfl rfl (Blk.new w1 _ _) rfl Tryz.sizeH rfl ?_; intro wa hB hO)
    have HX := Lh (hO.out.blk (HX.out.alloc _) (Nat.ne_of_lt HXY.out))
    have HS := Lh ((HS.out.alloc _).only hP.out (by have := HXY.out; omega) hO.out)
    have HY := Lh hB.out
    clear hB hO
    refine (pg_int g A n cap bs q1 _ (Lh HS.out.pg)).mono ?_
    cases h2 : rInt bs q1 with
    | none =>
      rw [Rd.bind_none h2] at HR
      rintro e w2 ⟨rfl, hk⟩
      refine ⟨rfl, ?_⟩
      rw [HR.out]
      exact RetR.none_ (HS.out.kp.trans hk)
    | some x =>
      obtain ⟨x2, q2⟩ := x
      rw [Rd.bind_some h2] at HR
      rintro e w2 ⟨v, rfl, ⟨rfl, b2⟩, hp, hk⟩
      have HX := Lh (hk.notBlk HX.out (by have := HG.out; omega))
      have HY := Lh (hk.notBlk HY.out (by have := HG.out; have := HXY.out; omega))
      have HS := Lh (HS.out.read hp hk)
      clear hp hk
      have cy0 := HY.out.cell 3
      have fy := HY.out.frozen
      go_wp2_with fail
      obtain ⟨v2, ew⟩ : ∃ v2, w2.setCell ⟨w1.heap.size, 3, none⟩ (.int .i64 x2) = v2 := ⟨_, rfl⟩
      have hO := (Only.set_ w2 w1.heap.size 3 (.int .i64 x2))
      have hB : Blk (w2.setCell ⟨w1.heap.size, 3, none⟩ (.int .i64 x2)) w1.heap.size 32 #[.int .u64 (x1.ver : Int), .int .i64 x1.idx, .int .u64 (x1.ep : Int), .int .i64 x2, .int .i64 0, .int .i64 0, .int .u32 0] := by have := (HY.out.set_ 3 (.int .i64 x2)); simpa using this
      rw [ew] at hO hB ⊢
      have HX := Lh (hO.blk HX.out (Nat.ne_of_lt HXY.out))
      have HS := Lh (HS.out.only hP.out (by have := HXY.out; omega) hO)
      have HY := Lh hB
      clear ew hO hB fy cy0
      refine (pg_int g A n cap bs q2 _ (Lh HS.out.pg)).mono ?_
      cases h3 : rInt bs q2 with
      | none =>
        rw [Rd.bind_none h3] at HR
        rintro e w3 ⟨rfl, hk⟩
        refine ⟨rfl, ?_⟩
        rw [HR.out]
        exact RetR.none_ (HS.out.kp.trans hk)
      | some x =>
        obtain ⟨x3, q3⟩ := x
        rw [Rd.bind_some h3] at HR
        rintro e w3 ⟨v, rfl, ⟨rfl, b3⟩, hp, hk⟩
        have HX := Lh (hk.notBlk HX.out (by have := HG.out; omega))
        have HY := Lh (hk.notBlk HY.out (by have := HG.out; have := HXY.out; omega))
        have HS := Lh (HS.out.read hp hk)
        clear hp hk
        have cy0 := HY.out.cell 4
        have fy := HY.out.frozen
        go_wp2_with fail
        obtain ⟨v3, ew⟩ : ∃ v3, w3.setCell ⟨w1.heap.size, 4, none⟩ (.int .i64 x3) = v3 := ⟨_, rfl⟩
        have hO := (Only.set_ w3 w1.heap.size 4 (.int .i64 x3))
        have hB : Blk (w3.setCell ⟨w1.heap.size, 4, none⟩ (.int .i64 x3)) w1.heap.size 32 #[.int .u64 (x1.ver : Int), .int .i64 x1.idx, .int .u64 (x1.ep : Int), .int .i64 x2, .int .i64 x3, .int .i64 0, .int .u32 0] := by have := (HY.out.set_ 4 (.int .i64 x3)); simpa using this
        rw [ew] at hO hB ⊢
        have HX := Lh (hO.blk HX.out (Nat.ne_of_lt HXY.out))
        have HS := Lh (HS.out.only hP.out (by have := HXY.out; omega) hO)
        have HY := Lh hB
        clear ew hO hB fy cy0
        refine (pg_int g A n cap bs q3 _ (Lh HS.out.pg)).mono ?_
        cases h4 : rInt bs q3 with
        | none =>
          rw [Rd.bind_none h4] at HR
          rintro e w4 ⟨rfl, hk⟩
          refine ⟨rfl, ?_⟩
          rw [HR.out]
          exact RetR.none_ (HS.out.kp.trans hk)
        | some x =>
          obtain ⟨x4, q4⟩ := x
          rw [Rd.bind_some h4] at HR
          rintro e w4 ⟨v, rfl, ⟨rfl, b4⟩, hp, hk⟩
          have HX := Lh (hk.notBlk HX.out (by have := HG.out; omega))
          have HY := Lh (hk.notBlk HY.out (by have := HG.out; have := HXY.out; omega))
          have HS := Lh (HS.out.read hp hk)
          clear hp hk
          have cy0 := HY.out.cell 5
          have fy := HY.out.frozen
          go_wp2_with fail
          obtain ⟨v4, ew⟩ : ∃ v4, w4.setCell ⟨w1.heap.size, 5, none⟩ (.int .i64 x4) = v4 := ⟨_, rfl⟩
          have hO := (Only.set_ w4 w1.heap.size 5 (.int .i64 x4))
          have hB : Blk (w4.setCell ⟨w1.heap.size, 5, none⟩ (.int .i64 x4)) w1.heap.size 32 #[.int .u64 (x1.ver : Int), .int .i64 x1.idx, .int .u64 (x1.ep : Int), .int .i64 x2, .int .i64 x3, .int .i64 x4, .int .u32 0] := by have := (HY.out.set_ 5 (.int .i64 x4)); simpa using this
          rw [ew] at hO hB ⊢
          have HX := Lh (hO.blk HX.out (Nat.ne_of_lt HXY.out))
          have HS := Lh (HS.out.only hP.out (by have := HXY.out; omega) hO)
          have HY := Lh hB
          clear ew hO hB fy cy0
          refine (pg_word g A n cap bs q4 _ (Lh HS.out.pg)).mono ?_
          cases h5 : rWord bs q4 with
          | none =>
            rw [Rd.bind_none h5] at HR
            rintro e w5 ⟨rfl, hk⟩
            refine ⟨rfl, ?_⟩
            rw [HR.out]
            exact RetR.none_ (HS.out.kp.trans hk)
          | some x =>
            obtain ⟨x5, q5⟩ := x
            rw [Rd.bind_some h5] at HR
            rintro e w5 ⟨v, rfl, ⟨rfl, b5⟩, hp, hk⟩
            have HX := Lh (hk.notBlk HX.out (by have := HG.out; omega))
            have HY := Lh (hk.notBlk HY.out (by have := HG.out; have := HXY.out; omega))
            have HS := Lh (HS.out.read hp hk)
            clear hp hk
            have cy0 := HY.out.cell 6
            have fy := HY.out.frozen
            have hO := (Only.set_ w5 w1.heap.size 6 (.int .u32 (x5 : Int)))
            have hB : Blk (w5.setCell ⟨w1.heap.size, 6, none⟩ (.int .u32 (x5 : Int))) w1.heap.size 32 #[.int .u64 (x1.ver : Int), .int .i64 x1.idx, .int .u64 (x1.ep : Int), .int .i64 x2, .int .i64 x3, .int .i64 x4, .int .u32 (x5 : Int)] := by have := (HY.out.set_ 6 (.int .u32 (x5 : Int))); simpa using this
            have HX := Lh (hO.blk HX.out (Nat.ne_of_lt HXY.out))
            have HS := Lh (HS.out.only hP.out (by have := HXY.out; omega) hO)
            have HY := Lh hB
            clear hO hB
            go_wp2_with (first | (refine wpl_load_blk rfl 32 (.tmp 3) rfl w1.heap.size 32 _ _ rfl HY.out Tryz.underlying32 rfl Tryz.sizeH ?_) | (refine wpl_store_blk rfl 32 (.tmp 2) (.tmp 19) rfl w.heap.size 32 _ #[.int .u64 (x1.ver : Int), .int .i64 x1.idx, .int .u64 (x1.ep : Int), .int .i64 x2, .int .i64 x3, .int .i64 x4, .int .u32 (x5 : Int)] rfl rfl HX.out rfl Tryz.sizeH rfl ?_; intro wf hB hO))
            have HS := Lh (HS.out.only hP.out (by omega) hO.out)
            refine bodyPost_ret (v := .agg #[.int .u64 (x1.ver : Int), .int .i64 x1.idx, .int .u64 (x1.ep : Int), .int .i64 x2, .int .i64 x3, .int .i64 x4, .int .u32 (x5 : Int)]) (res_c Tryz.results47 rfl (load_blk hB.out Tryz.underlying32 rfl Tryz.sizeH)) rfl ?_
            rw [HR.out]
            exact RetR.some_ ⟨rfl, b1.1, b1.2.1, b1.2.2, b2, b3, b4, b5⟩ HS.out.pg HS.out.kp
theorem Tryz.sizeF : (Tryz.prog.info? 27).map (·.size) = some 2 := by kernel_rfl
def vConf (lo : Nat) (x : List Int × List Int) (w : World) (v : Value) : Prop := ∃ A1 c1 A2 c2, v = .agg #[.slice A1 x.1.length c1, .slice A2 x.2.length c2] ∧ Lst lo 1 A1 c1 x.1.length (x.1.map iv) w ∧ Lst lo 1 A2 c2 x.2.length (x.2.map iv) w ∧ ((∀ y ∈ x.1, -9223372036854775808 ≤ y ∧ y ≤ 9223372036854775807) ∧ x.1.length ≤ 1048576) ∧ ((∀ y ∈ x.2, -9223372036854775808 ≤ y ∧ y ≤ 9223372036854775807) ∧ x.2.length ≤ 1048576)
set_option maxRecDepth 100000 in
set_option maxHeartbeats 4000000 in
theorem pg_conf (g : Nat) (A : Option Addr) (n cap : Nat) (bs : List Nat) (p : Nat) (w : World) (hP : Hid (PG g A n cap bs p w)) :
    Calls Tryz.prog 45 #[.pointer (some ⟨g, 0, none⟩)] w (RetR (rConf bs p) (vConf w.heap.size) g A n cap bs w) := by
  have HR := Lh (show rConf bs p = ((rList bs (rInt bs)).bind fun v => (rList bs (rInt bs)).bind fun l => Rd.pure (v, l)) p from rfl)
  obtain ⟨w0, ew0⟩ : ∃ w0, w.alloc (.cells #[.slice none 0 0, .slice none 0 0] 27) = w0 := ⟨_, rfl⟩
  have hs := (RS.start hP.out).alloc (.cells #[.slice none 0 0, .slice none 0 0] 27)
  have hx : Blk (w.alloc (.cells #[.slice none 0 0, .slice none 0 0] 27)) w.heap.size 27 #[.slice none 0 0, .slice none 0 0] := by have := Blk.new w 27 #[.slice none 0 0, .slice none 0 0]; simpa using this
  rw [ew0] at hs hx
  have HS := Lh hs
  have HX := Lh hx
  have HG := Lh hP.out.blk.lt
  clear hs hx
  go_enter Tryz.func45, Tryz.ntmps45
  go_wp2_with fail
  clear ew0
  refine (pg_ints g A n cap bs p _ (Lh HS.out.pg)).mono ?_
  cases h1 : rList bs (rInt bs) p with
  | none =>
    rw [Rd.bind_none h1] at HR
    rintro e w1 ⟨rfl, hk⟩
    refine ⟨rfl, ?_⟩
    rw [HR.out]
    exact RetR.none_ (HS.out.kp.trans hk)
  | some x =>
    obtain ⟨x1, q1⟩ := x
    rw [Rd.bind_some h1] at HR
    rintro e w1 ⟨v, rfl, ⟨A1, c1, rfl, l1, b1⟩, hp, hk⟩
    have axL1 := Lh (l1.apart_lo HX.out.lt)
    have L1 := Lh (l1.mono HS.out.kp.size)
    clear l1
    have HX := Lh (hk.notBlk HX.out (by have := HG.out; omega))
    have HS := Lh (HS.out.read hp hk)
    clear hp hk
    have ayL1 := Lh (L1.out.apart_hi (Nat.le_refl _))
    have HXY := Lh HX.out.lt
    go_wp2_with (refine wpl_store_blk rfl 27 (.tmp 3) (.tmp 8) rfl w1.heap.size 27 #[.slice none 0 0, .slice none 0 0] #[.slice A1 x1.length c1, .slice none 0 0] rfl rfl (Blk.new w1 _ _) rfl Tryz.sizeF rfl ?_; intro wa hB hO)
    have L1 := Lh ((L1.out.alloc _).only hO.out ayL1.out)
    have HX := Lh (hO.out.blk (HX.out.alloc _) (Nat.ne_of_lt HXY.out))
    have HS := Lh ((HS.out.alloc _).only hP.out (by have := HXY.out; omega) hO.out)
    have HY := Lh hB.out
    clear hB hO
    refine (pg_ints g A n cap bs q1 _ (Lh HS.out.pg)).mono ?_
    cases h2 : rList bs (rInt bs) q1 with
    | none =>
      rw [Rd.bind_none h2] at HR
      rintro e w2 ⟨rfl, hk⟩
      refine ⟨rfl, ?_⟩
      rw [HR.out]
      exact RetR.none_ (HS.out.kp.trans hk)
    | some x =>
      obtain ⟨x2, q2⟩ := x
      rw [Rd.bind_some h2] at HR
      rintro e w2 ⟨v, rfl, ⟨A2, c2, rfl, l2, b2⟩, hp, hk⟩
      have axL2 := Lh (l2.apart_lo HX.out.lt)
      have ayL2 := Lh (l2.apart_lo HY.out.lt)
      have L2 := Lh (l2.mono HS.out.kp.size)
      clear l2
      have L1 := Lh (L1.out.keep hk HG.out)
      have HX := Lh (hk.notBlk HX.out (by have := HG.out; omega))
      have HY := Lh (hk.notBlk HY.out (by have := HG.out; have := HXY.out; omega))
      have HS := Lh (HS.out.read hp hk)
      clear hp hk
      have cy0 := HY.out.cell 1
      have fy := HY.out.frozen
      have hO := (Only.set_ w2 w1.heap.size 1 (.slice A2 x2.length c2))
      have hB : Blk (w2.setCell ⟨w1.heap.size, 1, none⟩ (.slice A2 x2.length c2)) w1.heap.size 27 #[.slice A1 x1.length c1, .slice A2 x2.length c2] := by have := (HY.out.set_ 1 (.slice A2 x2.length c2)); simpa using this
      have L1 := Lh (L1.out.only hO ayL1.out)
      have L2 := Lh (L2.out.only hO ayL2.out)
      have HX := Lh (hO.blk HX.out (Nat.ne_of_lt HXY.out))
      have HS := Lh (HS.out.only hP.out (by have := HXY.out; omega) hO)
      have HY := Lh hB
      clear hO hB
      go_wp2_with (first | (refine wpl_load_blk rfl 27 (.tmp 3) rfl w1.heap.size 27 _ _ rfl HY.out Tryz.underlying27 rfl Tryz.sizeF ?_) | (refine wpl_store_blk rfl 27 (.tmp 2) (.tmp 14) rfl w.heap.size 27 _ #[.slice A1 x1.length c1, .slice A2 x2.length c2] rfl rfl HX.out rfl Tryz.sizeF rfl ?_; intro wf hB hO))
      have HS := Lh (HS.out.only hP.out (by omega) hO.out)
      have L1 := Lh (L1.out.only hO.out axL1.out)
      have L2 := Lh (L2.out.only hO.out axL2.out)
      refine bodyPost_ret (v := .agg #[.slice A1 x1.length c1, .slice A2 x2.length c2]) (res_c Tryz.results45 rfl (load_blk hB.out Tryz.underlying27 rfl Tryz.sizeF)) rfl ?_
      rw [HR.out]
      exact RetR.some_ ⟨A1, c1, A2, c2, rfl, L1.out, L2.out, b1, b2⟩ HS.out.pg HS.out.kp
end Go.Proofs.YtijdbdenmcjmmaaGreatDoor
end
section
namespace Go.Proofs.YtijdbdenmcjmmaaGreatDoor
open OctMath
set_option linter.unusedVariables false
structure CmdT where
  kind : Int
  client : Nat
  seq : Nat
  key : List Nat
  size : Int
  sum : Nat
  version : Nat
  epoch : Nat
  group : Int
  node : Int
  up : Bool
  id : IdT
  mep : Nat
  mem : List (Int × Int)
def rCmd (bs : List Nat) : Rd CmdT := (rInt bs).bind fun x1 => (rNum bs).bind fun x2 => (rNum bs).bind fun x3 => (rText bs).bind fun x4 => (rInt bs).bind fun x5 => (rWord bs).bind fun x6 => (rNum bs).bind fun x7 => (rNum bs).bind fun x8 => (rInt bs).bind fun x9 => (rInt bs).bind fun x10 => (rFlag bs).bind fun x11 => (rId bs).bind fun x12 => (rMap bs).bind fun x13 => Rd.pure ⟨x1, x2, x3, x4, x5, x6, x7, x8, x9, x10, x11, x12, x13.1, x13.2⟩
structure EntT where
  index : Nat
  term : Nat
  kind : Int
  cmd : CmdT
  voters : List Int
  learners : List Int
def rEnt (bs : List Nat) : Rd EntT := (rNum bs).bind fun x1 => (rNum bs).bind fun x2 => (rInt bs).bind fun x3 => (rCmd bs).bind fun x4 => (rConf bs).bind fun x5 => Rd.pure ⟨x1, x2, x3, x4, x5.1, x5.2⟩
def I64 (x : Int) : Prop := -9223372036854775808 ≤ x ∧ x ≤ 9223372036854775807
structure CmdOk (c : CmdT) : Prop where
  kind : -9223372036854775808 ≤ c.kind ∧ c.kind ≤ 9223372036854775807
  client : c.client < 18446744073709551616
  seq : c.seq < 18446744073709551616
  key : (∀ y ∈ c.key, y < 256) ∧ c.key.length ≤ 1048576
  size : -9223372036854775808 ≤ c.size ∧ c.size ≤ 9223372036854775807
  sum : c.sum < 4294967296
  version : c.version < 18446744073709551616
  epoch : c.epoch < 18446744073709551616
  group : -9223372036854775808 ≤ c.group ∧ c.group ≤ 9223372036854775807
  node : -9223372036854775808 ≤ c.node ∧ c.node ≤ 9223372036854775807
  id : c.id.ver < 18446744073709551616 ∧ (-9223372036854775808 ≤ c.id.idx ∧ c.id.idx ≤ 9223372036854775807) ∧ c.id.ep < 18446744073709551616
  map : c.mep < 18446744073709551616 ∧ (∀ y ∈ c.mem, (-9223372036854775808 ≤ y.1 ∧ y.1 ≤ 9223372036854775807) ∧ (-9223372036854775808 ≤ y.2 ∧ y.2 ≤ 9223372036854775807)) ∧ c.mem.length ≤ 1048576
structure EntOk (e : EntT) : Prop where
  index : e.index < 18446744073709551616
  term : e.term < 18446744073709551616
  kind : -9223372036854775808 ≤ e.kind ∧ e.kind ≤ 9223372036854775807
  cmd : CmdOk e.cmd
  vot : (∀ y ∈ e.voters, -9223372036854775808 ≤ y ∧ y ≤ 9223372036854775807) ∧ e.voters.length ≤ 1048576
  lea : (∀ y ∈ e.learners, -9223372036854775808 ≤ y ∧ y ≤ 9223372036854775807) ∧ e.learners.length ≤ 1048576
end Go.Proofs.YtijdbdenmcjmmaaGreatDoor
end
section
namespace Go.Proofs.YtijdbdenmcjmmaaGreatDoor
open OctMath
set_option linter.unusedVariables false
def IdOk (x : IdT) : Prop := x.ver < 18446744073709551616 ∧ (-9223372036854775808 ≤ x.idx ∧ x.idx ≤ 9223372036854775807) ∧ x.ep < 18446744073709551616
def IntsOk (l : List Int) : Prop := (∀ y ∈ l, I64 y) ∧ l.length ≤ 1048576
def MemOk (x : Int × Int) : Prop := (-9223372036854775808 ≤ x.1 ∧ x.1 ≤ 9223372036854775807) ∧ (-9223372036854775808 ≤ x.2 ∧ x.2 ≤ 9223372036854775807)
def MapOk (x : Nat × List (Int × Int)) : Prop := x.1 < 18446744073709551616 ∧ (∀ y ∈ x.2, MemOk y) ∧ x.2.length ≤ 1048576
structure ObjT where
  key : List Nat
  version : Nat
  size : Int
  sum : Nat
  group : Int
  epoch : Nat
  nodes : List Int
structure IntT where
  obj : ObjT
  client : Nat
  seq : Nat
structure SesT where
  client : Nat
  seq : Nat
  opn : Bool
  version : Nat
  code : Int
structure WasT where
  id : IdT
  node : Int
structure MetT where
  k : Int
  n : Int
  groups : Int
  mep : Nat
  mem : List (Int × Int)
  nep : Nat
  nem : List (Int × Int)
  cut : List Int
  objs : List ObjT
  ints : List IntT
  sess : List SesT
  wass : List WasT
  down : List Int
  last : Nat
end Go.Proofs.YtijdbdenmcjmmaaGreatDoor
end
