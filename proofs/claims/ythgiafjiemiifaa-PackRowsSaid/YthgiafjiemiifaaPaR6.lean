/-
  THE PROGRAM'S READER: structs.
-/
import Derived.Test.YthgiafjiemiifaaPaR5
namespace Go.Proofs.Ythgiafjiemiifaa
open Go.RowKit OctMath
set_option linter.unusedVariables false
theorem Try.sizeI : (Try.prog.info? 25).map (·.size) = some 3 := by kernel_rfl
/-- Where a reading stands: the page, and that nothing but the page's own block has turned of what was there. -/
structure RS (g : Nat) (A : Option Addr) (n cap : Nat) (bs : List Nat) (w : World) (q : Nat) (wr : World) : Prop where
  pg : PG g A n cap bs q wr
  kp : Keep (Not g) w wr
section
variable {g : Nat} {A : Option Addr} {n cap : Nat} {bs : List Nat} {w wr w2 : World} {p q q' : Nat}
theorem RS.start (h : PG g A n cap bs q w) : RS g A n cap bs w q w := ⟨h, Keep.refl _ _⟩
theorem RS.alloc (h : RS g A n cap bs w q wr) (o : Obj) : RS g A n cap bs w q (wr.alloc o) := ⟨h.pg.below ((Below.refl _ _).alloc (Nat.le_refl _) o), h.kp.alloc o⟩
theorem RS.read (h : RS g A n cap bs w q wr) (hp : PG g A n cap bs q' w2) (hk : Keep (Not g) wr w2) : RS g A n cap bs w q' w2 := ⟨hp, h.kp.trans hk⟩
theorem RS.only (h : RS g A n cap bs w q wr) (hP : PG g A n cap bs p w) {x : Nat} (hx : w.heap.size ≤ x) (ho : Only x wr w2) : RS g A n cap bs w q w2 := by
  have hk : Keep (Not g) w w2 := ⟨ho.os.trans h.kp.os, ho.tape.trans h.kp.tape, ho.output.trans h.kp.output, Nat.le_trans h.kp.size (by rw [ho.size]; exact Nat.le_refl _), fun b hb hl => (ho.block b (by omega)).trans (h.kp.block b hb hl)⟩
  have hg := hP.blk.lt
  exact ⟨hP.turn hk (ho.blk h.pg.blk (by omega)) h.pg.pl, hk⟩
theorem Keep.notBlk {k : Nat} {t : TypeId} {cs : Array Value} (h : Keep (Not g) w w2) (hB : Blk w k t cs) (hk : k ≠ g) : Blk w2 k t cs := h.blk hB hk
end
def vId (d : IdT) (_ : World) (v : Value) : Prop := v = .agg #[.int .u64 (d.ver : Int), .int .i64 d.idx, .int .u64 (d.ep : Int)] ∧ d.ver < 18446744073709551616 ∧ (-9223372036854775808 ≤ d.idx ∧ d.idx ≤ 9223372036854775807) ∧ d.ep < 18446744073709551616
set_option maxRecDepth 100000 in
set_option maxHeartbeats 4000000 in
theorem pg_id (g : Nat) (A : Option Addr) (n cap : Nat) (bs : List Nat) (p : Nat) (w : World) (hP : Hid (PG g A n cap bs p w)) :
    Calls Try.prog 56 #[.pointer (some ⟨g, 0, none⟩)] w (RetR (rId bs p) vId g A n cap bs w) := by
  have HR := Lib.hid (show rId bs p = ((rNum bs).bind fun v => (rInt bs).bind fun i => (rNum bs).bind fun e => Rd.pure ⟨v, i, e⟩) p from rfl)
  obtain ⟨w0, ew0⟩ : ∃ w0, w.alloc (.cells #[.int .u64 0, .int .i64 0, .int .u64 0] 25) = w0 := ⟨_, rfl⟩
  have hs := (RS.start hP.out).alloc (.cells #[.int .u64 0, .int .i64 0, .int .u64 0] 25)
  have hx : Blk (w.alloc (.cells #[.int .u64 0, .int .i64 0, .int .u64 0] 25)) w.heap.size 25 #[.int .u64 0, .int .i64 0, .int .u64 0] := by have := Blk.new w 25 #[.int .u64 0, .int .i64 0, .int .u64 0]; simpa using this
  rw [ew0] at hs hx
  have HS := Lib.hid hs
  have HX := Lib.hid hx
  have HG := Lib.hid hP.out.blk.lt
  clear hs hx
  go_enter Try.func56, Try.ntmps56
  go_wp2_with fail
  clear ew0
  refine (pg_number g A n cap bs p _ (Lib.hid HS.out.pg)).mono ?_
  cases h1 : rNum bs p with
  | none =>
    rw [Rd.bind_none h1] at HR
    rintro e w1 ⟨rfl, hk⟩
    refine ⟨rfl, ?_⟩
    rw [HR.out]
    exact RetR.none_ (HS.out.kp.trans hk)
  | some x =>
    obtain ⟨x1, q1⟩ := x
    rw [Rd.bind_some h1] at HR
    rintro e w1 ⟨v, rfl, ⟨rfl, b1⟩, hp, hk⟩
    have HX := Lib.hid (hk.notBlk HX.out (by have := HG.out; omega))
    have HS := Lib.hid (HS.out.read hp hk)
    clear hp hk
    go_wp2_with fail
    refine (pg_int g A n cap bs q1 _ (Lib.hid HS.out.pg)).mono ?_
    cases h2 : rInt bs q1 with
    | none =>
      rw [Rd.bind_none h2] at HR
      rintro e w2 ⟨rfl, hk⟩
      refine ⟨rfl, ?_⟩
      rw [HR.out]
      exact RetR.none_ (HS.out.kp.trans hk)
    | some x =>
      obtain ⟨x2, q2⟩ := x
      rw [Rd.bind_some h2] at HR
      rintro e w2 ⟨v, rfl, ⟨rfl, b2⟩, hp, hk⟩
      have HX := Lib.hid (hk.notBlk HX.out (by have := HG.out; omega))
      have HS := Lib.hid (HS.out.read hp hk)
      clear hp hk
      go_wp2_with fail
      refine (pg_number g A n cap bs q2 _ (Lib.hid HS.out.pg)).mono ?_
      cases h3 : rNum bs q2 with
      | none =>
        rw [Rd.bind_none h3] at HR
        rintro e w3 ⟨rfl, hk⟩
        refine ⟨rfl, ?_⟩
        rw [HR.out]
        exact RetR.none_ (HS.out.kp.trans hk)
      | some x =>
        obtain ⟨x3, q3⟩ := x
        rw [Rd.bind_some h3] at HR
        rintro e w3 ⟨v, rfl, ⟨rfl, b3⟩, hp, hk⟩
        have HX := Lib.hid (hk.notBlk HX.out (by have := HG.out; omega))
        have HS := Lib.hid (HS.out.read hp hk)
        clear hp hk
        go_wp2_with (refine wpl_store_blk rfl 25 (.tmp 2) (.tmp 13) rfl w.heap.size 25 _ #[.int .u64 (x1 : Int), .int .i64 x2, .int .u64 (x3 : Int)] rfl rfl HX.out rfl Try.sizeI rfl ?_; intro wf hB hO)
        have HS := Lib.hid (HS.out.only hP.out (by omega) hO.out)
        refine bodyPost_ret (v := .agg #[.int .u64 (x1 : Int), .int .i64 x2, .int .u64 (x3 : Int)]) (res_c Try.results56 rfl (load_blk hB.out Try.underlying25 rfl Try.sizeI)) rfl ?_
        rw [HR.out]
        exact RetR.some_ ⟨rfl, b1, b2, b3⟩ HS.out.pg HS.out.kp
end Go.Proofs.Ythgiafjiemiifaa
