/-
  THE REFERENCE'S WRITER: lengths, short numbers, names, headers, rows of nothing, configurations, texts.
-/
import Derived.Test.YthgiafjiemiifaaPenW1
import Derived.Lib.ConvBytes
namespace Go.Proofs.Ythgiafjiemiifaa
open Go.RowKit OctMath
set_option linter.unusedVariables false
/-- Blocks of a struct that is gone through (b), and of the answer (b + 1). -/
def Two (H : Nat → Prop) (b : Nat) : Nat → Prop := fun k => H k ∨ k = b ∨ k = b + 1
structure Wr (t : TypeId) (H : Nat → Prop) (g b : Nat) (cs zs : Array Value) (w0 : World) (ys : List Nat) (w : World) : Prop where
  pen : Pen (Two H b) g ys w
  safe : Safe (Two H b) g w
  blk : Blk w b t cs
  res : Blk w (b + 1) t zs
  keep : Keep H w0 w
  nb : ¬ H b
  nr : ¬ H (b + 1)
theorem set_same {w : World} {g : Nat} {t : TypeId} {cs : Array Value} {i : Nat} {u : Value} (h : Blk w g t cs) (hi : cs[i]? = some u) : Blk (w.setCell ⟨g, i, none⟩ u) g t cs := by
  have h1 := h.set_ i u
  have e : cs.setIfInBounds i u = cs := by
    apply Array.ext_getElem?
    intro j
    rw [Array.getElem?_setIfInBounds]
    split
    · rename_i hij; subst hij; rw [hi]; split
      · rfl
      · rename_i hl; rw [Array.getElem?_eq_none (by omega)] at hi; cases hi
    · rfl
  rwa [e] at h1
section
variable {t : TypeId} {H : Nat → Prop} {g b : Nat} {cs zs : Array Value} {w0 w w' : World} {ys more : List Nat} {v : Value} {e : Ending}
theorem Wr.start (hp : Pen H g ys w) (hs : Safe H g w) (cs zs : Array Value) (t : TypeId) : Wr t H g w.heap.size cs zs w ys ((w.alloc (.cells cs t)).alloc (.cells zs t)) :=
  ⟨((hp.mono (H' := Two H w.heap.size) (fun k hk => by rcases hk with h | h | h; exact .inl h; exact .inr (by omega); exact .inr (by omega))).alloc _).alloc _,
   fun k hk => by
    have hl := hp.lt
    rcases hk with h | h | h
    · exact ⟨by have := (hs k h).1; simp; omega, (hs k h).2⟩
    · exact ⟨by simp; omega, by omega⟩
    · exact ⟨by simp; omega, by omega⟩,
   (Blk.new _ _ _).alloc _, by have h := Blk.new (w.alloc (.cells cs t)) t zs; simpa using h,
   ((Keep.refl H w).alloc _).alloc _, fun h => by have := (hs _ h).1; omega, fun h => by have := (hs _ h).1; omega⟩
theorem Wr.call (h : Wr t H g b cs zs w0 ys w) (hr : RetPen (Two H b) g (ys ++ more) v w e w') : Wr t H g b cs zs w0 (ys ++ more) w' := by
  obtain ⟨_, hp, hk⟩ := hr
  exact ⟨hp, fun k hq => ⟨Nat.lt_of_lt_of_le (h.safe k hq).1 hk.size, (h.safe k hq).2⟩, hk.blk h.blk (.inr (.inl rfl)), hk.blk h.res (.inr (.inr rfl)), h.keep.trans (hk.mono fun k hq => .inl hq), h.nb, h.nr⟩
theorem Wr.only {k : Nat} {cs' zs' : Array Value} (h : Wr t H g b cs zs w0 ys w) (hk : Two H b k) (hn : ¬ H k) (ho : Only k w w') (h1 : Blk w' b t cs') (h2 : Blk w' (b + 1) t zs') : Wr t H g b cs' zs' w0 ys w' :=
  ⟨h.pen.only ho hk (h.safe k hk).2, fun j hj => ⟨by rw [ho.size]; exact (h.safe j hj).1, (h.safe j hj).2⟩, h1, h2, h.keep.trans (Keep.only ho hn), h.nb, h.nr⟩
theorem Wr.set (h : Wr t H g b cs zs w0 ys w) {i : Nat} {u : Value} (hi : cs[i]? = some u) : Wr t H g b cs zs w0 ys (w.setCell ⟨b, i, none⟩ u) :=
  h.only (.inr (.inl rfl)) h.nb (Only.set_ w b i u) (set_same h.blk hi) ((Only.set_ w b i u).blk h.res (by omega))
theorem Wr.done (h : Wr t H g b cs zs w0 ys w) (ho : Only (b + 1) w w') (hB : Blk w' (b + 1) t cs) : Pen H g ys w' ∧ Keep H w0 w' := by
  have h1 := h.only (.inr (.inr rfl)) h.nr ho (ho.blk h.blk (by omega)) hB
  exact ⟨h1.pen.mono fun k hk => .inl (.inl hk), h1.keep⟩
end
set_option maxRecDepth 100000 in
theorem pen_len (H : Nat → Prop) (g : Nat) (xs : List Nat) (n : Nat) (w : World) (hp : Hid (Pen H g xs w)) (hS : Hid (Safe H g w)) (hn : n < 9223372036854775808) (hl : xs.length ≤ 70000000000000) :
    Calls Try.prog 75 #[.pointer (some ⟨g, 0, none⟩), .int .i64 n] w (RetPen H g (xs ++ putN n) (.int .i64 n) w) := by
  have e1 : IntKind.u64.wrap (n : Int) = (n : Int) := IntWalk.u64_in _ (by omega)
  go_enter Try.func75, Try.ntmps75
  go_wp2_with (go_at_call 74; refine (pen_u64 H g xs n _ hp hS (by omega) hl).mono ?_; rintro e w1 ⟨rfl, p1, k1⟩; have P1 := Lib.hid p1; have K1 := Lib.hid k1; have y2 : w1.cell? ⟨g, 2, none⟩ = some (.bool true) := (by obtain ⟨v, hB, _⟩ := p1.out; exact hB.cell 2); clear p1 k1)
  go_ret
  exact ⟨rfl, P1.out, K1.out⟩
set_option maxRecDepth 100000 in
theorem pen_u32 (H : Nat → Prop) (g : Nat) (xs : List Nat) (n : Nat) (w : World) (hp : Hid (Pen H g xs w)) (hS : Hid (Safe H g w)) (hn : n < 4294967296) (hl : xs.length ≤ 70000000000000) :
    Calls Try.prog 61 #[.pointer (some ⟨g, 0, none⟩), .int .u32 n] w (RetPen H g (xs ++ putN n) (.int .u32 n) w) := by
  have e0 : (n : Int) / 4294967296 = 0 := by omega
  go_enter Try.func61, Try.ntmps61
  go_wp2_with (go_at_call 74; refine (pen_u64 H g xs n _ hp hS (by omega) hl).mono ?_; rintro e w1 ⟨rfl, p1, k1⟩; have P1 := Lib.hid p1; have K1 := Lib.hid k1; clear p1 k1)
  go_ret
  exact ⟨rfl, P1.out, K1.out⟩
set_option maxRecDepth 100000 in
/-- A row of no numbers. -/
theorem pen_ints0 (H : Nat → Prop) (g : Nat) (xs : List Nat) (w : World) (hp : Hid (Pen H g xs w)) (hS : Hid (Safe H g w)) (hl : xs.length ≤ 70000000000000) :
    Calls Try.prog 67 #[.pointer (some ⟨g, 0, none⟩), .slice none 0 0] w (RetPen H g (xs ++ putN 0) (.slice none 0 0) w) := by
  go_enter Try.func67, Try.ntmps67
  go_wp2_with (go_at_call 75; refine (pen_len H g xs 0 _ hp hS (by omega) hl).mono ?_; rintro e w1 ⟨rfl, p1, k1⟩; have P1 := Lib.hid p1; have K1 := Lib.hid k1; clear p1 k1)
  go_loopw [6, 7, 8] (fun vo vi _ wr => vo = .slice none 0 0 ∧ vi = .int .i64 0 ∧ w1 = wr) (fun _ _ _ _ => 0)
  case atStart => exact ⟨rfl, rfl, rfl⟩
  case round =>
    obtain ⟨rfl, rfl, rfl⟩ := hrel
    go_wp2
    go_ret
    exact ⟨rfl, P1.out, K1.out⟩
def idB (ver : Nat) (idx : Int) (ep : Nat) : List Nat := putN ver ++ (putN (zz idx) ++ putN ep)
theorem Try.size_id : (Try.prog.info? 25).map (·.size) = some 3 := by kernel_rfl
set_option maxRecDepth 100000 in
set_option maxHeartbeats 2000000 in
theorem pen_id (H : Nat → Prop) (g : Nat) (xs : List Nat) (ver : Nat) (idx : Int) (ep : Nat) (w : World) (hp : Hid (Pen H g xs w)) (hS : Hid (Safe H g w)) (h1 : ver < 18446744073709551616) (i1 : -9223372036854775808 ≤ idx) (i2 : idx ≤ 9223372036854775807) (h3 : ep < 18446744073709551616) (hl : xs.length ≤ 60000000000000) :
    Calls Try.prog 59 #[.pointer (some ⟨g, 0, none⟩), .agg #[.int .u64 ver, .int .i64 idx, .int .u64 ep]] w (RetPen H g (xs ++ idB ver idx ep) (.agg #[.int .u64 ver, .int .i64 idx, .int .u64 ep]) w) := by
  have S0 := Lib.hid (Wr.start hp.out hS.out #[.int .u64 ver, .int .i64 idx, .int .u64 ep] #[.int .u64 0, .int .i64 0, .int .u64 0] 25)
  have tk1 : True := trivial
  have tk2 : True := trivial
  have tk3 : True := trivial
  have z0 : ((w.alloc (.cells #[.int .u64 ver, .int .i64 idx, .int .u64 ep] 25)).alloc (.cells #[.int .u64 0, .int .i64 0, .int .u64 0] 25)).cell? ⟨w.heap.size, 0, none⟩ = some (.int .u64 ver) := S0.out.blk.cell 0
  go_enter Try.func59, Try.ntmps59
  go_wp2_with (first
    | (go_at_call 74; have _t := tk1; refine (pen_u64 _ g _ ver _ (Lib.hid S0.out.pen) (Lib.hid S0.out.safe) h1 (by omega)).mono ?_; rintro e w1 hr; have S1 := S0.out.call hr; obtain ⟨rfl, -, -⟩ := hr; clear z0; have z0 : w1.cell? ⟨w.heap.size, 0, none⟩ = some (.int .u64 ver) := S1.blk.cell 0; have f0 : w1.frozen? ⟨w.heap.size, 0, none⟩ = false := S1.blk.frozen 0; have z1 : w1.cell? ⟨w.heap.size, 1, none⟩ = some (.int .i64 idx) := S1.blk.cell 1; have S1 := Lib.hid (Wr.set (i := 0) (u := .int .u64 ver) S1 rfl); clear tk1 _t)
    | (go_at_call 60; have _t := tk2; refine (pen_int _ g _ idx _ (Lib.hid S1.out.pen) (Lib.hid S1.out.safe) i1 i2 (by simp only [List.length_append]; first | omega | (have := putN_len10 (n := ver) (by omega); have := putN_len10 (n := zz idx) (zz_lt i1 i2); omega))).mono ?_; rintro e w2 hr; have S2 := S1.out.call hr; obtain ⟨rfl, -, -⟩ := hr; clear z1; have z1 : w2.cell? ⟨w.heap.size, 1, none⟩ = some (.int .i64 idx) := S2.blk.cell 1; have f1 : w2.frozen? ⟨w.heap.size, 1, none⟩ = false := S2.blk.frozen 1; have z2 : w2.cell? ⟨w.heap.size, 2, none⟩ = some (.int .u64 ep) := S2.blk.cell 2; have S2 := Lib.hid (Wr.set (i := 1) (u := .int .i64 idx) S2 rfl); clear tk2 _t)
    | (go_at_call 74; have _t := tk3; refine (pen_u64 _ g _ ep _ (Lib.hid S2.out.pen) (Lib.hid S2.out.safe) h3 (by simp only [List.length_append]; first | omega | (have := putN_len10 (n := ver) (by omega); have := putN_len10 (n := zz idx) (zz_lt i1 i2); omega))).mono ?_; rintro e w3 hr; have S3 := S2.out.call hr; obtain ⟨rfl, -, -⟩ := hr; clear z2; have z2 : w3.cell? ⟨w.heap.size, 2, none⟩ = some (.int .u64 ep) := S3.blk.cell 2; have f2 : w3.frozen? ⟨w.heap.size, 2, none⟩ = false := S3.blk.frozen 2; have S3 := Lib.hid (Wr.set (i := 2) (u := .int .u64 ep) S3 rfl); clear tk3 _t)
    | (refine wpl_load_blk rfl 25 (.tmp 3) rfl w.heap.size 25 _ _ rfl S3.out.blk Try.underlying25 rfl Try.size_id ?_)
    | (refine wpl_store_blk rfl 25 (.tmp 4) (.tmp 20) rfl (w.heap.size + 1) 25 (#[.int .u64 0, .int .i64 0, .int .u64 0]) (#[.int .u64 ver, .int .i64 idx, .int .u64 ep]) rfl rfl S3.out.res rfl Try.size_id rfl ?_; intro wz hB hO; have D := Lib.hid (S3.out.done hO.out hB.out); have BZ := hB; clear hB hO))
  refine bodyPost_ret (v := .agg #[.int .u64 ver, .int .i64 idx, .int .u64 ep]) (res_c Try.results59 rfl (load_blk BZ.out Try.underlying25 rfl Try.size_id)) rfl ⟨rfl, ?_, D.out.2⟩
  have h := D.out.1
  simpa only [idB, List.append_assoc] using h
theorem idB_len {ver : Nat} {idx : Int} {ep : Nat} (h1 : ver < 18446744073709551616) (i1 : -9223372036854775808 ≤ idx) (i2 : idx ≤ 9223372036854775807) (h3 : ep < 18446744073709551616) : (idB ver idx ep).length ≤ 30 := by
  have := putN_len10 (n := ver) h1
  have := putN_len10 (n := zz idx) (zz_lt i1 i2)
  have := putN_len10 (n := ep) h3
  simp only [idB, List.length_append]
  omega
def headB (ver : Nat) (idx : Int) (ep : Nat) (kk nn sz : Int) (sm : Nat) : List Nat := idB ver idx ep ++ (putN (zz kk) ++ (putN (zz nn) ++ (putN (zz sz) ++ putN sm)))
theorem Try.size_header : (Try.prog.info? 28).map (·.size) = some 7 := by kernel_rfl
set_option maxRecDepth 100000 in
set_option maxHeartbeats 2000000 in
theorem pen_header (H : Nat → Prop) (g : Nat) (xs : List Nat) (ver : Nat) (idx : Int) (ep : Nat) (kk nn sz : Int) (sm : Nat) (w : World) (hp : Hid (Pen H g xs w)) (hS : Hid (Safe H g w)) (h1 : ver < 18446744073709551616) (i1 : -9223372036854775808 ≤ idx) (i2 : idx ≤ 9223372036854775807) (h3 : ep < 18446744073709551616) (k1 : -9223372036854775808 ≤ kk) (k2 : kk ≤ 9223372036854775807) (n1 : -9223372036854775808 ≤ nn) (n2 : nn ≤ 9223372036854775807) (s1 : -9223372036854775808 ≤ sz) (s2 : sz ≤ 9223372036854775807) (m1 : sm < 4294967296) (hl : xs.length ≤ 50000000000000) :
    Calls Try.prog 28 #[.pointer (some ⟨g, 0, none⟩), .agg #[.int .u64 ver, .int .i64 idx, .int .u64 ep, .int .i64 kk, .int .i64 nn, .int .i64 sz, .int .u32 sm]] w (RetPen H g (xs ++ headB ver idx ep kk nn sz sm) (.agg #[.int .u64 ver, .int .i64 idx, .int .u64 ep, .int .i64 kk, .int .i64 nn, .int .i64 sz, .int .u32 sm]) w) := by
  have S0 := Lib.hid (Wr.start hp.out hS.out #[.int .u64 ver, .int .i64 idx, .int .u64 ep, .int .i64 kk, .int .i64 nn, .int .i64 sz, .int .u32 sm] #[.int .u64 0, .int .i64 0, .int .u64 0, .int .i64 0, .int .i64 0, .int .i64 0, .int .u32 0] 28)
  have tk1 : True := trivial
  have tk2 : True := trivial
  have tk3 : True := trivial
  have tk4 : True := trivial
  have tk5 : True := trivial
  have z0 : ((w.alloc (.cells #[.int .u64 ver, .int .i64 idx, .int .u64 ep, .int .i64 kk, .int .i64 nn, .int .i64 sz, .int .u32 sm] 28)).alloc (.cells #[.int .u64 0, .int .i64 0, .int .u64 0, .int .i64 0, .int .i64 0, .int .i64 0, .int .u32 0] 28)).cell? ⟨w.heap.size, 0, none⟩ = some (.int .u64 ver) := S0.out.blk.cell 0
  have z1 : ((w.alloc (.cells #[.int .u64 ver, .int .i64 idx, .int .u64 ep, .int .i64 kk, .int .i64 nn, .int .i64 sz, .int .u32 sm] 28)).alloc (.cells #[.int .u64 0, .int .i64 0, .int .u64 0, .int .i64 0, .int .i64 0, .int .i64 0, .int .u32 0] 28)).cell? ⟨w.heap.size, 1, none⟩ = some (.int .i64 idx) := S0.out.blk.cell 1
  have z2 : ((w.alloc (.cells #[.int .u64 ver, .int .i64 idx, .int .u64 ep, .int .i64 kk, .int .i64 nn, .int .i64 sz, .int .u32 sm] 28)).alloc (.cells #[.int .u64 0, .int .i64 0, .int .u64 0, .int .i64 0, .int .i64 0, .int .i64 0, .int .u32 0] 28)).cell? ⟨w.heap.size, 2, none⟩ = some (.int .u64 ep) := S0.out.blk.cell 2
  go_enter Try.func28, Try.ntmps28
  go_wp2_with (first
    | (go_at_call 59; have _t := tk1; refine (pen_id _ g _ ver idx ep _ (Lib.hid S0.out.pen) (Lib.hid S0.out.safe) h1 i1 i2 h3 (by omega)).mono ?_; rintro e w1 hr; have S1 := S0.out.call hr; obtain ⟨rfl, -, -⟩ := hr; clear z0 z1 z2; have z0 : w1.cell? ⟨w.heap.size, 0, none⟩ = some (.int .u64 ver) := S1.blk.cell 0; have f0 : w1.frozen? ⟨w.heap.size, 0, none⟩ = false := S1.blk.frozen 0; have z1 : w1.cell? ⟨w.heap.size, 1, none⟩ = some (.int .i64 idx) := S1.blk.cell 1; have f1 : w1.frozen? ⟨w.heap.size, 1, none⟩ = false := S1.blk.frozen 1; have z2 : w1.cell? ⟨w.heap.size, 2, none⟩ = some (.int .u64 ep) := S1.blk.cell 2; have f2 : w1.frozen? ⟨w.heap.size, 2, none⟩ = false := S1.blk.frozen 2; have z3 : w1.cell? ⟨w.heap.size, 3, none⟩ = some (.int .i64 kk) := S1.blk.cell 3; have S1 := Lib.hid (Wr.set (i := 2) (u := .int .u64 ep) (Wr.set (i := 1) (u := .int .i64 idx) (Wr.set (i := 0) (u := .int .u64 ver) S1 rfl) rfl) rfl); clear tk1 _t)
    | (go_at_call 60; have _t := tk2; refine (pen_int _ g _ kk _ (Lib.hid S1.out.pen) (Lib.hid S1.out.safe) k1 k2 (by simp only [List.length_append]; have := idB_len h1 i1 i2 h3; omega)).mono ?_; rintro e w2 hr; have S2 := S1.out.call hr; obtain ⟨rfl, -, -⟩ := hr; clear z3; have z3 : w2.cell? ⟨w.heap.size, 3, none⟩ = some (.int .i64 kk) := S2.blk.cell 3; have f3 : w2.frozen? ⟨w.heap.size, 3, none⟩ = false := S2.blk.frozen 3; have z4 : w2.cell? ⟨w.heap.size, 4, none⟩ = some (.int .i64 nn) := S2.blk.cell 4; have S2 := Lib.hid (Wr.set (i := 3) (u := .int .i64 kk) S2 rfl); clear tk2 _t)
    | (go_at_call 60; have _t := tk3; refine (pen_int _ g _ nn _ (Lib.hid S2.out.pen) (Lib.hid S2.out.safe) n1 n2 (by simp only [List.length_append]; have := idB_len h1 i1 i2 h3; have := putN_len10 (n := zz kk) (zz_lt k1 k2); omega)).mono ?_; rintro e w3 hr; have S3 := S2.out.call hr; obtain ⟨rfl, -, -⟩ := hr; clear z4; have z4 : w3.cell? ⟨w.heap.size, 4, none⟩ = some (.int .i64 nn) := S3.blk.cell 4; have f4 : w3.frozen? ⟨w.heap.size, 4, none⟩ = false := S3.blk.frozen 4; have z5 : w3.cell? ⟨w.heap.size, 5, none⟩ = some (.int .i64 sz) := S3.blk.cell 5; have S3 := Lib.hid (Wr.set (i := 4) (u := .int .i64 nn) S3 rfl); clear tk3 _t)
    | (go_at_call 60; have _t := tk4; refine (pen_int _ g _ sz _ (Lib.hid S3.out.pen) (Lib.hid S3.out.safe) s1 s2 (by simp only [List.length_append]; have := idB_len h1 i1 i2 h3; have := putN_len10 (n := zz kk) (zz_lt k1 k2); have := putN_len10 (n := zz nn) (zz_lt n1 n2); omega)).mono ?_; rintro e w4 hr; have S4 := S3.out.call hr; obtain ⟨rfl, -, -⟩ := hr; clear z5; have z5 : w4.cell? ⟨w.heap.size, 5, none⟩ = some (.int .i64 sz) := S4.blk.cell 5; have f5 : w4.frozen? ⟨w.heap.size, 5, none⟩ = false := S4.blk.frozen 5; have z6 : w4.cell? ⟨w.heap.size, 6, none⟩ = some (.int .u32 sm) := S4.blk.cell 6; have S4 := Lib.hid (Wr.set (i := 5) (u := .int .i64 sz) S4 rfl); clear tk4 _t)
    | (go_at_call 61; have _t := tk5; refine (pen_u32 _ g _ sm _ (Lib.hid S4.out.pen) (Lib.hid S4.out.safe) m1 (by simp only [List.length_append]; have := idB_len h1 i1 i2 h3; have := putN_len10 (n := zz kk) (zz_lt k1 k2); have := putN_len10 (n := zz nn) (zz_lt n1 n2); have := putN_len10 (n := zz sz) (zz_lt s1 s2); omega)).mono ?_; rintro e w5 hr; have S5 := S4.out.call hr; obtain ⟨rfl, -, -⟩ := hr; clear z6; have z6 : w5.cell? ⟨w.heap.size, 6, none⟩ = some (.int .u32 sm) := S5.blk.cell 6; have f6 : w5.frozen? ⟨w.heap.size, 6, none⟩ = false := S5.blk.frozen 6; have S5 := Lib.hid (Wr.set (i := 6) (u := .int .u32 sm) S5 rfl); clear tk5 _t)
    | (refine wpl_load_blk rfl 28 (.tmp 3) rfl w.heap.size 28 _ _ rfl S5.out.blk Try.underlying28 rfl Try.size_header ?_)
    | (refine wpl_store_blk rfl 28 (.tmp 4) (.tmp 30) rfl (w.heap.size + 1) 28 (#[.int .u64 0, .int .i64 0, .int .u64 0, .int .i64 0, .int .i64 0, .int .i64 0, .int .u32 0]) (#[.int .u64 ver, .int .i64 idx, .int .u64 ep, .int .i64 kk, .int .i64 nn, .int .i64 sz, .int .u32 sm]) rfl rfl S5.out.res rfl Try.size_header rfl ?_; intro wz hB hO; have D := Lib.hid (S5.out.done hO.out hB.out); have BZ := hB; clear hB hO))
  refine bodyPost_ret (v := .agg #[.int .u64 ver, .int .i64 idx, .int .u64 ep, .int .i64 kk, .int .i64 nn, .int .i64 sz, .int .u32 sm]) (res_c Try.results28 rfl (load_blk BZ.out Try.underlying28 rfl Try.size_header)) rfl ⟨rfl, ?_, D.out.2⟩
  have h := D.out.1
  simpa only [headB, List.append_assoc] using h
theorem headB_len {ver : Nat} {idx : Int} {ep : Nat} {kk nn sz : Int} {sm : Nat} (h1 : ver < 18446744073709551616) (i1 : -9223372036854775808 ≤ idx) (i2 : idx ≤ 9223372036854775807) (h3 : ep < 18446744073709551616) (k1 : -9223372036854775808 ≤ kk) (k2 : kk ≤ 9223372036854775807) (n1 : -9223372036854775808 ≤ nn) (n2 : nn ≤ 9223372036854775807) (s1 : -9223372036854775808 ≤ sz) (s2 : sz ≤ 9223372036854775807) (m1 : sm < 4294967296) : (headB ver idx ep kk nn sz sm).length ≤ 70 := by
  have := idB_len h1 i1 i2 h3
  have := putN_len10 (n := zz kk) (zz_lt k1 k2)
  have := putN_len10 (n := zz nn) (zz_lt n1 n2)
  have := putN_len10 (n := zz sz) (zz_lt s1 s2)
  have := putN_len10 (n := sm) (by omega)
  simp only [headB, List.length_append]
  omega
theorem Try.size_conf0 : (Try.prog.info? 38).map (·.size) = some 2 := by kernel_rfl
set_option maxRecDepth 100000 in
set_option maxHeartbeats 2000000 in
theorem pen_conf0 (H : Nat → Prop) (g : Nat) (xs : List Nat)  (w : World) (hp : Hid (Pen H g xs w)) (hS : Hid (Safe H g w)) (hl : xs.length ≤ 50000000000000) :
    Calls Try.prog 34 #[.pointer (some ⟨g, 0, none⟩), .agg #[.slice none 0 0, .slice none 0 0]] w (RetPen H g (xs ++ (putN 0 ++ putN 0)) (.agg #[.slice none 0 0, .slice none 0 0]) w) := by
  have S0 := Lib.hid (Wr.start hp.out hS.out #[.slice none 0 0, .slice none 0 0] #[.slice none 0 0, .slice none 0 0] 38)
  have tk1 : True := trivial
  have tk2 : True := trivial
  have z0 : ((w.alloc (.cells #[.slice none 0 0, .slice none 0 0] 38)).alloc (.cells #[.slice none 0 0, .slice none 0 0] 38)).cell? ⟨w.heap.size, 0, none⟩ = some (.slice none 0 0) := S0.out.blk.cell 0
  go_enter Try.func34, Try.ntmps34
  go_wp2_with (first
    | (go_at_call 67; have _t := tk1; refine (pen_ints0 _ g _ _ (Lib.hid S0.out.pen) (Lib.hid S0.out.safe) (by omega)).mono ?_; rintro e w1 hr; have S1 := S0.out.call hr; obtain ⟨rfl, -, -⟩ := hr; clear z0; have z0 : w1.cell? ⟨w.heap.size, 0, none⟩ = some (.slice none 0 0) := S1.blk.cell 0; have f0 : w1.frozen? ⟨w.heap.size, 0, none⟩ = false := S1.blk.frozen 0; have z1 : w1.cell? ⟨w.heap.size, 1, none⟩ = some (.slice none 0 0) := S1.blk.cell 1; have S1 := Lib.hid (Wr.set (i := 0) (u := .slice none 0 0) S1 rfl); clear tk1 _t)
    | (go_at_call 67; have _t := tk2; refine (pen_ints0 _ g _ _ (Lib.hid S1.out.pen) (Lib.hid S1.out.safe) (by simp only [List.length_append]; have := putN_len10 (n := 0) (by omega); omega)).mono ?_; rintro e w2 hr; have S2 := S1.out.call hr; obtain ⟨rfl, -, -⟩ := hr; clear z1; have z1 : w2.cell? ⟨w.heap.size, 1, none⟩ = some (.slice none 0 0) := S2.blk.cell 1; have f1 : w2.frozen? ⟨w.heap.size, 1, none⟩ = false := S2.blk.frozen 1; have S2 := Lib.hid (Wr.set (i := 1) (u := .slice none 0 0) S2 rfl); clear tk2 _t)
    | (refine wpl_load_blk rfl 38 (.tmp 3) rfl w.heap.size 38 _ _ rfl S2.out.blk Try.underlying38 rfl Try.size_conf0 ?_)
    | (refine wpl_store_blk rfl 38 (.tmp 4) (.tmp 15) rfl (w.heap.size + 1) 38 (#[.slice none 0 0, .slice none 0 0]) (#[.slice none 0 0, .slice none 0 0]) rfl rfl S2.out.res rfl Try.size_conf0 rfl ?_; intro wz hB hO; have D := Lib.hid (S2.out.done hO.out hB.out); have BZ := hB; clear hB hO))
  refine bodyPost_ret (v := .agg #[.slice none 0 0, .slice none 0 0]) (res_c Try.results34 rfl (load_blk BZ.out Try.underlying38 rfl Try.size_conf0)) rfl ⟨rfl, ?_, D.out.2⟩
  have h := D.out.1
  simpa only [List.append_nil, List.append_assoc] using h
/-- A text's bytes. -/
def octs (s : ByteArray) : List Nat := s.data.toList.map (·.toNat)
theorem octs_len (s : ByteArray) : (octs s).length = s.size := by unfold octs; rw [List.length_map, Array.length_toList]; rfl
theorem octs_byt (s : ByteArray) : Byt (octs s) := by
  intro x hx
  obtain ⟨b, _, rfl⟩ := List.mem_map.1 hx
  exact b.toNat_lt
theorem strOf_octs (s : ByteArray) : strOf (octs s) = s := by
  unfold strOf octs
  rw [List.map_map, show (UInt8.ofNat ∘ fun b : UInt8 => b.toNat) = id from by funext b; simp, List.map_id]
theorem octs_bel (w : World) (e : TypeId) (s : ByteArray) : Below w.heap.size w (Lib.bytesWorld w e s) := by
  have h : Below w.heap.size w (w.drew.alloc (.cells (Lib.bytesCells w e s) e)) := ((Below.refl _ _).drew).alloc (Nat.le_refl _) _
  exact ⟨h.os, h.tape, h.output, by rw [Lib.bytesWorld_size]; omega, fun j hj => Lib.bytesWorld_at_old w e s j hj⟩
theorem octs_reads (w : World) (e : TypeId) (s : ByteArray) : Reads (Lib.bytesWorld w e s) (w.heap.size + 1) 1 (some ⟨w.heap.size, 0, none⟩) s.size ((octs s).map bv) := by
  refine ⟨by rw [List.length_map, octs_len]; omega, fun _ => ⟨_, rfl, Nat.lt_succ_self _, fun j u hu => ?_⟩⟩
  have hj : j < s.size := by
    rw [← octs_len s, ← List.length_map (f := bv)]
    exact (List.getElem?_eq_some_iff.1 hu).1
  have h5 : (⟨w.heap.size, 0, none⟩ : Addr).add j = ⟨w.heap.size, j, none⟩ := by unfold Addr.add; split <;> simp_all
  rw [h5, Lib.bytesWorld_cell w e s j hj, ← hu]
  have hj' : j < s.data.toList.length := by rw [Array.length_toList]; exact hj
  simp only [octs, List.getElem?_map, List.getElem?_eq_getElem hj', Option.map_some, bv, List.getD_eq_getElem?_getD, Option.getD_some]
set_option maxRecDepth 100000 in
set_option maxHeartbeats 1000000 in
theorem pen_text (H : Nat → Prop) (g : Nat) (xs : List Nat) (key : ByteArray) (w : World) (hp : Hid (Pen H g xs w)) (hS : Hid (Safe H g w)) (hk : key.size ≤ 60000000000000) (hl : xs.length ≤ 70000000000000) :
    Calls Try.prog 81 #[.pointer (some ⟨g, 0, none⟩), .string key] w (RetPen H g (xs ++ (putN key.size ++ octs key)) (.string key) w) := by
  have kc := fun W : World => Lib.run_convert_string_bytes (P := Try.prog) W 9 22 5 key Try.underlying9 Try.underlying22 Try.underlying5
  have hb := octs_bel w 5 key
  have hr := octs_reads w 5 key
  have sz : (Lib.bytesWorld w 5 key).heap.size = w.heap.size + 1 := Lib.bytesWorld_size w 5 key
  have HP : Hid (Pen (fun k => H k ∨ k = w.heap.size) g xs (Lib.bytesWorld w 5 key)) := Lib.hid ((hp.out.mono fun k hk => by rcases hk with h | h; exact .inl h; exact .inr (by omega)).later hb)
  have HS : Hid (Safe (fun k => H k ∨ k = w.heap.size) g (Lib.bytesWorld w 5 key)) := Lib.hid fun k hk => by
    have hg := hp.out.lt
    rcases hk with h | h
    · exact ⟨by have := (hS.out k h).1; omega, (hS.out k h).2⟩
    · exact ⟨by omega, by omega⟩
  have HR := Lib.hid (hr.more (B' := (Lib.bytesWorld w 5 key).heap.size) (by rw [sz]; omega))
  have HB := Lib.hid hb
  clear hb hr sz
  obtain ⟨gc, hgc⟩ : ∃ gc, grownCap w key.size 0 5 = gc := ⟨_, rfl⟩
  have kc1 := kc w
  rw [hgc] at kc1
  clear kc
  go_enter Try.func81, Try.ntmps81
  go_wp2_with (go_at_call 96; refine (pen_bytes _ g xs (some ⟨w.heap.size, 0, none⟩) key.size gc (octs key) _ HP HS HR (by omega) hl).mono ?_; rintro e w1 ⟨rfl, p1, k1⟩; have P1 := Lib.hid p1; have K1 := Lib.hid k1; have kc2 := run_conv_bytes (P := Try.prog) (src := 22) (dst := 9) (cap := gc) Try.underlying22 Try.underlying5 Try.underlying9 (k1.reads HR.out (fun _ ad e => by injection e with e; rw [← e]; exact .inr rfl)); rw [strOf_octs] at kc2; clear p1 k1 kc1)
  go_ret
  exact ⟨rfl, P1.out.mono fun k hk => .inl (.inl hk), (Keep.below HB.out).trans (K1.out.mono fun k hk => .inl hk)⟩
end Go.Proofs.Ythgiafjiemiifaa
