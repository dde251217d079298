/-
  THE REFERENCE'S WRITER: lengths, short numbers, names, headers, rows of nothing, configurations, texts.
-/
import Derived.Test.YtmdffmajnbokeaaPenW1
import Derived.Lib.ConvBytes
namespace Go.Proofs.Ytmdffmajnbokeaa
open Go.RowKit OctMath
set_option linter.unusedVariables false
/-- Blocks of a struct that is gone through (b), and of the answer (b + 1). -/
def Two (H : Nat → Prop) (b : Nat) : Nat → Prop := fun k => H k ∨ k = b ∨ k = b + 1
structure Wr (t : TypeId) (H : Nat → Prop) (g b : Nat) (cs zs : Array Value) (w0 : World) (ys : List Nat) (w : World) : Prop where
  pen : Pen (Two H b) g ys w
  safe : Safe (Two H b) g w
  blk : Blk w b t cs
  res : Blk w (b + 1) t zs
  keep : Keep H w0 w
  nb : ¬ H b
  nr : ¬ H (b + 1)
theorem set_same {w : World} {g : Nat} {t : TypeId} {cs : Array Value} {i : Nat} {u : Value} (h : Blk w g t cs) (hi : cs[i]? = some u) : Blk (w.setCell ⟨g, i, none⟩ u) g t cs := by
  have h1 := h.set_ i u
  have e : cs.setIfInBounds i u = cs := by
    apply Array.ext_getElem?
    intro j
    rw [Array.getElem?_setIfInBounds]
    split
    · rename_i hij; subst hij; rw [hi]; split
      · rfl
      · rename_i hl; rw [Array.getElem?_eq_none (by omega)] at hi; cases hi
    · rfl
  rwa [e] at h1
section
variable {t : TypeId} {H : Nat → Prop} {g b : Nat} {cs zs : Array Value} {w0 w w' : World} {ys more : List Nat} {v : Value} {e : Ending}
theorem Wr.start (hp : Pen H g ys w) (hs : Safe H g w) (cs zs : Array Value) (t : TypeId) : Wr t H g w.heap.size cs zs w ys ((w.alloc (.cells cs t)).alloc (.cells zs t)) :=
  ⟨((hp.mono (H' := Two H w.heap.size) (fun k hk => by rcases hk with h | h | h; exact .inl h; exact .inr (by omega); exact .inr (by omega))).alloc _).alloc _,
   fun k hk => by
    have hl := hp.lt
    rcases hk with h | h | h
    · exact ⟨by have := (hs k h).1; simp; omega, (hs k h).2⟩
    · exact ⟨by simp; omega, by omega⟩
    · exact ⟨by simp; omega, by omega⟩,
   (Blk.new _ _ _).alloc _, by have h := Blk.new (w.alloc (.cells cs t)) t zs; simpa using h,
   ((Keep.refl H w).alloc _).alloc _, fun h => by have := (hs _ h).1; omega, fun h => by have := (hs _ h).1; omega⟩
theorem Wr.call (h : Wr t H g b cs zs w0 ys w) (hr : RetPen (Two H b) g (ys ++ more) v w e w') : Wr t H g b cs zs w0 (ys ++ more) w' := by
  obtain ⟨_, hp, hk⟩ := hr
  exact ⟨hp, fun k hq => ⟨Nat.lt_of_lt_of_le (h.safe k hq).1 hk.size, (h.safe k hq).2⟩, hk.blk h.blk (.inr (.inl rfl)), hk.blk h.res (.inr (.inr rfl)), h.keep.trans (hk.mono fun k hq => .inl hq), h.nb, h.nr⟩
theorem Wr.only {k : Nat} {cs' zs' : Array Value} (h : Wr t H g b cs zs w0 ys w) (hk : Two H b k) (hn : ¬ H k) (ho : Only k w w') (h1 : Blk w' b t cs') (h2 : Blk w' (b + 1) t zs') : Wr t H g b cs' zs' w0 ys w' :=
  ⟨h.pen.only ho hk (h.safe k hk).2, fun j hj => ⟨by rw [ho.size]; exact (h.safe j hj).1, (h.safe j hj).2⟩, h1, h2, h.keep.trans (Keep.only ho hn), h.nb, h.nr⟩
theorem Wr.set (h : Wr t H g b cs zs w0 ys w) {i : Nat} {u : Value} (hi : cs[i]? = some u) : Wr t H g b cs zs w0 ys (w.setCell ⟨b, i, none⟩ u) :=
  h.only (.inr (.inl rfl)) h.nb (Only.set_ w b i u) (set_same h.blk hi) ((Only.set_ w b i u).blk h.res (by omega))
theorem Wr.done (h : Wr t H g b cs zs w0 ys w) (ho : Only (b + 1) w w') (hB : Blk w' (b + 1) t cs) : Pen H g ys w' ∧ Keep H w0 w' := by
  have h1 := h.only (.inr (.inr rfl)) h.nr ho (ho.blk h.blk (by omega)) hB
  exact ⟨h1.pen.mono fun k hk => .inl (.inl hk), h1.keep⟩
end
set_option maxRecDepth 100000 in
theorem pen_len (H : Nat → Prop) (g : Nat) (xs : List Nat) (n : Nat) (w : World) (hp : Hid (Pen H g xs w)) (hS : Hid (Safe H g w)) (hn : n < 9223372036854775808) (hl : xs.length ≤ 70000000000000) :
    Calls Try.prog 50 #[.pointer (some ⟨g, 0, none⟩), .int .i64 n] w (RetPen H g (xs ++ putN n) (.int .i64 n) w) := by
  have e1 : IntKind.u64.wrap (n : Int) = (n : Int) := IntWalk.u64_in _ (by omega)
  go_enter Try.func50, Try.ntmps50
  go_wp2_with (go_at_call 49; refine (pen_u64 H g xs n _ hp hS (by omega) hl).mono ?_; rintro e w1 ⟨rfl, p1, k1⟩; have P1 := Lib.hid p1; have K1 := Lib.hid k1; have y2 : w1.cell? ⟨g, 2, none⟩ = some (.bool true) := (by obtain ⟨v, hB, _⟩ := p1.out; exact hB.cell 2); clear p1 k1)
  go_ret
  exact ⟨rfl, P1.out, K1.out⟩
def idB (ver : Nat) (idx : Int) (ep : Nat) : List Nat := putN ver ++ (putN (zz idx) ++ putN ep)
theorem idB_len {ver : Nat} {idx : Int} {ep : Nat} (h1 : ver < 18446744073709551616) (i1 : -9223372036854775808 ≤ idx) (i2 : idx ≤ 9223372036854775807) (h3 : ep < 18446744073709551616) : (idB ver idx ep).length ≤ 30 := by
  have := putN_len10 (n := ver) h1
  have := putN_len10 (n := zz idx) (zz_lt i1 i2)
  have := putN_len10 (n := ep) h3
  simp only [idB, List.length_append]
  omega
def headB (ver : Nat) (idx : Int) (ep : Nat) (kk nn sz : Int) (sm : Nat) : List Nat := idB ver idx ep ++ (putN (zz kk) ++ (putN (zz nn) ++ (putN (zz sz) ++ putN sm)))
theorem headB_len {ver : Nat} {idx : Int} {ep : Nat} {kk nn sz : Int} {sm : Nat} (h1 : ver < 18446744073709551616) (i1 : -9223372036854775808 ≤ idx) (i2 : idx ≤ 9223372036854775807) (h3 : ep < 18446744073709551616) (k1 : -9223372036854775808 ≤ kk) (k2 : kk ≤ 9223372036854775807) (n1 : -9223372036854775808 ≤ nn) (n2 : nn ≤ 9223372036854775807) (s1 : -9223372036854775808 ≤ sz) (s2 : sz ≤ 9223372036854775807) (m1 : sm < 4294967296) : (headB ver idx ep kk nn sz sm).length ≤ 70 := by
  have := idB_len h1 i1 i2 h3
  have := putN_len10 (n := zz kk) (zz_lt k1 k2)
  have := putN_len10 (n := zz nn) (zz_lt n1 n2)
  have := putN_len10 (n := zz sz) (zz_lt s1 s2)
  have := putN_len10 (n := sm) (by omega)
  simp only [headB, List.length_append]
  omega
/-- A text's bytes. -/
def octs (s : ByteArray) : List Nat := s.data.toList.map (·.toNat)
theorem octs_len (s : ByteArray) : (octs s).length = s.size := by unfold octs; rw [List.length_map, Array.length_toList]; rfl
theorem octs_byt (s : ByteArray) : Byt (octs s) := by
  intro x hx
  obtain ⟨b, _, rfl⟩ := List.mem_map.1 hx
  exact b.toNat_lt
theorem strOf_octs (s : ByteArray) : strOf (octs s) = s := by
  unfold strOf octs
  rw [List.map_map, show (UInt8.ofNat ∘ fun b : UInt8 => b.toNat) = id from by funext b; simp, List.map_id]
theorem octs_bel (w : World) (e : TypeId) (s : ByteArray) : Below w.heap.size w (Lib.bytesWorld w e s) := by
  have h : Below w.heap.size w (w.drew.alloc (.cells (Lib.bytesCells w e s) e)) := ((Below.refl _ _).drew).alloc (Nat.le_refl _) _
  exact ⟨h.os, h.tape, h.output, by rw [Lib.bytesWorld_size]; omega, fun j hj => Lib.bytesWorld_at_old w e s j hj⟩
theorem octs_reads (w : World) (e : TypeId) (s : ByteArray) : Reads (Lib.bytesWorld w e s) (w.heap.size + 1) 1 (some ⟨w.heap.size, 0, none⟩) s.size ((octs s).map bv) := by
  refine ⟨by rw [List.length_map, octs_len]; omega, fun _ => ⟨_, rfl, Nat.lt_succ_self _, fun j u hu => ?_⟩⟩
  have hj : j < s.size := by
    rw [← octs_len s, ← List.length_map (f := bv)]
    exact (List.getElem?_eq_some_iff.1 hu).1
  have h5 : (⟨w.heap.size, 0, none⟩ : Addr).add j = ⟨w.heap.size, j, none⟩ := by unfold Addr.add; split <;> simp_all
  rw [h5, Lib.bytesWorld_cell w e s j hj, ← hu]
  have hj' : j < s.data.toList.length := by rw [Array.length_toList]; exact hj
  simp only [octs, List.getElem?_map, List.getElem?_eq_getElem hj', Option.map_some, bv, List.getD_eq_getElem?_getD, Option.getD_some]
end Go.Proofs.Ytmdffmajnbokeaa
