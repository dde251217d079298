/-
  THE REFERENCE'S WRITER: lengths, short numbers, names, headers, rows of nothing, configurations, texts; THE REFERENCE'S WRITER: what it begins with, and what was written. (lines of PenW3 that serve every seat); THE PROGRAM'S READER: a page; THE PROGRAM'S READER: numbers with a sign, words, flags, texts. (printed by gen_par2.py); THE PROGRAM'S READER: texts; WORDS that several packages share: whole numbers and members as cells. (joined out of PenW2, PenB, PaR1, PaR2, PaR3, Iv by shake.py)
-/
import Derived.Lib.ConvBytes
import Derived.Deep.RegionHeld3
import Derived.Test.YtlnneacgllhdhaaGreatDoorWpv06
import Derived.Test.YtlnneacgllhdhaaGreatDoorWpv04
import Derived.Test.YtlnneacgllhdhaaGreatDoorWpv03
import Derived.Test.YtlnneacgllhdhaaGreatDoorWpv01
section
namespace Go.Proofs.YtlnneacgllhdhaaGreatDoor
open Go.RowKit OctMath
set_option linter.unusedVariables false
def Two (H : Nat → Prop) (b : Nat) : Nat → Prop := fun k => H k ∨ k = b ∨ k = b + 1
structure Wr (t : TypeId) (H : Nat → Prop) (g b : Nat) (cs zs : Array Value) (w0 : World) (ys : List Nat) (w : World) : Prop where
  pen : Pen (Two H b) g ys w
  safe : Safe (Two H b) g w
  blk : Blk w b t cs
  res : Blk w (b + 1) t zs
  keep : Keep H w0 w
  nb : ¬ H b
  nr : ¬ H (b + 1)
theorem set_same {w : World} {g : Nat} {t : TypeId} {cs : Array Value} {i : Nat} {u : Value} (h : Blk w g t cs) (hi : cs[i]? = some u) : Blk (w.setCell ⟨g, i, none⟩ u) g t cs := by
  have h1 := h.set_ i u
  have e : cs.setIfInBounds i u = cs := by
    apply Array.ext_getElem?
    intro j
    rw [Array.getElem?_setIfInBounds]
    split
    · rename_i hij; subst hij; rw [hi]; split
      · rfl
      · rename_i hl; rw [Array.getElem?_eq_none (by omega)] at hi; cases hi
    · rfl
  rwa [e] at h1
section
variable {t : TypeId} {H : Nat → Prop} {g b : Nat} {cs zs : Array Value} {w0 w w' : World} {ys more : List Nat} {v : Value} {e : Ending}
theorem Wr.start (hp : Pen H g ys w) (hs : Safe H g w) (cs zs : Array Value) (t : TypeId) : Wr t H g w.heap.size cs zs w ys ((w.alloc (.cells cs t)).alloc (.cells zs t)) :=
  ⟨((hp.mono (H' := Two H w.heap.size) (fun k hk => by rcases hk with h | h | h; exact .inl h; exact .inr (by omega); exact .inr (by omega))).alloc _).alloc _,
   fun k hk => by
    have hl := hp.lt
    rcases hk with h | h | h
    · exact ⟨by have := (hs k h).1; simp; omega, (hs k h).2⟩
    · exact ⟨by simp; omega, by omega⟩
    · exact ⟨by simp; omega, by omega⟩,
   (Blk.new _ _ _).alloc _, by have h := Blk.new (w.alloc (.cells cs t)) t zs; simpa using h,
   ((Keep.refl H w).alloc _).alloc _, fun h => by have := (hs _ h).1; omega, fun h => by have := (hs _ h).1; omega⟩
theorem Wr.call (h : Wr t H g b cs zs w0 ys w) (hr : RetPen (Two H b) g (ys ++ more) v w e w') : Wr t H g b cs zs w0 (ys ++ more) w' := by
  obtain ⟨_, hp, hk⟩ := hr
  exact ⟨hp, fun k hq => ⟨Nat.lt_of_lt_of_le (h.safe k hq).1 hk.size, (h.safe k hq).2⟩, hk.blk h.blk (.inr (.inl rfl)), hk.blk h.res (.inr (.inr rfl)), h.keep.trans (hk.mono fun k hq => .inl hq), h.nb, h.nr⟩
theorem Wr.only {k : Nat} {cs' zs' : Array Value} (h : Wr t H g b cs zs w0 ys w) (hk : Two H b k) (hn : ¬ H k) (ho : Only k w w') (h1 : Blk w' b t cs') (h2 : Blk w' (b + 1) t zs') : Wr t H g b cs' zs' w0 ys w' :=
  ⟨h.pen.only ho hk (h.safe k hk).2, fun j hj => ⟨by rw [ho.size]; exact (h.safe j hj).1, (h.safe j hj).2⟩, h1, h2, h.keep.trans (Keep.only ho hn), h.nb, h.nr⟩
theorem Wr.set (h : Wr t H g b cs zs w0 ys w) {i : Nat} {u : Value} (hi : cs[i]? = some u) : Wr t H g b cs zs w0 ys (w.setCell ⟨b, i, none⟩ u) :=
  h.only (.inr (.inl rfl)) h.nb (Only.set_ w b i u) (set_same h.blk hi) ((Only.set_ w b i u).blk h.res (by omega))
theorem Wr.done (h : Wr t H g b cs zs w0 ys w) (ho : Only (b + 1) w w') (hB : Blk w' (b + 1) t cs) : Pen H g ys w' ∧ Keep H w0 w' := by
  have h1 := h.only (.inr (.inr rfl)) h.nr ho (ho.blk h.blk (by omega)) hB
  exact ⟨h1.pen.mono fun k hk => .inl (.inl hk), h1.keep⟩
end
set_option maxRecDepth 100000 in
theorem pen_len (H : Nat → Prop) (g : Nat) (xs : List Nat) (n : Nat) (w : World) (hp : Hid (Pen H g xs w)) (hS : Hid (Safe H g w)) (hn : n < 9223372036854775808) (hl : xs.length ≤ 70000000000000) :
    Calls Tryz.prog 72 #[.pointer (some ⟨g, 0, none⟩), .int .i64 n] w (RetPen H g (xs ++ putN n) (.int .i64 n) w) := by
  have e1 : IntKind.u64.wrap (n : Int) = (n : Int) := IntWalk.u64_in _ (by omega)
  go_enter Tryz.func72, Tryz.ntmps72
  go_wp2_with (go_at_call 65; refine (pen_u64 H g xs n _ hp hS (by omega) hl).mono ?_; rintro e w1 ⟨rfl, p1, k1⟩; have P1 := Lh p1; have K1 := Lh k1; have y2 : w1.cell? ⟨g, 2, none⟩ = some (.bool true) := (by obtain ⟨v, hB, _⟩ := p1.out; exact hB.cell 2); clear p1 k1)
  go_ret
  exact ⟨rfl, P1.out, K1.out⟩
set_option maxRecDepth 100000 in
theorem pen_u32 (H : Nat → Prop) (g : Nat) (xs : List Nat) (n : Nat) (w : World) (hp : Hid (Pen H g xs w)) (hS : Hid (Safe H g w)) (hn : n < 4294967296) (hl : xs.length ≤ 70000000000000) :
    Calls Tryz.prog 113 #[.pointer (some ⟨g, 0, none⟩), .int .u32 n] w (RetPen H g (xs ++ putN n) (.int .u32 n) w) := by
  have e0 : (n : Int) / 4294967296 = 0 := by omega
  go_enter Tryz.func113, Tryz.ntmps113
  go_wp2_with (go_at_call 65; refine (pen_u64 H g xs n _ hp hS (by omega) hl).mono ?_; rintro e w1 ⟨rfl, p1, k1⟩; have P1 := Lh p1; have K1 := Lh k1; clear p1 k1)
  go_ret
  exact ⟨rfl, P1.out, K1.out⟩
def octs (s : ByteArray) : List Nat := s.data.toList.map (·.toNat)
theorem octs_len (s : ByteArray) : (octs s).length = s.size := by unfold octs; rw [List.length_map, Array.length_toList]; rfl
theorem octs_byt (s : ByteArray) : Byt (octs s) := by
  intro x hx
  obtain ⟨b, _, rfl⟩ := List.mem_map.1 hx
  exact b.toNat_lt
theorem strOf_octs (s : ByteArray) : strOf (octs s) = s := by
  unfold strOf octs
  rw [List.map_map, show (UInt8.ofNat ∘ fun b : UInt8 => b.toNat) = id from by funext b; simp, List.map_id]
theorem octs_bel (w : World) (e : TypeId) (s : ByteArray) : Below w.heap.size w (Lib.bytesWorld w e s) := by
  have h : Below w.heap.size w (w.drew.alloc (.cells (Lib.bytesCells w e s) e)) := ((Below.refl _ _).drew).alloc (Nat.le_refl _) _
  exact ⟨h.os, h.tape, h.output, by rw [Lib.bytesWorld_size]; omega, fun j hj => Lib.bytesWorld_at_old w e s j hj⟩
theorem octs_reads (w : World) (e : TypeId) (s : ByteArray) : Reads (Lib.bytesWorld w e s) (w.heap.size + 1) 1 (some ⟨w.heap.size, 0, none⟩) s.size ((octs s).map bv) := by
  refine ⟨by rw [List.length_map, octs_len]; omega, fun _ => ⟨_, rfl, Nat.lt_succ_self _, fun j u hu => ?_⟩⟩
  have hj : j < s.size := by
    rw [← octs_len s, ← List.length_map (f := bv)]
    exact (List.getElem?_eq_some_iff.1 hu).1
  have h5 : (⟨w.heap.size, 0, none⟩ : Addr).add j = ⟨w.heap.size, j, none⟩ := by unfold Addr.add; split <;> simp_all
  rw [h5, Lib.bytesWorld_cell w e s j hj, ← hu]
  have hj' : j < s.data.toList.length := by rw [Array.length_toList]; exact hj
  simp only [octs, List.getElem?_map, List.getElem?_eq_getElem hj', Option.map_some, bv, List.getD_eq_getElem?_getD, Option.getD_some]
set_option maxRecDepth 100000 in
set_option maxHeartbeats 1000000 in
theorem pen_text (H : Nat → Prop) (g : Nat) (xs : List Nat) (key : ByteArray) (w : World) (hp : Hid (Pen H g xs w)) (hS : Hid (Safe H g w)) (hk : key.size ≤ 60000000000000) (hl : xs.length ≤ 70000000000000) :
    Calls Tryz.prog 71 #[.pointer (some ⟨g, 0, none⟩), .string key] w (RetPen H g (xs ++ (putN key.size ++ octs key)) (.string key) w) := by
  have kc := fun W : World => Lib.run_convert_string_bytes (P := Tryz.prog) W 9 33 5 key Tryz.underlying9 Tryz.underlying33 Tryz.underlying5
  have hb := octs_bel w 5 key
  have hr := octs_reads w 5 key
  have sz : (Lib.bytesWorld w 5 key).heap.size = w.heap.size + 1 := Lib.bytesWorld_size w 5 key
  have HP : Hid (Pen (fun k => H k ∨ k = w.heap.size) g xs (Lib.bytesWorld w 5 key)) := Lh ((hp.out.mono fun k hk => by rcases hk with h | h; exact .inl h; exact .inr (by omega)).later hb)
  have HS : Hid (Safe (fun k => H k ∨ k = w.heap.size) g (Lib.bytesWorld w 5 key)) := Lh fun k hk => by
    have hg := hp.out.lt
    rcases hk with h | h
    · exact ⟨by have := (hS.out k h).1; omega, (hS.out k h).2⟩
    · exact ⟨by omega, by omega⟩
  have HR := Lh (hr.more (B' := (Lib.bytesWorld w 5 key).heap.size) (by rw [sz]; omega))
  have HB := Lh hb
  clear hb hr sz
  obtain ⟨gc, hgc⟩ : ∃ gc, grownCap w key.size 0 5 = gc := ⟨_, rfl⟩
  have kc1 := kc w
  rw [hgc] at kc1
  clear kc
  go_enter Tryz.func71, Tryz.ntmps71
  go_wp2_with (go_at_call 70; refine (pen_bytes _ g xs (some ⟨w.heap.size, 0, none⟩) key.size gc (octs key) _ HP HS HR (by omega) hl).mono ?_; rintro e w1 ⟨rfl, p1, k1⟩; have P1 := Lh p1; have K1 := Lh k1; have kc2 := run_conv_bytes (P := Tryz.prog) (src := 33) (dst := 9) (cap := gc) Tryz.underlying33 Tryz.underlying5 Tryz.underlying9 (k1.reads HR.out (fun _ ad e => by injection e with e; rw [← e]; exact .inr rfl)); rw [strOf_octs] at kc2; clear p1 k1 kc1)
  go_ret
  exact ⟨rfl, P1.out.mono fun k hk => .inl (.inl hk), (Keep.below HB.out).trans (K1.out.mono fun k hk => .inl hk)⟩
end Go.Proofs.YtlnneacgllhdhaaGreatDoor
end
section
namespace Go.Proofs.YtlnneacgllhdhaaGreatDoor
open Go.RowKit OctMath
set_option linter.unusedVariables false
section
variable {P : Program} {l : List Oper} {md : Region.Mode} {Q : Exit → Act → World → Prop} {S0 S S0' S' : World → Prop} {s : Nat}
theorem wpAnyT_mono (h0 : ∀ w, S0' w → S0 w) (h1 : ∀ w, S' w → S w) : ∀ (fuel : Nat) (listed : Array Bool) (a : Act) (w : World), wpAnyT P md l Q S0' S' s fuel listed a w → wpAnyT P md l Q S0 S s fuel listed a w
  | 0, _, _, _, h => h
  | fuel + 1, _, _, _, h => ⟨h.1, fun i hi => wpOp_mono (fun a' w' h' => ⟨⟨h0 _ h'.1.1, fun q => h1 _ (h'.1.2 q)⟩, wpAnyT_mono h0 h1 fuel _ a' w' h'.2⟩) (h.2 i hi)⟩
end
def RetO (ys : List Nat) (w : World) (e : Ending) (w' : World) : Prop := ∃ A cap, e = .returned (.slice A ys.length cap) ∧ Reads w' w'.heap.size 1 A ys.length (ys.map bv) ∧ Below w.heap.size w w'
set_option maxRecDepth 100000 in
set_option maxHeartbeats 400000 in
theorem pen_writer (A : Option Addr) (n cap : Nat) (xs : List Nat) (w : World) (hr : Reads w w.heap.size 1 A n (xs.map bv)) (hm : n ≤ 140737488351232) :
    Calls Tryz.prog 30 #[.slice A n cap] w (fun e w' => ∃ g, e = .returned (.pointer (some ⟨g, 0, none⟩)) ∧ w.heap.size ≤ g ∧ Below w.heap.size w w' ∧ Pen (fun k => k < w.heap.size) g xs w') := by
  have hn : xs.length = n := by simpa using hr.1
  go_enter Tryz.func30, Tryz.ntmps30
  go_wp2_with (at_builtin
               refine wpl_append rfl (.tmp 3) (.tmp 4) _ rfl w w.heap.size 5 _ 1 1 Tryz.underlying33 Tryz.infoU8 rfl (by decide) (.slice (some ⟨w.heap.size, 0, none⟩) 0 0) 0 [] rfl ?own (w.heap.size + 1) A n cap (xs.map bv) rfl ?rd (bv_one xs) (by omega) (by decide) ?bel ?base ?_
               case own => exact World.ownsRow_lit _ #[] 0 (Nat.le_refl _) (by unfold maxLen; omega) rfl
               case rd => exact (hr.alloc (Nat.le_refl _) _).more (by simp)
               case bel => exact (Below.refl _ _).alloc (Nat.le_refl _) _
               case base => simp
               intro v1 w1 hh
               obtain ⟨PA, pn, pc, rfl⟩ : ∃ PA pn pc, v1 = .slice PA pn pc := (by obtain ⟨x, y, e, _⟩ := own_slice hh.out.1; exact ⟨_, _, _, e⟩))
  go_ret
  obtain ⟨h1, h2, h3⟩ := hh.out
  refine ⟨w1.heap.size, rfl, h3, h2.alloc h3 _, ⟨_, Blk.new _ _ _, ?_, fun e => by have := (h1.lt _ e).2; omega, fun k hk e => by have := (h1.lt _ e).1; omega⟩⟩
  have h := own_baseO h1 (Nat.zero_le _)
  rw [hn]
  simpa using h.alloc _
set_option maxRecDepth 100000 in
theorem pen_written (H : Nat → Prop) (g : Nat) (xs : List Nat) (w : World) (hp : Pen H g xs w) : Calls Tryz.prog 32 #[.pointer (some ⟨g, 0, none⟩)] w (fun e w' => (∃ A cap, e = .returned (.slice A xs.length cap) ∧ Reads w w.heap.size 1 A xs.length (xs.map bv)) ∧ w = w') := by
  obtain ⟨v, hB, hO, -, -⟩ := hp.out
  obtain ⟨A, cap, rfl, -, -⟩ := own_slice hO
  have z0 : w.cell? ⟨g, 0, none⟩ = some (.slice A xs.length cap) := hB.cell 0
  have HR := Lh (Reads.of_own hO)
  clear hB hO
  go_enter Tryz.func32, Tryz.ntmps32
  go_wp2
  go_ret
  exact ⟨⟨A, cap, rfl, HR.out⟩, rfl⟩
end Go.Proofs.YtlnneacgllhdhaaGreatDoor
end
section
namespace Go.Proofs.YtlnneacgllhdhaaGreatDoor
open Go.RowKit OctMath
set_option linter.unusedVariables false
def badP : List PanicEntry := [{ v := .iface 202 (.agg #[]), recovered := false }]
set_option maxRecDepth 100000 in
theorem took_ok (g p : Nat) (A : Option Addr) (n cap a : Nat) (w : World) (hB : Hid (Blk w g 204 #[.slice A n cap, .int .i64 (a : Int)])) :
    Calls Tryz.prog 138 #[.pointer (some ⟨g, 0, none⟩), .int .i64 (p : Int), .int .i64 0] w fun e w' => e = .returned (.tuple #[]) ∧ w' = w.setCell ⟨g, 1, none⟩ (.int .i64 (p : Int)) := by
  have c1 := hB.out.cell 1
  have f1 := hB.out.frozen 1
  go_enter Tryz.func138, Tryz.ntmps138
  go_wp2
  go_end0
  exact ⟨rfl, rfl⟩
set_option maxRecDepth 100000 in
theorem took_bad (g : Nat) (p er : Int) (w : World) (he : er ≠ 0) :
    Calls Tryz.prog 138 #[.pointer (some ⟨g, 0, none⟩), .int .i64 p, .int .i64 er] w fun e w' => e = .panicked badP ∧ w' = w := by
  have h0 : (er != 0) = true := by rw [bne_iff_ne]; exact he
  go_enter Tryz.func138, Tryz.ntmps138
  go_wp2
  exact ⟨rfl, rfl, rfl⟩
def Not (g : Nat) : Nat → Prop := fun k => k ≠ g
structure PG (g : Nat) (A : Option Addr) (n cap : Nat) (bs : List Nat) (p : Nat) (w : World) : Prop where
  blk : Blk w g 204 #[.slice A n cap, .int .i64 (p : Int)]
  rd : Reads w w.heap.size 1 A n (bs.map bv)
  ne : 0 < n → ∀ ad, A = some ad → Not g ad.block
  byt : Byt bs
  len : bs.length = n
  le : n ≤ cap
  mx : cap ≤ maxLen
  reach : n ≤ 140737488351232
  pl : p ≤ n
theorem PG.turn {g : Nat} {A : Option Addr} {n cap p q : Nat} {bs : List Nat} {w w' : World} (h : PG g A n cap bs p w) (k : Keep (Not g) w w') (hB : Blk w' g 204 #[.slice A n cap, .int .i64 (q : Int)]) (hq : q ≤ n) : PG g A n cap bs q w' :=
  ⟨hB, k.reads h.rd h.ne, h.ne, h.byt, h.len, h.le, h.mx, h.reach, hq⟩
theorem PG.drew {g : Nat} {A : Option Addr} {n cap p : Nat} {bs : List Nat} {w : World} (h : PG g A n cap bs p w) : PG g A n cap bs p w.drew := ⟨h.blk, h.rd, h.ne, h.byt, h.len, h.le, h.mx, h.reach, h.pl⟩
theorem keep_drew {H : Nat → Prop} {w : World} : Keep H w w.drew := ⟨rfl, rfl, rfl, Nat.le_refl _, fun _ _ _ => rfl⟩
def RetR {α : Type} (r : Option (α × Nat)) (val : α → World → Value → Prop) (g : Nat) (A : Option Addr) (n cap : Nat) (bs : List Nat) (w : World) (e : Ending) (w' : World) : Prop := match r with
  | some (x, q) => ∃ v, e = .returned v ∧ val x w' v ∧ PG g A n cap bs q w' ∧ Keep (Not g) w w'
  | none => e = .panicked badP ∧ Keep (Not g) w w'
theorem RetR.some_ {α : Type} {x : α} {q : Nat} {val : α → World → Value → Prop} {g : Nat} {A : Option Addr} {n cap : Nat} {bs : List Nat} {w w' : World} {v : Value} (h1 : val x w' v) (h2 : PG g A n cap bs q w') (h3 : Keep (Not g) w w') : RetR (some (x, q)) val g A n cap bs w (.returned v) w' := ⟨v, rfl, h1, h2, h3⟩
theorem RetR.none_ {α : Type} {val : α → World → Value → Prop} {g : Nat} {A : Option Addr} {n cap : Nat} {bs : List Nat} {w w' : World} (h3 : Keep (Not g) w w') : RetR (none : Option (α × Nat)) val g A n cap bs w (.panicked badP) w' := ⟨rfl, h3⟩
def vU64 (x : Nat) (_ : World) (v : Value) : Prop := v = .int .u64 (x : Int) ∧ x < 18446744073709551616
def vI64 (x : Int) (_ : World) (v : Value) : Prop := v = .int .i64 x ∧ -9223372036854775808 ≤ x ∧ x ≤ 9223372036854775807
theorem unz_rng {n : Nat} (h : n < 18446744073709551616) : -9223372036854775808 ≤ unz n ∧ unz n ≤ 9223372036854775807 := by unfold unz; split <;> omega
theorem PG.put {g : Nat} {A : Option Addr} {n cap p q : Nat} {bs : List Nat} {w : World} (h : PG g A n cap bs p w) (hq : q ≤ n) : PG g A n cap bs q (w.setCell ⟨g, 1, none⟩ (.int .i64 (q : Int))) ∧ Keep (Not g) w (w.setCell ⟨g, 1, none⟩ (.int .i64 (q : Int))) := by
  have k := Keep.set_ (Not g) w (g := g) 1 (.int .i64 (q : Int)) (fun h => h rfl)
  exact ⟨h.turn k (by have := h.blk.set_ 1 (.int .i64 (q : Int)); simpa using this) hq, k⟩
set_option maxRecDepth 100000 in
set_option maxHeartbeats 1000000 in
theorem pg_number (g : Nat) (A : Option Addr) (n cap : Nat) (bs : List Nat) (p : Nat) (w : World) (hP : Hid (PG g A n cap bs p w)) :
    Calls Tryz.prog 122 #[.pointer (some ⟨g, 0, none⟩)] w (RetR (rNum bs p) vU64 g A n cap bs w) := by
  have c0 := hP.out.blk.cell 0
  have c1 := hP.out.blk.cell 1
  have HN := Lh (number_any A cap n p bs w.drew hP.out.byt hP.out.len hP.out.drew.rd hP.out.le hP.out.mx)
  obtain ⟨h1, h2, h3⟩ := rdN_lt bs p hP.out.byt
  rw [hP.out.len] at h3
  have HR := Lh (show rNum bs p = if (rdN bs p).2.2 = 0 then some ((rdN bs p).1, (rdN bs p).2.1.toNat) else none from rfl)
  generalize rdN bs p = r at *
  obtain ⟨v, q, er⟩ := r
  simp only at HN HR h1 h2 h3
  obtain ⟨q, rfl⟩ := Int.eq_ofNat_of_zero_le h2
  by_cases he : er = 0
  · subst he
    rw [if_pos rfl] at HR
    have HT := Lh (took_ok g q A n cap p w.drew (Lh hP.out.blk))
    have HE := Lh (hP.out.drew.put (q := q) (by omega))
    go_enter Tryz.func122, Tryz.ntmps122
    go_wp2
    go_region_held3 (fun w' => w'.cell? ⟨g, 0, none⟩ = some (.slice A n cap) ∧ w'.cell? ⟨g, 1, none⟩ = some (.int .i64 (p : Int))) (first | exact ⟨c0, c1⟩ | fail) (first
      | (go_at_call 46; refine HN.out.mono ?_; rintro e w1 ⟨rfl, hw⟩; rw [← hw]; clear hw))
    go_wp2_with (go_at_call 138; refine HT.out.mono ?_; rintro e w2 ⟨rfl, hw⟩; rw [hw]; clear hw)
    go_ret
    rw [HR.out]
    exact RetR.some_ ⟨rfl, h1⟩ HE.out.1 (keep_drew.trans HE.out.2)
  · rw [if_neg he] at HR
    have HT := Lh (took_bad g q er w.drew (by omega))
    go_enter Tryz.func122, Tryz.ntmps122
    go_wp2
    go_region_held3 (fun w' => w'.cell? ⟨g, 0, none⟩ = some (.slice A n cap) ∧ w'.cell? ⟨g, 1, none⟩ = some (.int .i64 (p : Int))) (first | exact ⟨c0, c1⟩ | fail) (first
      | (go_at_call 46; refine HN.out.mono ?_; rintro e w1 ⟨rfl, hw⟩; rw [← hw]; clear hw))
    go_wp2_with (go_at_call 138; refine HT.out.mono ?_; rintro e w2 ⟨rfl, hw⟩; rw [hw]; clear hw)
    refine ⟨rfl, ?_⟩
    rw [HR.out]
    exact RetR.none_ keep_drew
end Go.Proofs.YtlnneacgllhdhaaGreatDoor
end
section
namespace Go.Proofs.YtlnneacgllhdhaaGreatDoor
open Go.RowKit OctMath
set_option linter.unusedVariables false
set_option maxRecDepth 100000 in
set_option maxHeartbeats 1000000 in
theorem pg_int (g : Nat) (A : Option Addr) (n cap : Nat) (bs : List Nat) (p : Nat) (w : World) (hP : Hid (PG g A n cap bs p w)) :
    Calls Tryz.prog 123 #[.pointer (some ⟨g, 0, none⟩)] w (RetR (rInt bs p) vI64 g A n cap bs w) := by
  have c0 := hP.out.blk.cell 0
  have c1 := hP.out.blk.cell 1
  have HN := Lh (int_any A cap n p bs w.drew hP.out.byt hP.out.len hP.out.drew.rd hP.out.le hP.out.mx)
  obtain ⟨h1, h2, h3⟩ := rdN_lt bs p hP.out.byt
  rw [hP.out.len] at h3
  have HR := Lh (show rInt bs p = if (rdN bs p).2.2 = 0 then some (unz (rdN bs p).1, (rdN bs p).2.1.toNat) else none from by unfold rInt rNum; split <;> rfl)
  generalize rdN bs p = r at *
  obtain ⟨v, q, er⟩ := r
  simp only at HN HR h1 h2 h3
  obtain ⟨q, rfl⟩ := Int.eq_ofNat_of_zero_le h2
  by_cases he : er = 0
  · subst he
    rw [if_pos rfl] at HR
    have HT := Lh (took_ok g q A n cap p w.drew (Lh hP.out.blk))
    have HE := Lh (hP.out.drew.put (q := q) (by omega))
    go_enter Tryz.func123, Tryz.ntmps123
    go_wp2
    go_region_held3 (fun w' => w'.cell? ⟨g, 0, none⟩ = some (.slice A n cap) ∧ w'.cell? ⟨g, 1, none⟩ = some (.int .i64 (p : Int))) (first | exact ⟨c0, c1⟩ | fail) (first
      | (go_at_call 44; refine HN.out.mono ?_; rintro e w1 ⟨rfl, hw⟩; rw [← hw]; clear hw))
    go_wp2_with (go_at_call 138; refine HT.out.mono ?_; rintro e w2 ⟨rfl, hw⟩; rw [hw]; clear hw)
    go_ret
    rw [HR.out]
    exact RetR.some_ ⟨rfl, unz_rng h1⟩ HE.out.1 (keep_drew.trans HE.out.2)
  · rw [if_neg he] at HR
    have HT := Lh (took_bad g q er w.drew (by omega))
    go_enter Tryz.func123, Tryz.ntmps123
    go_wp2
    go_region_held3 (fun w' => w'.cell? ⟨g, 0, none⟩ = some (.slice A n cap) ∧ w'.cell? ⟨g, 1, none⟩ = some (.int .i64 (p : Int))) (first | exact ⟨c0, c1⟩ | fail) (first
      | (go_at_call 44; refine HN.out.mono ?_; rintro e w1 ⟨rfl, hw⟩; rw [← hw]; clear hw))
    go_wp2_with (go_at_call 138; refine HT.out.mono ?_; rintro e w2 ⟨rfl, hw⟩; rw [hw]; clear hw)
    refine ⟨rfl, ?_⟩
    rw [HR.out]
    exact RetR.none_ keep_drew
def rdFl (bs : List Nat) (p : Nat) : Bool × Int × Nat := if p < bs.length then (if bs.getD p 0 ≤ 1 then (decide (0 < bs.getD p 0), (p : Int) + 1, 0) else (false, 0, 41)) else if p = bs.length then (false, 0, 40) else (false, 0, 2)
set_option maxRecDepth 100000 in
set_option maxHeartbeats 1000000 in
theorem flag_any (A : Option Addr) (cap n p : Nat) (bs : List Nat) (w : World) (hb : Byt bs) (hn : bs.length = n) (hr : Reads w w.heap.size 1 A n (bs.map bv)) (hm : n ≤ maxLen) :
    Calls Tryz.prog 48 #[.slice A n cap, .int .i64 (p : Int)] w fun e w' => e = .returned (.tuple #[.bool (rdFl bs p).1, .int .i64 (rdFl bs p).2.1, .int .i64 (rdFl bs p).2.2]) ∧ w = w' := by
  unfold maxLen at hm
  have HR := Lh (show rdFl bs p = if p < bs.length then (if bs.getD p 0 ≤ 1 then (decide (0 < bs.getD p 0), (p : Int) + 1, 0) else (false, 0, 41)) else if p = bs.length then (false, 0, 40) else (false, 0, 2) from rfl)
  rw [hn] at HR
  generalize rdFl bs p = r at *
  rcases Nat.lt_trichotomy p n with h | h | h
  · rw [if_pos h] at HR
    have d1 : decide ((p : Int) < 0) = false := decide_eq_false (by omega)
    have d2 : decide ((p : Int) > (n : Int)) = false := decide_eq_false (by omega)
    have d3 : decide (n < p) = false := decide_eq_false (by omega)
    have d4 : ((p : Int) == (n : Int)) = false := by rw [beq_eq_false_iff_ne]; omega
    obtain ⟨ad, rfl, hbl, hc⟩ := hr.byteD h
    have p0 : (0 : Int) ≤ (p : Int) := by omega
    have p1 : (p : Int) < (n : Int) := by omega
    have pb : (p : Int) + 1 ≤ 9223372036854775807 := by omega
    obtain ⟨x, hx⟩ : ∃ x, bs.getD p 0 = x := ⟨_, rfl⟩
    rw [hx] at HR hc
    clear hx
    by_cases h1 : x ≤ 1
    · rw [if_pos h1] at HR
      have d5 : decide ((x : Int) > 1) = false := decide_eq_false (by omega)
      have d6 : decide (1 < x) = false := decide_eq_false (by omega)
      go_enter Tryz.func48, Tryz.ntmps48
      go_wp2
      go_ret3
      rw [HR.out]
      exact ⟨by simp, rfl⟩
    · rw [if_neg h1] at HR
      have d5 : decide ((x : Int) > 1) = true := decide_eq_true (by omega)
      have d6 : decide (1 < x) = true := decide_eq_true (by omega)
      go_enter Tryz.func48, Tryz.ntmps48
      go_wp2
      go_ret3
      rw [HR.out]
      exact ⟨rfl, rfl⟩
  · subst h
    rw [if_neg (by omega), if_pos rfl] at HR
    have d1 : decide ((p : Int) < 0) = false := decide_eq_false (by omega)
    have d2 : decide ((p : Int) > (p : Int)) = false := decide_eq_false (by omega)
    go_enter Tryz.func48, Tryz.ntmps48
    go_wp2
    go_ret3
    rw [HR.out]
    exact ⟨rfl, rfl⟩
  · rw [if_neg (by omega), if_neg (by omega)] at HR
    have d1 : decide ((p : Int) < 0) = false := decide_eq_false (by omega)
    have d2 : decide ((p : Int) > (n : Int)) = true := decide_eq_true (by omega)
    have d3 : decide (n < p) = true := decide_eq_true h
    go_enter Tryz.func48, Tryz.ntmps48
    go_wp2
    go_ret3
    rw [HR.out]
    exact ⟨rfl, rfl⟩
def vBool (x : Bool) (_ : World) (v : Value) : Prop := v = .bool x
set_option maxRecDepth 100000 in
set_option maxHeartbeats 1000000 in
theorem pg_flag (g : Nat) (A : Option Addr) (n cap : Nat) (bs : List Nat) (p : Nat) (w : World) (hP : Hid (PG g A n cap bs p w)) :
    Calls Tryz.prog 140 #[.pointer (some ⟨g, 0, none⟩)] w (RetR (rFlag bs p) vBool g A n cap bs w) := by
  have c0 := hP.out.blk.cell 0
  have c1 := hP.out.blk.cell 1
  have HN := Lh (flag_any A cap n p bs w.drew hP.out.byt hP.out.len hP.out.drew.rd (Nat.le_trans hP.out.le hP.out.mx))
  obtain ⟨h2, h3⟩ : 0 ≤ (rdFl bs p).2.1 ∧ (rdFl bs p).2.1 ≤ (n : Int) := by
    have := hP.out.len
    unfold rdFl
    split
    · split <;> exact ⟨by dsimp only; omega, by dsimp only; omega⟩
    · split <;> exact ⟨by dsimp only; omega, by dsimp only; omega⟩
  have HR := Lh (show rFlag bs p = if (rdFl bs p).2.2 = 0 then some ((rdFl bs p).1, (rdFl bs p).2.1.toNat) else none from by
    unfold rFlag rdFl
    by_cases c1 : p < bs.length
    · rw [if_pos c1]
      by_cases c2 : bs.getD p 0 ≤ 1
      · rw [if_pos ⟨c1, c2⟩, if_pos c2, if_pos rfl]; rfl
      · rw [if_neg (fun h => c2 h.2), if_neg c2, if_neg (by dsimp only; omega)]
    · rw [if_neg (fun h => c1 h.1), if_neg c1]
      split
      · rw [if_neg (by dsimp only; omega)]
      · rw [if_neg (by dsimp only; omega)])
  generalize rdFl bs p = r at *
  obtain ⟨v, q, er⟩ := r
  simp only at HN HR h2 h3
  obtain ⟨q, rfl⟩ := Int.eq_ofNat_of_zero_le h2
  by_cases he : er = 0
  · subst he
    rw [if_pos rfl] at HR
    have HT := Lh (took_ok g q A n cap p w.drew (Lh hP.out.blk))
    have HE := Lh (hP.out.drew.put (q := q) (by omega))
    go_enter Tryz.func140, Tryz.ntmps140
    go_wp2
    go_region_held3 (fun w' => w'.cell? ⟨g, 0, none⟩ = some (.slice A n cap) ∧ w'.cell? ⟨g, 1, none⟩ = some (.int .i64 (p : Int))) (first | exact ⟨c0, c1⟩ | fail) (first
      | (go_at_call 48; refine HN.out.mono ?_; rintro e w1 ⟨rfl, hw⟩; rw [← hw]; clear hw))
    go_wp2_with (go_at_call 138; refine HT.out.mono ?_; rintro e w2 ⟨rfl, hw⟩; rw [hw]; clear hw)
    go_ret
    rw [HR.out]
    exact RetR.some_ rfl HE.out.1 (keep_drew.trans HE.out.2)
  · rw [if_neg he] at HR
    have HT := Lh (took_bad g q er w.drew (by omega))
    go_enter Tryz.func140, Tryz.ntmps140
    go_wp2
    go_region_held3 (fun w' => w'.cell? ⟨g, 0, none⟩ = some (.slice A n cap) ∧ w'.cell? ⟨g, 1, none⟩ = some (.int .i64 (p : Int))) (first | exact ⟨c0, c1⟩ | fail) (first
      | (go_at_call 48; refine HN.out.mono ?_; rintro e w1 ⟨rfl, hw⟩; rw [← hw]; clear hw))
    go_wp2_with (go_at_call 138; refine HT.out.mono ?_; rintro e w2 ⟨rfl, hw⟩; rw [hw]; clear hw)
    refine ⟨rfl, ?_⟩
    rw [HR.out]
    exact RetR.none_ keep_drew
def vU32 (x : Nat) (_ : World) (v : Value) : Prop := v = .int .u32 (x : Int) ∧ x < 4294967296
set_option maxRecDepth 100000 in
set_option maxHeartbeats 1000000 in
theorem pg_word (g : Nat) (A : Option Addr) (n cap : Nat) (bs : List Nat) (p : Nat) (w : World) (hP : Hid (PG g A n cap bs p w)) :
    Calls Tryz.prog 129 #[.pointer (some ⟨g, 0, none⟩)] w (RetR (rWord bs p) vU32 g A n cap bs w) := by
  have HR := Lh (show rWord bs p = match rNum bs p with | some (n, p) => if n < 4294967296 then some (n, p) else none | none => none from rfl)
  have HC := Lh (pg_number g A n cap bs p w hP)
  cases hq : rNum bs p with
  | none =>
    rw [hq] at HR HC
    simp only at HR
    go_enter Tryz.func129, Tryz.ntmps129
    go_wp2_with (go_at_call 122; refine HC.out.mono ?_; rintro e w1 ⟨rfl, hk⟩; have HK := Lh hk; clear hk)
    refine ⟨rfl, ?_⟩
    rw [HR.out]
    exact RetR.none_ HK.out
  | some x =>
    obtain ⟨x, q⟩ := x
    rw [hq] at HR HC
    simp only at HR
    by_cases h : x < 4294967296
    · rw [if_pos h] at HR
      have e1 : (x : Int) / 4294967296 = 0 := by omega
      have e2 : IntKind.u32.wrap (x : Int) = (x : Int) := by rw [IntKind.wrap_u32]; omega
      go_enter Tryz.func129, Tryz.ntmps129
      go_wp2_with (go_at_call 122; refine HC.out.mono ?_; rintro e w1 ⟨v, rfl, ⟨rfl, hx⟩, hp1, hk⟩; have HP1 := Lh hp1; have HK := Lh hk; clear hp1 hk)
      go_ret
      rw [HR.out]
      exact RetR.some_ ⟨rfl, h⟩ HP1.out HK.out
    · rw [if_neg h] at HR
      have e1 : decide ((x : Int) / 4294967296 > 0) = true := decide_eq_true (by omega)
      have e3 : decide (0 < (x : Int) / 4294967296) = true := decide_eq_true (by omega)
      go_enter Tryz.func129, Tryz.ntmps129
      go_wp2_with (go_at_call 122; refine HC.out.mono ?_; rintro e w1 ⟨v, rfl, ⟨rfl, hx⟩, hp1, hk⟩; have HK := Lh hk; clear hp1 hk)
      refine ⟨rfl, ?_⟩
      rw [HR.out]
      exact RetR.none_ HK.out
end Go.Proofs.YtlnneacgllhdhaaGreatDoor
end
section
namespace Go.Proofs.YtlnneacgllhdhaaGreatDoor
open Go.RowKit OctMath
set_option linter.unusedVariables false
def vText (xs : List Nat) (_ : World) (v : Value) : Prop := v = .string (strOf xs) ∧ Byt xs ∧ xs.length ≤ 1048576
theorem PG.below {g : Nat} {A : Option Addr} {n cap p : Nat} {bs : List Nat} {w w' : World} (h : PG g A n cap bs p w) (k : Below w.heap.size w w') : PG g A n cap bs p w' :=
  h.turn (Keep.below k) ((Keep.below (H := fun _ => True) k).blk h.blk trivial) h.pl
theorem rdB_rng (bs : List Nat) (p : Nat) (M : Nat) (hb : Byt bs) (he : (rdB bs p M).2.2 = 0) : 0 ≤ (rdB bs p M).2.1 ∧ (rdB bs p M).2.1 ≤ (bs.length : Int) ∧ Byt (rdB bs p M).1 ∧ (rdB bs p M).1.length ≤ M := by
  obtain ⟨k, e1, e2, e3, e4⟩ := rdB_one bs p M hb he
  have h4 : (rdB bs p M).1.length ≤ M := by
    have hd : rdB bs p M = (if (rdN bs p).2.2 ≠ 0 then ([], 0, (rdN bs p).2.2)
      else if (M : Int) < 0 ∨ (M : Int) < (rdN bs p).1 ∨ (bs.length : Int) - (rdN bs p).2.1 < (rdN bs p).1 then ([], 0, 40)
      else ((bs.drop (rdN bs p).2.1.toNat).take (rdN bs p).1, (rdN bs p).2.1 + (rdN bs p).1, 0)) := rfl
    rw [hd]
    split
    · simp
    · split
      · simp
      · rename_i h
        rw [List.length_take]
        omega
  refine ⟨by omega, by omega, ?_, h4⟩
  intro x hx
  have : x ∈ (bs.drop k).take (putN (rdB bs p M).1.length ++ (rdB bs p M).1).length := by rw [e4]; exact List.mem_append_right _ hx
  exact hb x (List.mem_of_mem_drop (List.mem_of_mem_take this))
theorem PG.apart {g : Nat} {A : Option Addr} {n cap p : Nat} {bs : List Nat} {w : World} (h : PG g A n cap bs p w) {B m : Nat} {A1 : Option Addr} {xs : List Nat} (hr : Reads w B 1 A1 m (xs.map bv)) : 0 < m → ∀ ad, A1 = some ad → Not g ad.block := by
  intro hm ad ha hg
  obtain ⟨ad', u, e1, hB, h2, h3⟩ := hr.at_ hm
  rw [ha] at e1
  injection e1 with e1
  rw [← e1] at h3
  rw [show ad.add 0 = ad from rfl] at h3
  rw [List.getElem?_map] at h2
  obtain ⟨x, -, rfl⟩ := Option.map_eq_some_iff.1 h2
  have hb : w.heap[ad.block]? = some (.cells #[.slice A n cap, .int .i64 (p : Int)] 204) := by rw [hg]; exact h.blk
  unfold World.cell? at h3
  rw [hb] at h3
  simp only at h3
  split at h3
  · cases h3
  · match ho : ad.off, h3 with
    | 0, h3 => simp [bv] at h3
    | 1, h3 => simp [bv] at h3
    | k + 2, h3 => simp at h3
set_option maxRecDepth 100000 in
set_option maxHeartbeats 1000000 in
theorem pg_text (g : Nat) (A : Option Addr) (n cap : Nat) (bs : List Nat) (p : Nat) (w : World) (hP : Hid (PG g A n cap bs p w)) :
    Calls Tryz.prog 139 #[.pointer (some ⟨g, 0, none⟩)] w (RetR (rText bs p) vText g A n cap bs w) := by
  have c0 := hP.out.blk.cell 0
  have c1 := hP.out.blk.cell 1
  have HN := Lh (bytes_any A cap n p 1048576 bs w.drew hP.out.byt hP.out.len hP.out.drew.rd hP.out.le hP.out.mx hP.out.reach (by omega))
  have HR := Lh (show rText bs p = if (rdB bs p 1048576).2.2 = 0 then some ((rdB bs p 1048576).1, (rdB bs p 1048576).2.1.toNat) else none from rfl)
  have HG := Lh (rdB_rng bs p 1048576 hP.out.byt)
  rw [hP.out.len] at HG
  generalize rdB bs p 1048576 = r at *
  obtain ⟨v, q, er⟩ := r
  simp only at HR HG
  by_cases he : er = 0
  · subst he
    obtain ⟨g1, g2, g3, g4⟩ := HG.out rfl
    obtain ⟨q, rfl⟩ := Int.eq_ofNat_of_zero_le g1
    have HQ := Lh (show q ≤ n by omega)
    have HV := Lh (And.intro g3 g4)
    clear g1 g2 g3 g4
    rw [if_pos rfl] at HR
    go_enter Tryz.func139, Tryz.ntmps139
    go_wp2
    go_region_held3 (fun w' => w'.cell? ⟨g, 0, none⟩ = some (.slice A n cap) ∧ w'.cell? ⟨g, 1, none⟩ = some (.int .i64 (p : Int))) (first | exact ⟨c0, c1⟩ | exact ⟨d0, d1⟩ | fail) (first
      | (go_at_call 98; refine HN.out.mono ?_; rintro e w1 ⟨A1, n1, cap1, rfl, r1, -, -, hb⟩; have HP1 := Lh (hP.out.drew.below hb); have d0 := HP1.out.blk.cell 0; have d1 := HP1.out.blk.cell 1; have HK1 := Lh (keep_drew.trans (Keep.below (H := Not g) hb) : Keep (Not g) w w1); have R1 := Lh r1; clear r1 hb))
    have HR1 := Lh (HP1.out.apart R1.out)
    go_wp2_with (go_at_call 138; refine (took_ok g q A n cap p _ (Lh HP1.out.blk)).mono ?_; rintro e w2 ⟨rfl, hw⟩; obtain ⟨hp2, hk2⟩ := HP1.out.put (q := q) HQ.out; rw [← hw] at hp2 hk2; have HP2 := Lh hp2; have HK2 := Lh hk2; have kc := run_conv_bytes (P := Tryz.prog) (src := 33) (dst := 9) (cap := cap1) Tryz.underlying33 Tryz.underlying5 Tryz.underlying9 (hk2.reads R1.out HR1.out); clear hp2 hk2 hw)
    go_ret
    rw [HR.out]
    exact RetR.some_ ⟨rfl, HV.out⟩ HP2.out (HK1.out.trans HK2.out)
  · rw [if_neg he] at HR
    clear HG
    have he' := Lh (show (er : Int) ≠ 0 by omega)
    go_enter Tryz.func139, Tryz.ntmps139
    go_wp2
    go_region_held3 (fun w' => w'.cell? ⟨g, 0, none⟩ = some (.slice A n cap) ∧ w'.cell? ⟨g, 1, none⟩ = some (.int .i64 (p : Int))) (first | exact ⟨c0, c1⟩ | exact ⟨d0, d1⟩ | fail) (first
      | (go_at_call 98; refine HN.out.mono ?_; rintro e w1 ⟨A1, n1, cap1, rfl, r1, -, -, hb⟩; have HP1 := Lh (hP.out.drew.below hb); have d0 := HP1.out.blk.cell 0; have d1 := HP1.out.blk.cell 1; have HK1 := Lh (keep_drew.trans (Keep.below (H := Not g) hb) : Keep (Not g) w w1); have R1 := Lh r1; clear r1 hb))
    go_wp2_with (go_at_call 138; refine (took_bad g q er _ he'.out).mono ?_; rintro e w2 ⟨rfl, hw⟩; rw [hw]; clear hw)
    refine ⟨rfl, ?_⟩
    rw [HR.out]
    exact RetR.none_ HK1.out
end Go.Proofs.YtlnneacgllhdhaaGreatDoor
end
section
namespace Go.Proofs.YtlnneacgllhdhaaGreatDoor
open Go.RowKit
set_option linter.unusedVariables false
def iv (x : Int) : Value := .int .i64 x
theorem Tryz.infoI64 : (Tryz.prog.info? 3).map (fun i => (i.zero, i.size, i.bytes)) = some (some (.int .i64 0), 1, 8) := by kernel_rfl
def mcells (ms : List (Int × Int)) : List Value := ms.flatMap fun p => [iv p.1, iv p.2]
end Go.Proofs.YtlnneacgllhdhaaGreatDoor
end
