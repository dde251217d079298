/-
  wire.Get, OF ANY BYTES. (printed by gen_wirg2.py). (joined out of WirG2 by shake.py)
-/
import Derived.Deep.CutBlock
import Derived.Test.YtijdbdenmcjmmaaGreatDoorNen23
import Derived.Test.YtijdbdenmcjmmaaGreatDoorNen22
section
namespace Go.Proofs.YtijdbdenmcjmmaaGreatDoor
open Go.RowKit OctMath
set_option linter.unusedVariables false
set_option linter.unusedSimpArgs false
theorem Rd.bind_assoc {α β γ : Type} (r : Rd α) (f : α → Rd β) (k : β → Rd γ) : (r.bind f).bind k = r.bind fun x => (f x).bind k := by
  funext p
  unfold Rd.bind
  cases r p with
  | none => rfl
  | some y => rfl
theorem rMsg_steps (bs : List Nat) : rMsg bs = (rInt bs).bind fun x1 => (rInt bs).bind fun x2 => (rInt bs).bind fun x3 => (rNum bs).bind fun x4 => (rNum bs).bind fun x5 => (rNum bs).bind fun x6 => (rNum bs).bind fun x7 => (rNum bs).bind fun x8 => (rFlag bs).bind fun x9 => (rFlag bs).bind fun x10 => (rCnt bs).bind fun k11 => (rTimes (rEnt bs) k11).bind fun x11 => (rConf bs).bind fun x12 => (rHd bs).bind fun x13 => (rText bs).bind fun x14 => (rNum bs).bind fun x15 => (rNum bs).bind fun x16 => (rInt bs).bind fun x17 => (rText bs).bind fun x18 => (rInt bs).bind fun x19 => (rCnt bs).bind fun k20 => (rTimes (rText bs) k20).bind fun x20 => Rd.pure (⟨x1, x2, x3, x4, x5, x6, x7, x8, x9, x10, x11, x12.1, x12.2, x13, x14, x15, x16, x17, x18, x19, x20⟩ : MsgT) := by
  unfold rMsg
  simp only [rList_cnt, Rd.bind_assoc]
def msgZ : Array Value := #[.int .i64 0, .int .i64 0, .int .i64 0, .int .u64 0, .int .u64 0, .int .u64 0, .int .u64 0, .int .u64 0, .bool false, .bool false, .slice none 0 0, .slice none 0 0, .slice none 0 0, .int .u64 0, .int .i64 0, .int .u64 0, .int .i64 0, .int .i64 0, .int .i64 0, .int .u32 0, .slice none 0 0, .int .u64 0, .int .u64 0, .int .i64 0, .string ⟨#[]⟩, .int .i64 0, .slice none 0 0]
def RetGet (bs : List Nat) (n : Nat) (w : World) (e : Ending) (w' : World) : Prop := Below w.heap.size w w' ∧ match rMsg bs 0 with
  | some (x, q) => if q = n then ∃ m : MG, m.x = x ∧ e = .returned (.tuple #[.agg (mgCs m), .int .i64 0]) ∧ MgIn w' m ∧ TxtOk x.data else e = .returned (.tuple #[.agg msgZ, .int .i64 50])
  | none => e = .returned (.tuple #[.agg msgZ, .int .i64 50])
theorem times_bad {α : Type} {one : Rd α} {k m p0 q : Nat} {xs : List α} (hT : rTimes one k p0 = some (xs, q)) (h : one q = none) (hk : k < m) : rTimes one m p0 = none := rTimes_none (rTimes_end hT h) (m := m) (by omega)
def Runs {α : Type} (one : Rd α) (m : Nat) (S : Option Nat) (res : List α × Option Nat) (k : Nat) (xs : List α) : Option Nat → Prop
  | some q => ∃ p0, S = some p0 ∧ rTimes one k p0 = some (xs, q)
  | none => res.2 = none
theorem Runs.start {α : Type} (one : Rd α) (m : Nat) (S : Option Nat) : Runs one m S (tkF (rTimes one m) [] S) 0 [] S := by
  cases S with
  | none => rfl
  | some p => exact ⟨p, rfl, rfl⟩
theorem Runs.step {α : Type} {one : Rd α} {m : Nat} {S : Option Nat} {k : Nat} {xs : List α} {q : Nat} {x0 : α} (h : Runs one m S (tkF (rTimes one m) [] S) k xs (some q)) (hk : k < m) : Runs one m S (tkF (rTimes one m) [] S) (k + 1) (xs ++ [(tkF one x0 (some q)).1]) (tkF one x0 (some q)).2 := by
  obtain ⟨p0, e, hT⟩ := h
  cases e1 : one q with
  | none =>
    rw [tkF_none e1]
    show (tkF (rTimes one m) [] S).2 = none
    rw [e, tkF_none (times_bad hT e1 hk)]
  | some y =>
    obtain ⟨x, q'⟩ := y
    rw [tkF_some e1]
    exact ⟨p0, e, rTimes_more hT e1⟩
theorem Runs.end_ {α : Type} {one : Rd α} {m : Nat} {S : Option Nat} {xs : List α} {T : Option Nat} (h : Runs one m S (tkF (rTimes one m) [] S) m xs T) : (tkF (rTimes one m) [] S).2 = T ∧ (T ≠ none → (tkF (rTimes one m) [] S).1 = xs) := by
  cases T with
  | none => exact ⟨h, fun h => absurd rfl h⟩
  | some q =>
    obtain ⟨p0, e, hT⟩ := h
    rw [e, tkF_some hT]
    exact ⟨rfl, fun _ => rfl⟩
theorem Runs.bad {α : Type} {one : Rd α} {m k : Nat} {S : Option Nat} {xs : List α} (h : Runs one m S (tkF (rTimes one m) [] S) k xs none) : (tkF (rTimes one m) [] S).2 = none := h
/-! ### Rows off three blocks -/
def H2 (r g b : Nat) : Nat → Prop := fun k => k ≠ g ∧ k ≠ b ∧ k ≠ r
structure RF (r g b size : Nat) (A : Option Addr) (n : Nat) (xs : List Value) (w : World) : Prop where
  rd : Reads w w.heap.size size A n xs
  ne : 0 < n → ∀ ad, A = some ad → H2 r g b ad.block
theorem RF.keep2 {r g b size n : Nat} {A : Option Addr} {xs : List Value} {w w' : World} (h : RF r g b size A n xs w) (hk : Keep (H2 r g b) w w') : RF r g b size A n xs w' := ⟨hk.reads h.rd h.ne, h.ne⟩
theorem RF.keep {r g b size n : Nat} {A : Option Addr} {xs : List Value} {w w' : World} (h : RF r g b size A n xs w) (hk : Keep (Not g) w w') : RF r g b size A n xs w' := h.keep2 (hk.mono fun k h => h.1)
theorem RF.only {r g b size n : Nat} {A : Option Addr} {xs : List Value} {w w' : World} (h : RF r g b size A n xs w) (ho : Only b w w') : RF r g b size A n xs w' := h.keep2 (Keep.only ho fun h => h.2.1 rfl)
theorem RF.of_lst {lo r g b size c n : Nat} {A : Option Addr} {xs : List Value} {w : World} (h : Lst lo size A c n xs w) (hr : r < lo) (hg : g < lo) (hb : b < lo) : RF r g b size A n xs w := ⟨h.rd, fun h0 ad e => by have := h.lo h0 ad e; exact ⟨by omega, by omega, by omega⟩⟩
theorem RF.of_own {base r g b size c n : Nat} {t : TypeId} {A : Option Addr} {xs : List Value} {w : World} (h : w.ownsRow base t size (.slice A n c) n xs) (hr : r < base) (hg : g < base) (hb : b < base) : RF r g b size A n xs w := ⟨Reads.of_own h, fun h0 ad e => by
  subst e
  have := own_lt h (k := ad.block) rfl
  exact ⟨by omega, by omega, by omega⟩⟩
structure EmF (r g b : Nat) (m : EM) (w : World) : Prop where
  l1 : RF r g b 2 m.A m.x.cmd.mem.length (mcells m.x.cmd.mem) w
  l2 : RF r g b 1 m.B m.x.voters.length (m.x.voters.map iv) w
  l3 : RF r g b 1 m.E m.x.learners.length (m.x.learners.map iv) w
  ok : EntOk m.x
def EmsF (r g b : Nat) (ms : List EM) (w : World) : Prop := ∀ m ∈ ms, EmF r g b m w
theorem EmsF.keep2 {r g b : Nat} {ms : List EM} {w w' : World} (h : EmsF r g b ms w) (hk : Keep (H2 r g b) w w') : EmsF r g b ms w' := fun m hm => ⟨(h m hm).l1.keep2 hk, (h m hm).l2.keep2 hk, (h m hm).l3.keep2 hk, (h m hm).ok⟩
theorem EmsF.keep {r g b : Nat} {ms : List EM} {w w' : World} (h : EmsF r g b ms w) (hk : Keep (Not g) w w') : EmsF r g b ms w' := h.keep2 (hk.mono fun k h => h.1)
theorem EmsF.only {r g b : Nat} {ms : List EM} {w w' : World} (h : EmsF r g b ms w) (ho : Only b w w') : EmsF r g b ms w' := h.keep2 (Keep.only ho fun h => h.2.1 rfl)
theorem EmsF.of {lo r g b : Nat} {v : Value} {ms : List EM} {w : World} (h : Ens lo v ms w) (hr : r < lo) (hg : g < lo) (hb : b < lo) : EmsF r g b ms w := fun m hm => ⟨RF.of_lst (h m hm).l1.1 hr hg hb, RF.of_lst (h m hm).l2.1 hr hg hb, RF.of_lst (h m hm).l3.1 hr hg hb, (h m hm).ok⟩
theorem EmsF.in_ {r g b : Nat} {ms : List EM} {w : World} (h : EmsF r g b ms w) : ∀ m ∈ ms, EmIn w m := fun m hm => ⟨(h m hm).l1.rd, (h m hm).l2.rd, (h m hm).l3.rd, (h m hm).ok.w⟩
theorem Keep.bel {H : Nat → Prop} {w w' w'' : World} (h : Keep H w w') (hb : Below w.heap.size w' w'') : Keep H w w'' := ⟨hb.os.trans h.os, hb.tape.trans h.tape, hb.output.trans h.output, Nat.le_trans h.size hb.size, fun k hk hl => (hb.block k hl).trans (h.block k hk hl)⟩
theorem RF.onlyR {r g b size n : Nat} {A : Option Addr} {xs : List Value} {w w' : World} (h : RF r g b size A n xs w) (ho : Only r w w') : RF r g b size A n xs w' := h.keep2 (Keep.only ho fun h => h.2.2 rfl)
theorem EmsF.onlyR {r g b : Nat} {ms : List EM} {w w' : World} (h : EmsF r g b ms w) (ho : Only r w w') : EmsF r g b ms w' := h.keep2 (Keep.only ho fun h => h.2.2 rfl)
theorem PS.apart {g : Nat} {A : Option Addr} {n cap : Nat} {bs : List Nat} {S : Option Nat} {w : World} (h : PS g A n cap bs S w) {B m : Nat} {A1 : Option Addr} {xs : List Nat} (hr : Reads w B 1 A1 m (xs.map bv)) : 0 < m → ∀ ad, A1 = some ad → Not g ad.block := by
  obtain ⟨p, er, -, hB, ⟨-, rfl⟩ | ⟨-, rfl⟩⟩ := h.cells
  · exact u8_apart hB (by rfl) hr
  · exact u8_apart hB (by rfl) hr
theorem PS.under {g B : Nat} {A : Option Addr} {n cap : Nat} {bs : List Nat} {S : Option Nat} {w w' : World} (h : PS g A n cap bs S w) (hb : Below B w w') (hg : g < B) (hA : 0 < n → ∀ ad, A = some ad → ad.block < B) : PS g A n cap bs S w' := by
  have hk : Keep (fun k => k < B) w w' := ⟨hb.os, hb.tape, hb.output, hb.size, fun k hk _ => hb.block k hk⟩
  have hi := h.inb
  have hin : InB w' A n cap bs := ⟨hk.reads hi.rd hA, hi.byt, hi.len, hi.le, hi.mx, hi.reach⟩
  cases S with
  | none => exact ⟨by obtain ⟨p, hp, hB⟩ := PX.blk h; exact ⟨p, hp, hk.blk hB hg⟩, hin, PX.ne h⟩
  | some p => exact ⟨hk.blk (PW.blk h) hg, hin, PW.ne h, PW.pl h⟩
theorem sizeMsg : (Tryz.prog.info? 38).map (·.size) = some 27 := by kernel_rfl
set_option maxRecDepth 100000 in
set_option maxHeartbeats 16000000 in
theorem Get_any (A : Option Addr) (n cap : Nat) (bs : List Nat) (w : World) (HI : Hid (InB w A n cap bs)) (hg : Hid (GE w)) :
    Calls Tryz.prog 13 #[.slice A n cap] w (RetGet bs n w) := by
  have hm0 : rMsg bs 0 = Option.bind (some 0) ((rInt bs).bind fun x1 => (rInt bs).bind fun x2 => (rInt bs).bind fun x3 => (rNum bs).bind fun x4 => (rNum bs).bind fun x5 => (rNum bs).bind fun x6 => (rNum bs).bind fun x7 => (rNum bs).bind fun x8 => (rFlag bs).bind fun x9 => (rFlag bs).bind fun x10 => (rCnt bs).bind fun k11 => (rTimes (rEnt bs) k11).bind fun x11 => (rConf bs).bind fun x12 => (rHd bs).bind fun x13 => (rText bs).bind fun x14 => (rNum bs).bind fun x15 => (rNum bs).bind fun x16 => (rInt bs).bind fun x17 => (rText bs).bind fun x18 => (rInt bs).bind fun x19 => (rCnt bs).bind fun k20 => (rTimes (rText bs) k20).bind fun x20 => Rd.pure (⟨x1, x2, x3, x4, x5, x6, x7, x8, x9, x10, x11, x12.1, x12.2, x13, x14, x15, x16, x17, x18, x19, x20⟩ : MsgT)) := by rw [rMsg_steps]; rfl
  have HM := Lh hm0
  have HAL := Lh (show 0 < n → ∀ ad, A = some ad → ad.block < w.heap.size from fun h0 ad e => by obtain ⟨ad', e', hb, -⟩ := HI.out.rd.2 h0; rw [e] at e'; obtain rfl := Option.some.inj e'; exact hb)
  obtain ⟨w0, ew0⟩ : ∃ w0, w.alloc (.cells #[.int .i64 0, .int .i64 0, .int .i64 0, .int .u64 0, .int .u64 0, .int .u64 0, .int .u64 0, .int .u64 0, .bool false, .bool false, .slice none 0 0, .slice none 0 0, .slice none 0 0, .int .u64 0, .int .i64 0, .int .u64 0, .int .i64 0, .int .i64 0, .int .i64 0, .int .u32 0, .slice none 0 0, .int .u64 0, .int .u64 0, .int .i64 0, .string ⟨#[]⟩, .int .i64 0, .slice none 0 0] 38) = w0 := ⟨_, rfl⟩
  obtain ⟨w1, ew1⟩ : ∃ w1, w0.alloc (.cells #[.slice A n cap, .int .i64 0, .nilIface] 69) = w1 := ⟨_, rfl⟩
  have hx0 : Blk (w.alloc (.cells #[.int .i64 0, .int .i64 0, .int .i64 0, .int .u64 0, .int .u64 0, .int .u64 0, .int .u64 0, .int .u64 0, .bool false, .bool false, .slice none 0 0, .slice none 0 0, .slice none 0 0, .int .u64 0, .int .i64 0, .int .u64 0, .int .i64 0, .int .i64 0, .int .i64 0, .int .u32 0, .slice none 0 0, .int .u64 0, .int .u64 0, .int .i64 0, .string ⟨#[]⟩, .int .i64 0, .slice none 0 0] 38)) w.heap.size 38 #[.int .i64 0, .int .i64 0, .int .i64 0, .int .u64 0, .int .u64 0, .int .u64 0, .int .u64 0, .int .u64 0, .bool false, .bool false, .slice none 0 0, .slice none 0 0, .slice none 0 0, .int .u64 0, .int .i64 0, .int .u64 0, .int .i64 0, .int .i64 0, .int .i64 0, .int .u32 0, .slice none 0 0, .int .u64 0, .int .u64 0, .int .i64 0, .string ⟨#[]⟩, .int .i64 0, .slice none 0 0] := Blk.new w _ _
  have hb0 : Below w.heap.size w (w.alloc (.cells #[.int .i64 0, .int .i64 0, .int .i64 0, .int .u64 0, .int .u64 0, .int .u64 0, .int .u64 0, .int .u64 0, .bool false, .bool false, .slice none 0 0, .slice none 0 0, .slice none 0 0, .int .u64 0, .int .i64 0, .int .u64 0, .int .i64 0, .int .i64 0, .int .i64 0, .int .u32 0, .slice none 0 0, .int .u64 0, .int .u64 0, .int .i64 0, .string ⟨#[]⟩, .int .i64 0, .slice none 0 0] 38)) := (Below.refl _ _).alloc (Nat.le_refl _) _
  have hs0 : (w.alloc (.cells #[.int .i64 0, .int .i64 0, .int .i64 0, .int .u64 0, .int .u64 0, .int .u64 0, .int .u64 0, .int .u64 0, .bool false, .bool false, .slice none 0 0, .slice none 0 0, .slice none 0 0, .int .u64 0, .int .i64 0, .int .u64 0, .int .i64 0, .int .i64 0, .int .i64 0, .int .u32 0, .slice none 0 0, .int .u64 0, .int .u64 0, .int .i64 0, .string ⟨#[]⟩, .int .i64 0, .slice none 0 0] 38)).heap.size = w.heap.size + 1 := by simp
  rw [ew0] at hx0 hb0 hs0
  have hx1 : Blk (w0.alloc (.cells #[.slice A n cap, .int .i64 0, .nilIface] 69)) w0.heap.size 69 #[.slice A n cap, .int .i64 0, .nilIface] := Blk.new w0 _ _
  have hx0 := hx0.alloc (.cells #[.slice A n cap, .int .i64 0, .nilIface] 69)
  have hb1 : Below w0.heap.size w0 (w0.alloc (.cells #[.slice A n cap, .int .i64 0, .nilIface] 69)) := (Below.refl _ _).alloc (Nat.le_refl _) _
  have hs1 : (w0.alloc (.cells #[.slice A n cap, .int .i64 0, .nilIface] 69)).heap.size = w0.heap.size + 1 := by simp
  rw [ew1] at hx0 hx1 hb1 hs1
  obtain ⟨g, eg⟩ : ∃ g, w0.heap.size = g := ⟨_, rfl⟩
  rw [eg] at hx1 hs1
  have hb01 := hb0.trans (hb1.mono hb0.size)
  have hin : InB w1 A n cap bs := (HI.out.later hb0).later hb1
  have PP : Hid (PS g A n cap bs (some 0) w1) := Lh ⟨hx1, hin, fun h0 ad e => by have := HAL.out h0 ad e; show ad.block ≠ g; omega, Nat.zero_le _⟩
  have RR := Lh hx0
  have KB := Lh hb01
  have HRG := Lh (show w.heap.size < g ∧ g < w1.heap.size ∧ w1.heap.size = g + 1 from by omega)
  have hR0 := Lh (show w.heap.size ≠ g from by omega)
  clear hx0 hx1 hb0 hb1 hs0 hs1 hb01 hin hm0
  go_enter Tryz.func13, Tryz.ntmps13
  go_wp2_with (first | rw [ew0] | rw [ew1] | rw [eg])
  clear ew0 ew1 eg
  have hc := tk_int g A n cap bs (some 0) w1 PP
  have hm := HM.out
  rw [tkF_bind (x0 := (0 : Int))] at hm
  have hbk := fun h => @tkF_back _ (rInt bs) (0 : Int) (some 0) h
  obtain ⟨⟨x1, S1⟩, hy⟩ : ∃ y, tkF (rInt bs) (0 : Int) (some 0) = y := ⟨_, rfl⟩
  rw [hy] at hm hbk hc
  dsimp only at hm hbk
  clear HM
  have HM := Lh hm
  have BS1 := Lh hbk
  clear hm hbk
  clear hy
  refine hc.mono ?_
  rintro e w2 ⟨hk, v, rfl, ⟨rfl, hx2⟩, hp⟩
  clear hc
  have Nx1 := Lh hx2
  clear hx2
  have KB := Lh (KB.out.trans (hk.toBelow KB.out.size (fun k hl => by have := HRG.out; show k ≠ g; omega)))
  have RR := Lh (hk.notBlk RR.out hR0.out)
  have PP := Lh hp
  clear hk hp
  obtain ⟨b, eb⟩ : ∃ b, w2.heap.size = b := ⟨_, rfl⟩
  have hB : Blk (w2.alloc (.cells #[.int .i64 0, .int .i64 0, .int .i64 0, .int .u64 0, .int .u64 0, .int .u64 0, .int .u64 0, .int .u64 0, .bool false, .bool false, .slice none 0 0, .slice none 0 0, .slice none 0 0, .int .u64 0, .int .i64 0, .int .u64 0, .int .i64 0, .int .i64 0, .int .i64 0, .int .u32 0, .slice none 0 0, .int .u64 0, .int .u64 0, .int .i64 0, .string ⟨#[]⟩, .int .i64 0, .slice none 0 0] 38)) w2.heap.size 38 #[.int .i64 0, .int .i64 0, .int .i64 0, .int .u64 0, .int .u64 0, .int .u64 0, .int .u64 0, .int .u64 0, .bool false, .bool false, .slice none 0 0, .slice none 0 0, .slice none 0 0, .int .u64 0, .int .i64 0, .int .u64 0, .int .i64 0, .int .i64 0, .int .i64 0, .int .u32 0, .slice none 0 0, .int .u64 0, .int .u64 0, .int .i64 0, .string ⟨#[]⟩, .int .i64 0, .slice none 0 0] := Blk.new w2 _ _
  have hb : Below w2.heap.size w2 (w2.alloc (.cells #[.int .i64 0, .int .i64 0, .int .i64 0, .int .u64 0, .int .u64 0, .int .u64 0, .int .u64 0, .int .u64 0, .bool false, .bool false, .slice none 0 0, .slice none 0 0, .slice none 0 0, .int .u64 0, .int .i64 0, .int .u64 0, .int .i64 0, .int .i64 0, .int .i64 0, .int .u32 0, .slice none 0 0, .int .u64 0, .int .u64 0, .int .i64 0, .string ⟨#[]⟩, .int .i64 0, .slice none 0 0] 38)) := (Below.refl _ _).alloc (Nat.le_refl _) _
  obtain ⟨wa, ewa⟩ : ∃ wa, w2.alloc (.cells #[.int .i64 0, .int .i64 0, .int .i64 0, .int .u64 0, .int .u64 0, .int .u64 0, .int .u64 0, .int .u64 0, .bool false, .bool false, .slice none 0 0, .slice none 0 0, .slice none 0 0, .int .u64 0, .int .i64 0, .int .u64 0, .int .i64 0, .int .i64 0, .int .i64 0, .int .u32 0, .slice none 0 0, .int .u64 0, .int .u64 0, .int .i64 0, .string ⟨#[]⟩, .int .i64 0, .slice none 0 0] 38) = wa := ⟨_, rfl⟩
  rw [ewa] at hB hb
  have hl1 := PP.out.lt
  have hl2 := RR.out.lt
  rw [eb] at hl1 hl2
  have HBL := Lh (And.intro hl1 hl2)
  have PP := Lh (PP.out.below hb)
  have RR := Lh (RR.out.below hb RR.out.lt)
  have KB := Lh (KB.out.trans (hb.mono KB.out.size))
  rw [eb] at hB
  have hbg := Lh (show b ≠ g from by have := HBL.out; omega)
  have hRb := Lh (show w.heap.size ≠ b from by have := HBL.out; omega)
  clear hb hl1 hl2
  go_wp2_with (first | rw [ewa] | (refine wpl_store_blk rfl 38 (.tmp 5) (.tmp 15) rfl b 38 #[.int .i64 0, .int .i64 0, .int .i64 0, .int .u64 0, .int .u64 0, .int .u64 0, .int .u64 0, .int .u64 0, .bool false, .bool false, .slice none 0 0, .slice none 0 0, .slice none 0 0, .int .u64 0, .int .i64 0, .int .u64 0, .int .i64 0, .int .i64 0, .int .i64 0, .int .u32 0, .slice none 0 0, .int .u64 0, .int .u64 0, .int .i64 0, .string ⟨#[]⟩, .int .i64 0, .slice none 0 0] #[.int .i64 x1, .int .i64 0, .int .i64 0, .int .u64 0, .int .u64 0, .int .u64 0, .int .u64 0, .int .u64 0, .bool false, .bool false, .slice none 0 0, .slice none 0 0, .slice none 0 0, .int .u64 0, .int .i64 0, .int .u64 0, .int .i64 0, .int .i64 0, .int .i64 0, .int .u32 0, .slice none 0 0, .int .u64 0, .int .u64 0, .int .i64 0, .string ⟨#[]⟩, .int .i64 0, .slice none 0 0] rfl rfl hB rfl sizeMsg rfl ?_; intro w3 hB9 hO9) | rw [eb])
  clear ewa eb hB
  have BB := hB9
  have RR := Lh (hO9.out.blk RR.out hRb.out)
  have PP := Lh (PP.out.only hO9.out hbg.out (fun h0 ad e => by have := HAL.out h0 ad e; have := HBL.out; show ad.block ≠ b; omega))
  have KB := Lh (KB.out.trans (hO9.out.below (by have := HBL.out; omega)))
  clear hB9 hO9
  have hc := tk_int g A n cap bs S1 w3 PP
  have hm := HM.out
  rw [tkF_bind (x0 := (0 : Int))] at hm
  have hbk := fun h => @tkF_back _ (rInt bs) (0 : Int) S1 h
  obtain ⟨⟨x2, S2⟩, hy⟩ : ∃ y, tkF (rInt bs) (0 : Int) S1 = y := ⟨_, rfl⟩
  rw [hy] at hm hbk hc
  dsimp only at hm hbk
  clear HM
  have HM := Lh hm
  have BS2 := Lh hbk
  clear hm hbk
  clear hy
  refine hc.mono ?_
  rintro e w4 ⟨hk, v, rfl, ⟨rfl, hx4⟩, hp⟩
  clear hc
  have Nx2 := Lh hx4
  clear hx4
  have KB := Lh (KB.out.trans (hk.toBelow KB.out.size (fun k hl => by have := HRG.out; show k ≠ g; omega)))
  have RR := Lh (hk.notBlk RR.out hR0.out)
  have BB := Lh (hk.notBlk BB.out hbg.out)
  have PP := Lh hp
  clear hk hp
  have ci : w4.cell? ⟨b, 1, none⟩ = some (.int .i64 0) := BB.out.cell 1
  have fi := BB.out.frozen 1
  go_wp2_with fail
  have hB := BB.out.set_ 1 (.int .i64 x2)
  have hO := Only.set_ w4 b 1 (.int .i64 x2)
  obtain ⟨w5, ez⟩ : ∃ w5, w4.setCell ⟨b, 1, none⟩ (.int .i64 x2) = w5 := ⟨_, rfl⟩
  rw [ez] at hB hO ⊢
  clear ez ci fi BB
  have BB : Hid (Blk w5 b 38 #[.int .i64 x1, .int .i64 x2, .int .i64 0, .int .u64 0, .int .u64 0, .int .u64 0, .int .u64 0, .int .u64 0, .bool false, .bool false, .slice none 0 0, .slice none 0 0, .slice none 0 0, .int .u64 0, .int .i64 0, .int .u64 0, .int .i64 0, .int .i64 0, .int .i64 0, .int .u32 0, .slice none 0 0, .int .u64 0, .int .u64 0, .int .i64 0, .string ⟨#[]⟩, .int .i64 0, .slice none 0 0]) := Lh hB
  have RR := Lh (hO.blk RR.out hRb.out)
  have PP := Lh (PP.out.only hO hbg.out (fun h0 ad e => by have := HAL.out h0 ad e; have := HBL.out; show ad.block ≠ b; omega))
  have KB := Lh (KB.out.trans (hO.below (by have := HBL.out; omega)))
  clear hB hO
  have hc := tk_int g A n cap bs S2 w5 PP
  have hm := HM.out
  rw [tkF_bind (x0 := (0 : Int))] at hm
  have hbk := fun h => @tkF_back _ (rInt bs) (0 : Int) S2 h
  obtain ⟨⟨x3, S3⟩, hy⟩ : ∃ y, tkF (rInt bs) (0 : Int) S2 = y := ⟨_, rfl⟩
  rw [hy] at hm hbk hc
  dsimp only at hm hbk
  clear HM
  have HM := Lh hm
  have BS3 := Lh hbk
  clear hm hbk
  clear hy
  refine hc.mono ?_
  rintro e w6 ⟨hk, v, rfl, ⟨rfl, hx6⟩, hp⟩
  clear hc
  have Nx3 := Lh hx6
  clear hx6
  have KB := Lh (KB.out.trans (hk.toBelow KB.out.size (fun k hl => by have := HRG.out; show k ≠ g; omega)))
  have RR := Lh (hk.notBlk RR.out hR0.out)
  have BB := Lh (hk.notBlk BB.out hbg.out)
  have PP := Lh hp
  clear hk hp
  have ci : w6.cell? ⟨b, 2, none⟩ = some (.int .i64 0) := BB.out.cell 2
  have fi := BB.out.frozen 2
  go_wp2_with fail
  have hB := BB.out.set_ 2 (.int .i64 x3)
  have hO := Only.set_ w6 b 2 (.int .i64 x3)
  obtain ⟨w7, ez⟩ : ∃ w7, w6.setCell ⟨b, 2, none⟩ (.int .i64 x3) = w7 := ⟨_, rfl⟩
  rw [ez] at hB hO ⊢
  clear ez ci fi BB
  have BB : Hid (Blk w7 b 38 #[.int .i64 x1, .int .i64 x2, .int .i64 x3, .int .u64 0, .int .u64 0, .int .u64 0, .int .u64 0, .int .u64 0, .bool false, .bool false, .slice none 0 0, .slice none 0 0, .slice none 0 0, .int .u64 0, .int .i64 0, .int .u64 0, .int .i64 0, .int .i64 0, .int .i64 0, .int .u32 0, .slice none 0 0, .int .u64 0, .int .u64 0, .int .i64 0, .string ⟨#[]⟩, .int .i64 0, .slice none 0 0]) := Lh hB
  have RR := Lh (hO.blk RR.out hRb.out)
  have PP := Lh (PP.out.only hO hbg.out (fun h0 ad e => by have := HAL.out h0 ad e; have := HBL.out; show ad.block ≠ b; omega))
  have KB := Lh (KB.out.trans (hO.below (by have := HBL.out; omega)))
  clear hB hO
  have ix0 : ∀ W, (Instr.index 73 (.agg #[.pointer (some ⟨b, 3, none⟩), .pointer (some ⟨b, 4, none⟩), .pointer (some ⟨b, 5, none⟩), .pointer (some ⟨b, 6, none⟩), .pointer (some ⟨b, 7, none⟩)]) (.int .i64 0)).run Tryz.prog W = .ok (.pointer (some ⟨b, 3, none⟩)) W := fun W => by kernel_rfl
  have ix1 : ∀ W, (Instr.index 73 (.agg #[.pointer (some ⟨b, 3, none⟩), .pointer (some ⟨b, 4, none⟩), .pointer (some ⟨b, 5, none⟩), .pointer (some ⟨b, 6, none⟩), .pointer (some ⟨b, 7, none⟩)]) (.int .i64 1)).run Tryz.prog W = .ok (.pointer (some ⟨b, 4, none⟩)) W := fun W => by kernel_rfl
  have ix2 : ∀ W, (Instr.index 73 (.agg #[.pointer (some ⟨b, 3, none⟩), .pointer (some ⟨b, 4, none⟩), .pointer (some ⟨b, 5, none⟩), .pointer (some ⟨b, 6, none⟩), .pointer (some ⟨b, 7, none⟩)]) (.int .i64 2)).run Tryz.prog W = .ok (.pointer (some ⟨b, 5, none⟩)) W := fun W => by kernel_rfl
  have ix3 : ∀ W, (Instr.index 73 (.agg #[.pointer (some ⟨b, 3, none⟩), .pointer (some ⟨b, 4, none⟩), .pointer (some ⟨b, 5, none⟩), .pointer (some ⟨b, 6, none⟩), .pointer (some ⟨b, 7, none⟩)]) (.int .i64 3)).run Tryz.prog W = .ok (.pointer (some ⟨b, 6, none⟩)) W := fun W => by kernel_rfl
  have ix4 : ∀ W, (Instr.index 73 (.agg #[.pointer (some ⟨b, 3, none⟩), .pointer (some ⟨b, 4, none⟩), .pointer (some ⟨b, 5, none⟩), .pointer (some ⟨b, 6, none⟩), .pointer (some ⟨b, 7, none⟩)]) (.int .i64 4)).run Tryz.prog W = .ok (.pointer (some ⟨b, 7, none⟩)) W := fun W => by kernel_rfl
  refine wp_loop_rounds 7 ?_
  rw [rounds_succ]
  go_wp2_with fail
  have hc := tk_num g A n cap bs S3 w7 PP
  have hm := HM.out
  rw [tkF_bind (x0 := (0 : Nat))] at hm
  have hbk := fun h => @tkF_back _ (rNum bs) (0 : Nat) S3 h
  obtain ⟨⟨x4, S4⟩, hy⟩ : ∃ y, tkF (rNum bs) (0 : Nat) S3 = y := ⟨_, rfl⟩
  rw [hy] at hm hbk hc
  dsimp only at hm hbk
  clear HM
  have HM := Lh hm
  have BS4 := Lh hbk
  clear hm hbk
  clear hy
  refine hc.mono ?_
  rintro e w8 ⟨hk, v, rfl, ⟨rfl, hx8⟩, hp⟩
  clear hc
  have Nx4 := Lh hx8
  clear hx8
  have KB := Lh (KB.out.trans (hk.toBelow KB.out.size (fun k hl => by have := HRG.out; show k ≠ g; omega)))
  have RR := Lh (hk.notBlk RR.out hR0.out)
  have BB := Lh (hk.notBlk BB.out hbg.out)
  have PP := Lh hp
  clear hk hp
  have ci : w8.cell? ⟨b, 3, none⟩ = some (.int .u64 0) := BB.out.cell 3
  have fi := BB.out.frozen 3
  go_wp2_with fail
  have hB := BB.out.set_ 3 (.int .u64 (x4 : Int))
  have hO := Only.set_ w8 b 3 (.int .u64 (x4 : Int))
  obtain ⟨w9, ez⟩ : ∃ w9, w8.setCell ⟨b, 3, none⟩ (.int .u64 (x4 : Int)) = w9 := ⟨_, rfl⟩
  rw [ez] at hB hO ⊢
  clear ez ci fi BB
  have BB : Hid (Blk w9 b 38 #[.int .i64 x1, .int .i64 x2, .int .i64 x3, .int .u64 (x4 : Int), .int .u64 0, .int .u64 0, .int .u64 0, .int .u64 0, .bool false, .bool false, .slice none 0 0, .slice none 0 0, .slice none 0 0, .int .u64 0, .int .i64 0, .int .u64 0, .int .i64 0, .int .i64 0, .int .i64 0, .int .u32 0, .slice none 0 0, .int .u64 0, .int .u64 0, .int .i64 0, .string ⟨#[]⟩, .int .i64 0, .slice none 0 0]) := Lh hB
  have RR := Lh (hO.blk RR.out hRb.out)
  have PP := Lh (PP.out.only hO hbg.out (fun h0 ad e => by have := HAL.out h0 ad e; have := HBL.out; show ad.block ≠ b; omega))
  have KB := Lh (KB.out.trans (hO.below (by have := HBL.out; omega)))
  clear hB hO
  rw [rounds_succ]
  go_wp2_with fail
  have hc := tk_num g A n cap bs S4 w9 PP
  have hm := HM.out
  rw [tkF_bind (x0 := (0 : Nat))] at hm
  have hbk := fun h => @tkF_back _ (rNum bs) (0 : Nat) S4 h
  obtain ⟨⟨x5, S5⟩, hy⟩ : ∃ y, tkF (rNum bs) (0 : Nat) S4 = y := ⟨_, rfl⟩
  rw [hy] at hm hbk hc
  dsimp only at hm hbk
  clear HM
  have HM := Lh hm
  have BS5 := Lh hbk
  clear hm hbk
  clear hy
  refine hc.mono ?_
  rintro e w10 ⟨hk, v, rfl, ⟨rfl, hx10⟩, hp⟩
  clear hc
  have Nx5 := Lh hx10
  clear hx10
  have KB := Lh (KB.out.trans (hk.toBelow KB.out.size (fun k hl => by have := HRG.out; show k ≠ g; omega)))
  have RR := Lh (hk.notBlk RR.out hR0.out)
  have BB := Lh (hk.notBlk BB.out hbg.out)
  have PP := Lh hp
  clear hk hp
  have ci : w10.cell? ⟨b, 4, none⟩ = some (.int .u64 0) := BB.out.cell 4
  have fi := BB.out.frozen 4
  go_wp2_with fail
  have hB := BB.out.set_ 4 (.int .u64 (x5 : Int))
  have hO := Only.set_ w10 b 4 (.int .u64 (x5 : Int))
  obtain ⟨w11, ez⟩ : ∃ w11, w10.setCell ⟨b, 4, none⟩ (.int .u64 (x5 : Int)) = w11 := ⟨_, rfl⟩
  rw [ez] at hB hO ⊢
  clear ez ci fi BB
  have BB : Hid (Blk w11 b 38 #[.int .i64 x1, .int .i64 x2, .int .i64 x3, .int .u64 (x4 : Int), .int .u64 (x5 : Int), .int .u64 0, .int .u64 0, .int .u64 0, .bool false, .bool false, .slice none 0 0, .slice none 0 0, .slice none 0 0, .int .u64 0, .int .i64 0, .int .u64 0, .int .i64 0, .int .i64 0, .int .i64 0, .int .u32 0, .slice none 0 0, .int .u64 0, .int .u64 0, .int .i64 0, .string ⟨#[]⟩, .int .i64 0, .slice none 0 0]) := Lh hB
  have RR := Lh (hO.blk RR.out hRb.out)
  have PP := Lh (PP.out.only hO hbg.out (fun h0 ad e => by have := HAL.out h0 ad e; have := HBL.out; show ad.block ≠ b; omega))
  have KB := Lh (KB.out.trans (hO.below (by have := HBL.out; omega)))
  clear hB hO
  rw [rounds_succ]
  go_wp2_with fail
  have hc := tk_num g A n cap bs S5 w11 PP
  have hm := HM.out
  rw [tkF_bind (x0 := (0 : Nat))] at hm
  have hbk := fun h => @tkF_back _ (rNum bs) (0 : Nat) S5 h
  obtain ⟨⟨x6, S6⟩, hy⟩ : ∃ y, tkF (rNum bs) (0 : Nat) S5 = y := ⟨_, rfl⟩
  rw [hy] at hm hbk hc
  dsimp only at hm hbk
  clear HM
  have HM := Lh hm
  have BS6 := Lh hbk
  clear hm hbk
  clear hy
  refine hc.mono ?_
  rintro e w12 ⟨hk, v, rfl, ⟨rfl, hx12⟩, hp⟩
  clear hc
  have Nx6 := Lh hx12
  clear hx12
  have KB := Lh (KB.out.trans (hk.toBelow KB.out.size (fun k hl => by have := HRG.out; show k ≠ g; omega)))
  have RR := Lh (hk.notBlk RR.out hR0.out)
  have BB := Lh (hk.notBlk BB.out hbg.out)
  have PP := Lh hp
  clear hk hp
  have ci : w12.cell? ⟨b, 5, none⟩ = some (.int .u64 0) := BB.out.cell 5
  have fi := BB.out.frozen 5
  go_wp2_with fail
  have hB := BB.out.set_ 5 (.int .u64 (x6 : Int))
  have hO := Only.set_ w12 b 5 (.int .u64 (x6 : Int))
  obtain ⟨w13, ez⟩ : ∃ w13, w12.setCell ⟨b, 5, none⟩ (.int .u64 (x6 : Int)) = w13 := ⟨_, rfl⟩
  rw [ez] at hB hO ⊢
  clear ez ci fi BB
  have BB : Hid (Blk w13 b 38 #[.int .i64 x1, .int .i64 x2, .int .i64 x3, .int .u64 (x4 : Int), .int .u64 (x5 : Int), .int .u64 (x6 : Int), .int .u64 0, .int .u64 0, .bool false, .bool false, .slice none 0 0, .slice none 0 0, .slice none 0 0, .int .u64 0, .int .i64 0, .int .u64 0, .int .i64 0, .int .i64 0, .int .i64 0, .int .u32 0, .slice none 0 0, .int .u64 0, .int .u64 0, .int .i64 0, .string ⟨#[]⟩, .int .i64 0, .slice none 0 0]) := Lh hB
  have RR := Lh (hO.blk RR.out hRb.out)
  have PP := Lh (PP.out.only hO hbg.out (fun h0 ad e => by have := HAL.out h0 ad e; have := HBL.out; show ad.block ≠ b; omega))
  have KB := Lh (KB.out.trans (hO.below (by have := HBL.out; omega)))
  clear hB hO
  rw [rounds_succ]
  go_wp2_with fail
  have hc := tk_num g A n cap bs S6 w13 PP
  have hm := HM.out
  rw [tkF_bind (x0 := (0 : Nat))] at hm
  have hbk := fun h => @tkF_back _ (rNum bs) (0 : Nat) S6 h
  obtain ⟨⟨x7, S7⟩, hy⟩ : ∃ y, tkF (rNum bs) (0 : Nat) S6 = y := ⟨_, rfl⟩
  rw [hy] at hm hbk hc
  dsimp only at hm hbk
  clear HM
  have HM := Lh hm
  have BS7 := Lh hbk
  clear hm hbk
  clear hy
  refine hc.mono ?_
  rintro e w14 ⟨hk, v, rfl, ⟨rfl, hx14⟩, hp⟩
  clear hc
  have Nx7 := Lh hx14
  clear hx14
  have KB := Lh (KB.out.trans (hk.toBelow KB.out.size (fun k hl => by have := HRG.out; show k ≠ g; omega)))
  have RR := Lh (hk.notBlk RR.out hR0.out)
  have BB := Lh (hk.notBlk BB.out hbg.out)
  have PP := Lh hp
  clear hk hp
  have ci : w14.cell? ⟨b, 6, none⟩ = some (.int .u64 0) := BB.out.cell 6
  have fi := BB.out.frozen 6
  go_wp2_with fail
  have hB := BB.out.set_ 6 (.int .u64 (x7 : Int))
  have hO := Only.set_ w14 b 6 (.int .u64 (x7 : Int))
  obtain ⟨w15, ez⟩ : ∃ w15, w14.setCell ⟨b, 6, none⟩ (.int .u64 (x7 : Int)) = w15 := ⟨_, rfl⟩
  rw [ez] at hB hO ⊢
  clear ez ci fi BB
  have BB : Hid (Blk w15 b 38 #[.int .i64 x1, .int .i64 x2, .int .i64 x3, .int .u64 (x4 : Int), .int .u64 (x5 : Int), .int .u64 (x6 : Int), .int .u64 (x7 : Int), .int .u64 0, .bool false, .bool false, .slice none 0 0, .slice none 0 0, .slice none 0 0, .int .u64 0, .int .i64 0, .int .u64 0, .int .i64 0, .int .i64 0, .int .i64 0, .int .u32 0, .slice none 0 0, .int .u64 0, .int .u64 0, .int .i64 0, .string ⟨#[]⟩, .int .i64 0, .slice none 0 0]) := Lh hB
  have RR := Lh (hO.blk RR.out hRb.out)
  have PP := Lh (PP.out.only hO hbg.out (fun h0 ad e => by have := HAL.out h0 ad e; have := HBL.out; show ad.block ≠ b; omega))
  have KB := Lh (KB.out.trans (hO.below (by have := HBL.out; omega)))
  clear hB hO
  rw [rounds_succ]
  go_wp2_with fail
  have hc := tk_num g A n cap bs S7 w15 PP
  have hm := HM.out
  rw [tkF_bind (x0 := (0 : Nat))] at hm
  have hbk := fun h => @tkF_back _ (rNum bs) (0 : Nat) S7 h
  obtain ⟨⟨x8, S8⟩, hy⟩ : ∃ y, tkF (rNum bs) (0 : Nat) S7 = y := ⟨_, rfl⟩
  rw [hy] at hm hbk hc
  dsimp only at hm hbk
  clear HM
  have HM := Lh hm
  have BS8 := Lh hbk
  clear hm hbk
  clear hy
  refine hc.mono ?_
  rintro e w16 ⟨hk, v, rfl, ⟨rfl, hx16⟩, hp⟩
  clear hc
  have Nx8 := Lh hx16
  clear hx16
  have KB := Lh (KB.out.trans (hk.toBelow KB.out.size (fun k hl => by have := HRG.out; show k ≠ g; omega)))
  have RR := Lh (hk.notBlk RR.out hR0.out)
  have BB := Lh (hk.notBlk BB.out hbg.out)
  have PP := Lh hp
  clear hk hp
  have ci : w16.cell? ⟨b, 7, none⟩ = some (.int .u64 0) := BB.out.cell 7
  have fi := BB.out.frozen 7
  go_wp2_with fail
  have hB := BB.out.set_ 7 (.int .u64 (x8 : Int))
  have hO := Only.set_ w16 b 7 (.int .u64 (x8 : Int))
  obtain ⟨w17, ez⟩ : ∃ w17, w16.setCell ⟨b, 7, none⟩ (.int .u64 (x8 : Int)) = w17 := ⟨_, rfl⟩
  rw [ez] at hB hO ⊢
  clear ez ci fi BB
  have BB : Hid (Blk w17 b 38 #[.int .i64 x1, .int .i64 x2, .int .i64 x3, .int .u64 (x4 : Int), .int .u64 (x5 : Int), .int .u64 (x6 : Int), .int .u64 (x7 : Int), .int .u64 (x8 : Int), .bool false, .bool false, .slice none 0 0, .slice none 0 0, .slice none 0 0, .int .u64 0, .int .i64 0, .int .u64 0, .int .i64 0, .int .i64 0, .int .i64 0, .int .u32 0, .slice none 0 0, .int .u64 0, .int .u64 0, .int .i64 0, .string ⟨#[]⟩, .int .i64 0, .slice none 0 0]) := Lh hB
  have RR := Lh (hO.blk RR.out hRb.out)
  have PP := Lh (PP.out.only hO hbg.out (fun h0 ad e => by have := HAL.out h0 ad e; have := HBL.out; show ad.block ≠ b; omega))
  have KB := Lh (KB.out.trans (hO.below (by have := HBL.out; omega)))
  clear hB hO
  rw [rounds_succ]
  go_wp2_with fail
  clear ix0 ix1 ix2 ix3 ix4
  have hc := tk_flag g A n cap bs S8 w17 PP
  have hm := HM.out
  rw [tkF_bind (x0 := false)] at hm
  have hbk := fun h => @tkF_back _ (rFlag bs) false S8 h
  obtain ⟨⟨x9, S9⟩, hy⟩ : ∃ y, tkF (rFlag bs) false S8 = y := ⟨_, rfl⟩
  rw [hy] at hm hbk hc
  dsimp only at hm hbk
  clear HM
  have HM := Lh hm
  have BS9 := Lh hbk
  clear hm hbk
  clear hy
  refine hc.mono ?_
  rintro e w18 ⟨hk, v, rfl, rfl, hp⟩
  clear hc
  have KB := Lh (KB.out.trans (hk.toBelow KB.out.size (fun k hl => by have := HRG.out; show k ≠ g; omega)))
  have RR := Lh (hk.notBlk RR.out hR0.out)
  have BB := Lh (hk.notBlk BB.out hbg.out)
  have PP := Lh hp
  clear hk hp
  have ci : w18.cell? ⟨b, 8, none⟩ = some (.bool false) := BB.out.cell 8
  have fi := BB.out.frozen 8
  go_wp2_with fail
  have hB := BB.out.set_ 8 (.bool x9)
  have hO := Only.set_ w18 b 8 (.bool x9)
  obtain ⟨w19, ez⟩ : ∃ w19, w18.setCell ⟨b, 8, none⟩ (.bool x9) = w19 := ⟨_, rfl⟩
  rw [ez] at hB hO ⊢
  clear ez ci fi BB
  have BB : Hid (Blk w19 b 38 #[.int .i64 x1, .int .i64 x2, .int .i64 x3, .int .u64 (x4 : Int), .int .u64 (x5 : Int), .int .u64 (x6 : Int), .int .u64 (x7 : Int), .int .u64 (x8 : Int), .bool x9, .bool false, .slice none 0 0, .slice none 0 0, .slice none 0 0, .int .u64 0, .int .i64 0, .int .u64 0, .int .i64 0, .int .i64 0, .int .i64 0, .int .u32 0, .slice none 0 0, .int .u64 0, .int .u64 0, .int .i64 0, .string ⟨#[]⟩, .int .i64 0, .slice none 0 0]) := Lh hB
  have RR := Lh (hO.blk RR.out hRb.out)
  have PP := Lh (PP.out.only hO hbg.out (fun h0 ad e => by have := HAL.out h0 ad e; have := HBL.out; show ad.block ≠ b; omega))
  have KB := Lh (KB.out.trans (hO.below (by have := HBL.out; omega)))
  clear hB hO
  have hc := tk_flag g A n cap bs S9 w19 PP
  have hm := HM.out
  rw [tkF_bind (x0 := false)] at hm
  have hbk := fun h => @tkF_back _ (rFlag bs) false S9 h
  obtain ⟨⟨x10, S10⟩, hy⟩ : ∃ y, tkF (rFlag bs) false S9 = y := ⟨_, rfl⟩
  rw [hy] at hm hbk hc
  dsimp only at hm hbk
  clear HM
  have HM := Lh hm
  have BS10 := Lh hbk
  clear hm hbk
  clear hy
  refine hc.mono ?_
  rintro e w20 ⟨hk, v, rfl, rfl, hp⟩
  clear hc
  have KB := Lh (KB.out.trans (hk.toBelow KB.out.size (fun k hl => by have := HRG.out; show k ≠ g; omega)))
  have RR := Lh (hk.notBlk RR.out hR0.out)
  have BB := Lh (hk.notBlk BB.out hbg.out)
  have PP := Lh hp
  clear hk hp
  have ci : w20.cell? ⟨b, 9, none⟩ = some (.bool false) := BB.out.cell 9
  have fi := BB.out.frozen 9
  go_wp2_with fail
  have hB := BB.out.set_ 9 (.bool x10)
  have hO := Only.set_ w20 b 9 (.bool x10)
  obtain ⟨w21, ez⟩ : ∃ w21, w20.setCell ⟨b, 9, none⟩ (.bool x10) = w21 := ⟨_, rfl⟩
  rw [ez] at hB hO ⊢
  clear ez ci fi BB
  have BB : Hid (Blk w21 b 38 #[.int .i64 x1, .int .i64 x2, .int .i64 x3, .int .u64 (x4 : Int), .int .u64 (x5 : Int), .int .u64 (x6 : Int), .int .u64 (x7 : Int), .int .u64 (x8 : Int), .bool x9, .bool x10, .slice none 0 0, .slice none 0 0, .slice none 0 0, .int .u64 0, .int .i64 0, .int .u64 0, .int .i64 0, .int .i64 0, .int .i64 0, .int .u32 0, .slice none 0 0, .int .u64 0, .int .u64 0, .int .i64 0, .string ⟨#[]⟩, .int .i64 0, .slice none 0 0]) := Lh hB
  have RR := Lh (hO.blk RR.out hRb.out)
  have PP := Lh (PP.out.only hO hbg.out (fun h0 ad e => by have := HAL.out h0 ad e; have := HBL.out; show ad.block ≠ b; omega))
  have KB := Lh (KB.out.trans (hO.below (by have := HBL.out; omega)))
  clear hB hO
  have hc := pb_count g A n cap bs S10 w21 PP
  have hm := HM.out
  rw [tkF_bind (x0 := (0 : Nat))] at hm
  have hbk := fun h => @tkF_back _ (rCnt bs) (0 : Nat) S10 h
  obtain ⟨⟨k11, Sk11⟩, hy⟩ : ∃ y, tkF (rCnt bs) (0 : Nat) S10 = y := ⟨_, rfl⟩
  rw [hy] at hm hbk hc
  dsimp only at hm hbk
  clear HM
  have HM := Lh hm
  have BSk11 := Lh hbk
  clear hm hbk
  clear hy
  refine hc.mono ?_
  rintro e w22 ⟨hk, v, rfl, ⟨rfl, hx22⟩, hp⟩
  clear hc
  have Nk11 := Lh hx22
  clear hx22
  have KB := Lh (KB.out.trans (hk.toBelow KB.out.size (fun k hl => by have := HRG.out; show k ≠ g; omega)))
  have RR := Lh (hk.notBlk RR.out hR0.out)
  have BB := Lh (hk.notBlk BB.out hbg.out)
  have PP := Lh hp
  clear hk hp
  have hm := HM.out
  rw [tkF_bind (x0 := [])] at hm
  have hbk := fun h => @tkF_back _ (rTimes (rEnt bs) k11) [] Sk11 h
  obtain ⟨⟨x11, S11⟩, hy⟩ : ∃ y, tkF (rTimes (rEnt bs) k11) [] Sk11 = y := ⟨_, rfl⟩
  rw [hy] at hm hbk 
  dsimp only at hm hbk
  clear HM
  have HM := Lh hm
  have BS11 := Lh hbk
  clear hm hbk
  have HY := Lh hy
  clear hy
  have HLO := Lh (And.intro PP.out.lt BB.out.lt)
  go_upto_block 2 with fail
  go_cut [8] from 44 to 61 (fun s8 wx => ∃ (A1 : Option Addr) (c1 : Nat) (ms : List EM), Hid (Blk wx b 38 #[.int .i64 x1, .int .i64 x2, .int .i64 x3, .int .u64 (x4 : Int), .int .u64 (x5 : Int), .int .u64 (x6 : Int), .int .u64 (x7 : Int), .int .u64 (x8 : Int), .bool x9, .bool x10, .slice A1 ms.length c1, .slice none 0 0, .slice none 0 0, .int .u64 0, .int .i64 0, .int .u64 0, .int .i64 0, .int .i64 0, .int .i64 0, .int .u32 0, .slice none 0 0, .int .u64 0, .int .u64 0, .int .i64 0, .string ⟨#[]⟩, .int .i64 0, .slice none 0 0]) ∧ Hid (Blk wx w.heap.size 38 #[.int .i64 0, .int .i64 0, .int .i64 0, .int .u64 0, .int .u64 0, .int .u64 0, .int .u64 0, .int .u64 0, .bool false, .bool false, .slice none 0 0, .slice none 0 0, .slice none 0 0, .int .u64 0, .int .i64 0, .int .u64 0, .int .i64 0, .int .i64 0, .int .i64 0, .int .u32 0, .slice none 0 0, .int .u64 0, .int .u64 0, .int .i64 0, .string ⟨#[]⟩, .int .i64 0, .slice none 0 0]) ∧ Hid (PS g A n cap bs S11 wx) ∧ Hid (Below w.heap.size w wx) ∧ Hid (Keep (H2 w.heap.size g b) w22 wx) ∧ Hid (S11 ≠ none → x11 = ms.map (·.x) ∧ RF w.heap.size g b 21 A1 ms.length (ms.flatMap emCs) wx ∧ EmsF w.heap.size g b ms wx))
  case first =>
    go_wp2_with fail
    go_loopw [8] (fun vi wr => ∃ (j k : Nat) (T : Option Nat) (A1 : Option Addr) (c1 : Nat) (ms : List EM), j + k = k11 ∧ vi = .int .i64 (j : Int) ∧ Hid (ms.length = k) ∧ Hid (Runs (rEnt bs) k11 Sk11 (tkF (rTimes (rEnt bs) k11) [] Sk11) k (ms.map (·.x)) T) ∧ Hid (Blk wr b 38 #[.int .i64 x1, .int .i64 x2, .int .i64 x3, .int .u64 (x4 : Int), .int .u64 (x5 : Int), .int .u64 (x6 : Int), .int .u64 (x7 : Int), .int .u64 (x8 : Int), .bool x9, .bool x10, .slice A1 ms.length c1, .slice none 0 0, .slice none 0 0, .int .u64 0, .int .i64 0, .int .u64 0, .int .i64 0, .int .i64 0, .int .i64 0, .int .u32 0, .slice none 0 0, .int .u64 0, .int .u64 0, .int .i64 0, .string ⟨#[]⟩, .int .i64 0, .slice none 0 0]) ∧ Hid (Blk wr w.heap.size 38 #[.int .i64 0, .int .i64 0, .int .i64 0, .int .u64 0, .int .u64 0, .int .u64 0, .int .u64 0, .int .u64 0, .bool false, .bool false, .slice none 0 0, .slice none 0 0, .slice none 0 0, .int .u64 0, .int .i64 0, .int .u64 0, .int .i64 0, .int .i64 0, .int .i64 0, .int .u32 0, .slice none 0 0, .int .u64 0, .int .u64 0, .int .i64 0, .string ⟨#[]⟩, .int .i64 0, .slice none 0 0]) ∧ Hid (PS g A n cap bs T wr) ∧ Hid (Below w.heap.size w wr) ∧ Hid (Keep (H2 w.heap.size g b) w22 wr) ∧ Hid (wr.ownsRow w22.heap.size 86 21 (.slice A1 ms.length c1) ms.length (ms.flatMap emCs)) ∧ Hid (Ens w22.heap.size (.slice A1 ms.length c1) ms wr)) (fun vi _ => (intOf vi).toNat)
    case atStart => exact ⟨k11, 0, Sk11, none, 0, [], rfl, rfl, Lh rfl, Lh (Runs.start _ _ _), BB, RR, PP, KB, Lh (Keep.refl _ _), Lh ⟨rfl, .inl ⟨rfl, rfl⟩⟩, Lh (Ens.nil _ _ _)⟩
    case round =>
      obtain ⟨j, k, T, A1, c1, ms, hjk, rfl, hlen, hT, hB, hR, hP, hK1, hK2, hO, hE⟩ := hrel
      clear BB RR PP KB
      by_cases h0 : j = 0
      · as_aux_lemma =>
        subst h0
        obtain rfl : k = k11 := by omega
        go_wp2_with fail
        go_meet
        have he := hT.out.end_
        rw [HY.out] at he
        obtain ⟨e1, e2⟩ := he
        dsimp only at e1 e2
        subst e1
        exact ⟨A1, c1, ms, hB, hR, hP, hK1, hK2, Lh fun h => ⟨e2 h, RF.of_own hO.out (by have := HLO.out; have := HRG.out; omega) HLO.out.1 HLO.out.2, EmsF.of hE.out (by have := HLO.out; have := HRG.out; omega) HLO.out.1 HLO.out.2⟩⟩
      · have hj0 : 0 < j := by omega
        have dj1 : decide ((j : Int) > 0) = true := decide_eq_true (by omega)
        have dj2 : decide (0 < j) = true := decide_eq_true hj0
        cases T with
        | none =>
          as_aux_lemma =>
            obtain ⟨p, hp, hb⟩ := PX.blk hP.out
            have c2 := hb.cell 2
            clear hb h0
            go_wp2_with fail
            go_meet
            have he := hT.out.bad
            rw [HY.out] at he
            dsimp only at he
            subst he
            exact ⟨A1, c1, ms, hB, hR, hP, hK1, hK2, Lh fun h => absurd rfl h⟩
        | some q =>
          as_aux_lemma =>
            have c2 := (PW.blk hP.out).cell 2
            obtain ⟨j1, ej⟩ : ∃ j1, j - 1 = j1 := ⟨_, rfl⟩
            have hm9 := Nk11.out
            have ejw : IntKind.i64.wrap ((j : Int) - 1) = (j1 : Int) := by rw [IntKind.wrap_i64]; omega
            have HJ := Lh (And.intro ej (And.intro hj0 hjk))
            have HT1 := Lh (fun (x0 : EntT) => hT.out.step (x0 := x0) (show k < k11 from by omega))
            clear ej hj0 hjk h0 hm9
            go_upto_region 15 with fail
            clear c2
            refine wp_region_late (S0 := fun _ => True) (S := fun w' => w'.cell? ⟨b, 10, none⟩ = some (.slice A1 ms.length c1)) 7 8 (by kernel_rfl) rfl ⟨trivial, hB.out.cell 10⟩ (fun wd hwd hH => ?_)
            have hPd := Lh (PS.drew hP.out)
            have hBd := Lh hB.out.drew
            have hRd := Lh hR.out.drew
            have hK1d := Lh hK1.out.drew
            have hK2d := Lh (hK2.out.trans keep_drew)
            have hOd := Lh (own_keep (g := g) hO.out keep_drew HLO.out.1)
            have hEd := Lh (hE.out.keep (keep_drew (H := Not g)) HLO.out.1)
            rw [← hwd] at hPd hBd hRd hK1d hK2d hOd
            try rw [← hwd] at hEd
            clear hwd hB hR hP hK1 hK2 hO hE
            refine tS 0 rfl ?_ hH ?_ ?_
            rotate_left
            · (intro wx hx; have hx1 := hx; clear hx; go_simp <;> with_reducible rfl)
            try simp only [Act.put, pA9, pZ9, pS9]
            refine wpAnyT_take 1 (v := ?_) rfl (by kernel_rfl) (fun _ _ _ h => h) (Or.inl ⟨by rfl, ?_⟩) hH ?_
            rotate_left
            · (intro wx hx; have hx1 := hx; clear hx; go_simp <;> with_reducible rfl)
            try simp only [Act.put, pA9, pZ9, pS9]
            refine tS 2 rfl ?_ hH ?_ ?_
            rotate_left
            · (intro wx hx; have hx1 := hx; clear hx; go_simp <;> with_reducible rfl)
            try simp only [Act.put, pA9, pZ9, pS9]
            refine wpAnyT_one 3 rfl (by kernel_rfl) (fun K hK => ?_)
            rw [if_pos (by rfl)]
            go_simp
            go_at_call 24
            have hc := tk_ent g A n cap bs (some q) wd hPd
            have HTs := Lh (HT1.out entZ)
            obtain ⟨⟨y, T2⟩, hy⟩ : ∃ y, tkF (rEnt bs) entZ (some q) = y := ⟨_, rfl⟩
            rw [hy] at hc HTs
            clear hy HT1
            refine hc.mono ?_
            rintro e w3 ⟨hk3, v, rfl, hv, hp3⟩
            clear hc
            obtain ⟨m, hmx, rfl, hsub⟩ := sub_of_ent (lo := w22.heap.size) (v := .slice A1 ms.length c1) hv hK2d.out.size (fun k e => (own_lt hOd.out e).2)
            dsimp only at hmx
            subst hmx
            have hM3 := Lh hsub
            clear hsub hv
            have hB3 := Lh (hk3.notBlk hBd.out hbg.out)
            have hR3 := Lh (hk3.notBlk hRd.out hR0.out)
            have hP3 := Lh hp3
            have hK13 := Lh (hK1d.out.trans (hk3.toBelow hK1d.out.size (fun k hl => by have := HRG.out; show k ≠ g; omega)))
            have hK23 := Lh (hK2d.out.trans (hk3.mono fun k h => h.1))
            have hO3 := Lh (own_keep hOd.out hk3 HLO.out.1)
            have hE3 := Lh (hEd.out.keep (hk3) HLO.out.1)
            clear hBd hRd hPd hK1d hK2d hOd hEd hk3 hp3
            refine hK.out _ _ ⟨trivial, hB3.out.cell 10⟩ (fun hH3 => ?_)
            clear hK K
            try simp only [Act.put, pA9, pZ9, pS9]
            refine wpAnyT_one 4 rfl (by kernel_rfl) (fun K hK => ?_)
            rw [if_pos (by rfl)]
            refine wp_build1 (.tmp 58) rfl (emCs m).toArray rfl rfl ?_
            have hl4 := Reads.lit w3 86 (emCs m) 21 1 rfl
            have hb4 : Below w3.heap.size w3 (w3.alloc (.cells (emCs m).toArray 86)) := (Below.refl _ _).alloc (Nat.le_refl _) _
            obtain ⟨w4, ew4⟩ : ∃ w4, w3.alloc (.cells (emCs m).toArray 86) = w4 := ⟨_, rfl⟩
            rw [ew4] at hl4 hb4
            first | rw [ew4] | (have ew4b := ew4; simp only [List.toArray] at ew4b; rw [ew4b]) | skip
            have hB4 := Lh (hB3.out.below hb4 hB3.out.lt)
            have hR4 := Lh (hR3.out.below hb4 hR3.out.lt)
            have hP4 := Lh (PS.below hP3.out hb4)
            have hK14 := Lh (hK13.out.trans (hb4.mono hK13.out.size))
            have hK24 := Lh (hK23.out.bel (hb4.mono hK23.out.size))
            have hO4 := Lh (own_below hO3.out hb4)
            have hE4 := Lh (hE3.out.below hb4)
            have hM4 := Lh (show SubE _ _ _ _ from ⟨hM3.out.l1.below hb4, hM3.out.l2.below hb4, hM3.out.l3.below hb4, hM3.out.ok⟩)
            have HL4 := Lh hl4
            have hsz4 : w22.heap.size ≤ w4.heap.size := hK24.out.size
            have HSZ4 := Lh hsz4
            clear hl4 hb4 ew4 hB3 hR3 hP3 hK13 hK23 hO3 hE3 hsz4
            refine hK.out _ _ ⟨trivial, hB4.out.cell 10⟩ (fun hH4 => ?_)
            clear hK K
            try simp only [Act.put, pA9, pZ9, pS9]
            refine wpAnyT_one 5 rfl (by kernel_rfl) (fun K hK => ?_)
            obtain ⟨ii, zz, q1, q2, q3, q4, q5⟩ := info_parts' Tryz.infoEnB
            have hnn := hlen.out
            have hjj := HJ.out
            have hm9 := Nk11.out
            refine step_append_any _ rfl (.tmp 56) (.tmp 59) 24 rfl w22.heap.size 86 ii zz 21 224 Tryz.underlying24 q1 q2 q4 q5 q3 (by decide) (.slice A1 ms.length c1) ms.length (ms.flatMap emCs) rfl hO4.out (w3.heap.size + 1) (some ⟨w3.heap.size, 0, none⟩) 1 1 (emCs m) rfl HL4.out (by intro u hu; exact List.all_eq_true.1 (show (emCs m).all (·.oneCell') = true from rfl) u hu) (by unfold maxLen; omega) (by omega) HSZ4.out ?_
            intro v5 w5 k1 k2 k3
            obtain ⟨A5, c5, rfl, -, -⟩ := own_slice k1
            have hbb : Below w22.heap.size w4 w5 := bel_grown_own (Below.refl _ _) HSZ4.out hO4.out k2
            have hB5 := Lh (hB4.out.below hbb HLO.out.2)
            have hR5 := Lh (hR4.out.below hbb (by have := HLO.out; have := HRG.out; omega))
            have hP5 := Lh (PS.under hP4.out hbb HLO.out.1 (fun h0 ad e => by have := HAL.out h0 ad e; have := HLO.out; have := HRG.out; omega))
            have hK15 := Lh (hK14.out.trans (hbb.mono (by have := HLO.out; have := HRG.out; omega)))
            have hK25 := Lh (hK24.out.bel hbb)
            have hO5 := Lh k1
            have hE5 := Lh (Ens.add (hE4.out.grown k2 k3) ⟨hM4.out.l1.grown k2 k3, hM4.out.l2.grown k2 k3, hM4.out.l3.grown k2 k3, hM4.out.ok⟩)
            clear k1 k2 k3 hbb hB4 hR4 hP4 hK14 hK24 hO4 hE4 q1 q2 q3 q4 q5 hnn hjj hm9
            refine hK.out _ _ ⟨trivial, hB5.out.cell 10⟩ (fun hH5 => ?_)
            clear hK K
            try simp only [Act.put, pA9, pZ9, pS9]
            refine tS 6 rfl ?_ hH5 ?_ ?_
            rotate_left
            · (intro wx hx; have hx1 := hx; clear hx; go_simp <;> with_reducible rfl)
            try simp only [Act.put, pA9, pZ9, pS9]
            have c9 : w5.cell? ⟨b, 10, none⟩ = some (.slice A1 ms.length c1) := hB5.out.cell 10
            have f9 := hB5.out.frozen 10
            refine wpAnyT_last 7 rfl (by kernel_rfl) (by decide) (fun K hK => ?_)
            go_simp
            refine hK.out _ _ trivial (fun hH6 => ?_)
            clear hK K
            try simp only [Act.put, pA9, pZ9, pS9]
            refine wpAnyT_done (by kernel_rfl) ?_ _
            clear hH hH3 hH4 hH5 hH6
            have hB6 := hB5.out.set_ 10 (.slice A5 (ms.length + 1) c5)
            have hO6 := Only.set_ w5 b 10 (.slice A5 (ms.length + 1) c5)
            obtain ⟨w6, ez⟩ : ∃ w6, w5.setCell ⟨b, 10, none⟩ (.slice A5 (ms.length + 1) c5) = w6 := ⟨_, rfl⟩
            rw [ez] at hB6 hO6 ⊢
            clear ez c9 f9 hB5
            have hB7 : Hid (Blk w6 b 38 #[.int .i64 x1, .int .i64 x2, .int .i64 x3, .int .u64 (x4 : Int), .int .u64 (x5 : Int), .int .u64 (x6 : Int), .int .u64 (x7 : Int), .int .u64 (x8 : Int), .bool x9, .bool x10, .slice A5 (ms.length + 1) c5, .slice none 0 0, .slice none 0 0, .int .u64 0, .int .i64 0, .int .u64 0, .int .i64 0, .int .i64 0, .int .i64 0, .int .u32 0, .slice none 0 0, .int .u64 0, .int .u64 0, .int .i64 0, .string ⟨#[]⟩, .int .i64 0, .slice none 0 0]) := Lh hB6
            have hR7 := Lh (hO6.blk hR5.out hRb.out)
            have hP7 := Lh (PS.only hP5.out hO6 hbg.out (fun h0 ad e => by have := HAL.out h0 ad e; have := HBL.out; show ad.block ≠ b; omega))
            have hK17 := Lh (hK15.out.trans (hO6.below (by have := HBL.out; omega)))
            have hK27 := Lh (hK25.out.trans (Keep.only hO6 fun h => h.2.1 rfl))
            have hO7 := Lh (hO6.own hO5.out (own_apart hO5.out HLO.out.2))
            have hE7 := Lh (hE5.out.only hO6 HLO.out.2)
            clear hB6 hO6 hR5 hP5 hK15 hK25 hO5 hE5
            go_wp2_with fail
            have hjj := HJ.out
            refine ⟨⟨j1, k + 1, T2, A5, c5, ms ++ [m], by omega, rfl, Lh (by rw [List.length_append, hlen.out]; rfl), Lh (by rw [List.map_append]; exact HTs.out), Lh (by rw [List.length_append]; exact hB7.out), hR7, hP7, hK17, hK27, Lh (by rw [List.length_append, List.flatMap_append]; exact hO7.out), Lh ?_⟩, ?_⟩
            · rw [List.length_append]; exact hE7.out
            · simp [intOf]; omega
  case rest =>
    obtain ⟨A10, c10, ms, hB, hR, hP, hK1, hK2, hE⟩ := hcut
    clear BB RR PP KB
    have BB := hB
    have RR := hR
    have PP := hP
    have KB := hK1
    have XE := Lh (fun h => (hE.out h).1)
    have RE := Lh (fun h => (hE.out h).2.1)
    have EE := Lh (fun h => (hE.out h).2.2)
    clear hB hR hP hK1 hK2 hE HLO HY
    go_wp2_with fail
    have HLC := Lh (And.intro PP.out.lt BB.out.lt)
    have hc := tk_conf g A n cap bs S11 wc PP
    have hm := HM.out
    rw [tkF_bind (x0 := ([], []))] at hm
    have hbk := fun h => @tkF_back _ (rConf bs) ([], []) S11 h
    obtain ⟨⟨x12, S12⟩, hy⟩ : ∃ y, tkF (rConf bs) ([], []) S11 = y := ⟨_, rfl⟩
    rw [hy] at hm hbk hc
    dsimp only at hm hbk
    clear HM
    have HM := Lh hm
    have BS12 := Lh hbk
    clear hm hbk
    clear hy
    refine hc.mono ?_
    rintro e w23 ⟨hk, v, rfl, ⟨A12, c12, A13, c13, rfl, l1, l2, n1, n2⟩, hp⟩
    clear hc
    have KB := Lh (KB.out.trans (hk.toBelow KB.out.size (fun k hl => by have := HRG.out; show k ≠ g; omega)))
    have RR := Lh (hk.notBlk RR.out hR0.out)
    have BB := Lh (hk.notBlk BB.out hbg.out)
    have RE := Lh (fun h => (RE.out h).keep hk)
    have EE := Lh (fun h => (EE.out h).keep hk)
    have PP := Lh hp
    clear hk hp
    have RV := Lh (RF.of_lst (r := w.heap.size) (g := g) (b := b) l1 (by have := HLC.out; have := HRG.out; omega) HLC.out.1 HLC.out.2)
    have RL := Lh (RF.of_lst (r := w.heap.size) (g := g) (b := b) l2 (by have := HLC.out; have := HRG.out; omega) HLC.out.1 HLC.out.2)
    have NC := Lh (And.intro n1 n2)
    clear l1 l2 n1 n2
    clear HLC
    have hse : setL #[.int .i64 x1, .int .i64 x2, .int .i64 x3, .int .u64 (x4 : Int), .int .u64 (x5 : Int), .int .u64 (x6 : Int), .int .u64 (x7 : Int), .int .u64 (x8 : Int), .bool x9, .bool x10, .slice A10 ms.length c10, .slice none 0 0, .slice none 0 0, .int .u64 0, .int .i64 0, .int .u64 0, .int .i64 0, .int .i64 0, .int .i64 0, .int .u32 0, .slice none 0 0, .int .u64 0, .int .u64 0, .int .i64 0, .string ⟨#[]⟩, .int .i64 0, .slice none 0 0] 11 (#[.slice A12 x12.1.length c12, .slice A13 x12.2.length c13] : Array Value).toList = #[.int .i64 x1, .int .i64 x2, .int .i64 x3, .int .u64 (x4 : Int), .int .u64 (x5 : Int), .int .u64 (x6 : Int), .int .u64 (x7 : Int), .int .u64 (x8 : Int), .bool x9, .bool x10, .slice A10 ms.length c10, .slice A12 x12.1.length c12, .slice A13 x12.2.length c13, .int .u64 0, .int .i64 0, .int .u64 0, .int .i64 0, .int .i64 0, .int .i64 0, .int .u32 0, .slice none 0 0, .int .u64 0, .int .u64 0, .int .i64 0, .string ⟨#[]⟩, .int .i64 0, .slice none 0 0] := by rfl
    have HSE := Lh hse
    clear hse
    go_wp2_with (refine wpl_store_part rfl 27 (.tmp 64) (.tmp 63) rfl b 11 38 #[.int .i64 x1, .int .i64 x2, .int .i64 x3, .int .u64 (x4 : Int), .int .u64 (x5 : Int), .int .u64 (x6 : Int), .int .u64 (x7 : Int), .int .u64 (x8 : Int), .bool x9, .bool x10, .slice A10 ms.length c10, .slice none 0 0, .slice none 0 0, .int .u64 0, .int .i64 0, .int .u64 0, .int .i64 0, .int .i64 0, .int .i64 0, .int .u32 0, .slice none 0 0, .int .u64 0, .int .u64 0, .int .i64 0, .string ⟨#[]⟩, .int .i64 0, .slice none 0 0] #[.int .i64 x1, .int .i64 x2, .int .i64 x3, .int .u64 (x4 : Int), .int .u64 (x5 : Int), .int .u64 (x6 : Int), .int .u64 (x7 : Int), .int .u64 (x8 : Int), .bool x9, .bool x10, .slice A10 ms.length c10, .slice A12 x12.1.length c12, .slice A13 x12.2.length c13, .int .u64 0, .int .i64 0, .int .u64 0, .int .i64 0, .int .i64 0, .int .i64 0, .int .u32 0, .slice none 0 0, .int .u64 0, .int .u64 0, .int .i64 0, .string ⟨#[]⟩, .int .i64 0, .slice none 0 0] #[.slice A12 x12.1.length c12, .slice A13 x12.2.length c13] rfl rfl BB.out (by show 11 + 2 ≤ 27; decide) HSE.out Tryz.sizeF rfl ?_; intro w24 hB9 hO9)
    clear HSE
    clear BB
    have BB := hB9
    have RR := Lh (hO9.out.blk RR.out hRb.out)
    have PP := Lh (PP.out.only hO9.out hbg.out (fun h0 ad e => by have := HAL.out h0 ad e; have := HBL.out; show ad.block ≠ b; omega))
    have KB := Lh (KB.out.trans (hO9.out.below (by have := HBL.out; omega)))
    have RE := Lh (fun h => (RE.out h).only hO9.out)
    have EE := Lh (fun h => (EE.out h).only hO9.out)
    have RV := Lh (RV.out.only hO9.out)
    have RL := Lh (RL.out.only hO9.out)
    clear hB9 hO9
    have HLC := Lh (And.intro PP.out.lt BB.out.lt)
    have hc := tk_hd g A n cap bs S12 w24 PP
    have hm := HM.out
    rw [tkF_bind (x0 := hdZ)] at hm
    have hbk := fun h => @tkF_back _ (rHd bs) hdZ S12 h
    obtain ⟨⟨x13, S13⟩, hy⟩ : ∃ y, tkF (rHd bs) hdZ S12 = y := ⟨_, rfl⟩
    rw [hy] at hm hbk hc
    dsimp only at hm hbk
    clear HM
    have HM := Lh hm
    have BS13 := Lh hbk
    clear hm hbk
    clear hy
    refine hc.mono ?_
    rintro e w25 ⟨hk, v, rfl, ⟨rfl, n1⟩, hp⟩
    clear hc
    have KB := Lh (KB.out.trans (hk.toBelow KB.out.size (fun k hl => by have := HRG.out; show k ≠ g; omega)))
    have RR := Lh (hk.notBlk RR.out hR0.out)
    have BB := Lh (hk.notBlk BB.out hbg.out)
    have RE := Lh (fun h => (RE.out h).keep hk)
    have EE := Lh (fun h => (EE.out h).keep hk)
    have RV := Lh (RV.out.keep hk)
    have RL := Lh (RL.out.keep hk)
    have PP := Lh hp
    clear hk hp
    have NH := Lh n1
    clear n1
    clear HLC
    have hse : setL #[.int .i64 x1, .int .i64 x2, .int .i64 x3, .int .u64 (x4 : Int), .int .u64 (x5 : Int), .int .u64 (x6 : Int), .int .u64 (x7 : Int), .int .u64 (x8 : Int), .bool x9, .bool x10, .slice A10 ms.length c10, .slice A12 x12.1.length c12, .slice A13 x12.2.length c13, .int .u64 0, .int .i64 0, .int .u64 0, .int .i64 0, .int .i64 0, .int .i64 0, .int .u32 0, .slice none 0 0, .int .u64 0, .int .u64 0, .int .i64 0, .string ⟨#[]⟩, .int .i64 0, .slice none 0 0] 13 (#[.int .u64 (x13.id.ver : Int), .int .i64 x13.id.idx, .int .u64 (x13.id.ep : Int), .int .i64 x13.k, .int .i64 x13.n, .int .i64 x13.size, .int .u32 (x13.sum : Int)] : Array Value).toList = #[.int .i64 x1, .int .i64 x2, .int .i64 x3, .int .u64 (x4 : Int), .int .u64 (x5 : Int), .int .u64 (x6 : Int), .int .u64 (x7 : Int), .int .u64 (x8 : Int), .bool x9, .bool x10, .slice A10 ms.length c10, .slice A12 x12.1.length c12, .slice A13 x12.2.length c13, .int .u64 (x13.id.ver : Int), .int .i64 x13.id.idx, .int .u64 (x13.id.ep : Int), .int .i64 x13.k, .int .i64 x13.n, .int .i64 x13.size, .int .u32 (x13.sum : Int), .slice none 0 0, .int .u64 0, .int .u64 0, .int .i64 0, .string ⟨#[]⟩, .int .i64 0, .slice none 0 0] := by rfl
    have HSE := Lh hse
    clear hse
    go_wp2_with (refine wpl_store_part rfl 32 (.tmp 67) (.tmp 66) rfl b 13 38 #[.int .i64 x1, .int .i64 x2, .int .i64 x3, .int .u64 (x4 : Int), .int .u64 (x5 : Int), .int .u64 (x6 : Int), .int .u64 (x7 : Int), .int .u64 (x8 : Int), .bool x9, .bool x10, .slice A10 ms.length c10, .slice A12 x12.1.length c12, .slice A13 x12.2.length c13, .int .u64 0, .int .i64 0, .int .u64 0, .int .i64 0, .int .i64 0, .int .i64 0, .int .u32 0, .slice none 0 0, .int .u64 0, .int .u64 0, .int .i64 0, .string ⟨#[]⟩, .int .i64 0, .slice none 0 0] #[.int .i64 x1, .int .i64 x2, .int .i64 x3, .int .u64 (x4 : Int), .int .u64 (x5 : Int), .int .u64 (x6 : Int), .int .u64 (x7 : Int), .int .u64 (x8 : Int), .bool x9, .bool x10, .slice A10 ms.length c10, .slice A12 x12.1.length c12, .slice A13 x12.2.length c13, .int .u64 (x13.id.ver : Int), .int .i64 x13.id.idx, .int .u64 (x13.id.ep : Int), .int .i64 x13.k, .int .i64 x13.n, .int .i64 x13.size, .int .u32 (x13.sum : Int), .slice none 0 0, .int .u64 0, .int .u64 0, .int .i64 0, .string ⟨#[]⟩, .int .i64 0, .slice none 0 0] #[.int .u64 (x13.id.ver : Int), .int .i64 x13.id.idx, .int .u64 (x13.id.ep : Int), .int .i64 x13.k, .int .i64 x13.n, .int .i64 x13.size, .int .u32 (x13.sum : Int)] rfl rfl BB.out (by show 13 + 7 ≤ 27; decide) HSE.out Tryz.sizeH rfl ?_; intro w26 hB9 hO9)
    clear HSE
    clear BB
    have BB := hB9
    have RR := Lh (hO9.out.blk RR.out hRb.out)
    have PP := Lh (PP.out.only hO9.out hbg.out (fun h0 ad e => by have := HAL.out h0 ad e; have := HBL.out; show ad.block ≠ b; omega))
    have KB := Lh (KB.out.trans (hO9.out.below (by have := HBL.out; omega)))
    have RE := Lh (fun h => (RE.out h).only hO9.out)
    have EE := Lh (fun h => (EE.out h).only hO9.out)
    have RV := Lh (RV.out.only hO9.out)
    have RL := Lh (RL.out.only hO9.out)
    clear hB9 hO9
    have hc := pb_bytes g A n cap bs S13 w26 PP
    have hm := HM.out
    rw [tkF_bind (x0 := [])] at hm
    have hbk := fun h => @tkF_back _ (rText bs) [] S13 h
    obtain ⟨⟨x14, S14⟩, hy⟩ : ∃ y, tkF (rText bs) [] S13 = y := ⟨_, rfl⟩
    rw [hy] at hm hbk hc
    dsimp only at hm hbk
    clear HM
    have HM := Lh hm
    have BS14 := Lh hbk
    clear hm hbk
    clear hy
    refine hc.mono ?_
    rintro e w27 ⟨hk, v, rfl, ⟨Ax14, cx14, rfl, r1, -, -, n1, n2⟩, hp⟩
    clear hc
    have KB := Lh (KB.out.trans (hk.toBelow KB.out.size (fun k hl => by have := HRG.out; show k ≠ g; omega)))
    have RR := Lh (hk.notBlk RR.out hR0.out)
    have BB := Lh (hk.notBlk BB.out hbg.out)
    have RE := Lh (fun h => (RE.out h).keep hk)
    have EE := Lh (fun h => (EE.out h).keep hk)
    have RV := Lh (RV.out.keep hk)
    have RL := Lh (RL.out.keep hk)
    have PP := Lh hp
    clear hk hp
    have Nx14 := Lh (And.intro n1 n2)
    have RD : Hid (RF w.heap.size g b 1 Ax14 x14.length (x14.map bv) w27) := Lh ⟨r1, fun h0 ad e => ⟨PP.out.apart r1 h0 ad e, u8_apart BB.out (by rfl) r1 h0 ad e, u8_apart RR.out (by rfl) r1 h0 ad e⟩⟩
    clear r1 n1 n2
    have ci : w27.cell? ⟨b, 20, none⟩ = some (.slice none 0 0) := BB.out.cell 20
    have fi := BB.out.frozen 20
    go_wp2_with fail
    have hB := BB.out.set_ 20 (.slice Ax14 x14.length cx14)
    have hO := Only.set_ w27 b 20 (.slice Ax14 x14.length cx14)
    obtain ⟨w28, ez⟩ : ∃ w28, w27.setCell ⟨b, 20, none⟩ (.slice Ax14 x14.length cx14) = w28 := ⟨_, rfl⟩
    rw [ez] at hB hO ⊢
    clear ez ci fi BB
    have BB : Hid (Blk w28 b 38 #[.int .i64 x1, .int .i64 x2, .int .i64 x3, .int .u64 (x4 : Int), .int .u64 (x5 : Int), .int .u64 (x6 : Int), .int .u64 (x7 : Int), .int .u64 (x8 : Int), .bool x9, .bool x10, .slice A10 ms.length c10, .slice A12 x12.1.length c12, .slice A13 x12.2.length c13, .int .u64 (x13.id.ver : Int), .int .i64 x13.id.idx, .int .u64 (x13.id.ep : Int), .int .i64 x13.k, .int .i64 x13.n, .int .i64 x13.size, .int .u32 (x13.sum : Int), .slice Ax14 x14.length cx14, .int .u64 0, .int .u64 0, .int .i64 0, .string ⟨#[]⟩, .int .i64 0, .slice none 0 0]) := Lh hB
    have RR := Lh (hO.blk RR.out hRb.out)
    have PP := Lh (PP.out.only hO hbg.out (fun h0 ad e => by have := HAL.out h0 ad e; have := HBL.out; show ad.block ≠ b; omega))
    have KB := Lh (KB.out.trans (hO.below (by have := HBL.out; omega)))
    have RE := Lh (fun h => (RE.out h).only hO)
    have EE := Lh (fun h => (EE.out h).only hO)
    have RV := Lh (RV.out.only hO)
    have RL := Lh (RL.out.only hO)
    have RD := Lh (RD.out.only hO)
    clear hB hO
    have hc := tk_num g A n cap bs S14 w28 PP
    have hm := HM.out
    rw [tkF_bind (x0 := (0 : Nat))] at hm
    have hbk := fun h => @tkF_back _ (rNum bs) (0 : Nat) S14 h
    obtain ⟨⟨x15, S15⟩, hy⟩ : ∃ y, tkF (rNum bs) (0 : Nat) S14 = y := ⟨_, rfl⟩
    rw [hy] at hm hbk hc
    dsimp only at hm hbk
    clear HM
    have HM := Lh hm
    have BS15 := Lh hbk
    clear hm hbk
    clear hy
    refine hc.mono ?_
    rintro e w29 ⟨hk, v, rfl, ⟨rfl, hx29⟩, hp⟩
    clear hc
    have Nx15 := Lh hx29
    clear hx29
    have KB := Lh (KB.out.trans (hk.toBelow KB.out.size (fun k hl => by have := HRG.out; show k ≠ g; omega)))
    have RR := Lh (hk.notBlk RR.out hR0.out)
    have BB := Lh (hk.notBlk BB.out hbg.out)
    have RE := Lh (fun h => (RE.out h).keep hk)
    have EE := Lh (fun h => (EE.out h).keep hk)
    have RV := Lh (RV.out.keep hk)
    have RL := Lh (RL.out.keep hk)
    have RD := Lh (RD.out.keep hk)
    have PP := Lh hp
    clear hk hp
    have ci : w29.cell? ⟨b, 21, none⟩ = some (.int .u64 0) := BB.out.cell 21
    have fi := BB.out.frozen 21
    go_wp2_with fail
    have hB := BB.out.set_ 21 (.int .u64 (x15 : Int))
    have hO := Only.set_ w29 b 21 (.int .u64 (x15 : Int))
    obtain ⟨w30, ez⟩ : ∃ w30, w29.setCell ⟨b, 21, none⟩ (.int .u64 (x15 : Int)) = w30 := ⟨_, rfl⟩
    rw [ez] at hB hO ⊢
    clear ez ci fi BB
    have BB : Hid (Blk w30 b 38 #[.int .i64 x1, .int .i64 x2, .int .i64 x3, .int .u64 (x4 : Int), .int .u64 (x5 : Int), .int .u64 (x6 : Int), .int .u64 (x7 : Int), .int .u64 (x8 : Int), .bool x9, .bool x10, .slice A10 ms.length c10, .slice A12 x12.1.length c12, .slice A13 x12.2.length c13, .int .u64 (x13.id.ver : Int), .int .i64 x13.id.idx, .int .u64 (x13.id.ep : Int), .int .i64 x13.k, .int .i64 x13.n, .int .i64 x13.size, .int .u32 (x13.sum : Int), .slice Ax14 x14.length cx14, .int .u64 (x15 : Int), .int .u64 0, .int .i64 0, .string ⟨#[]⟩, .int .i64 0, .slice none 0 0]) := Lh hB
    have RR := Lh (hO.blk RR.out hRb.out)
    have PP := Lh (PP.out.only hO hbg.out (fun h0 ad e => by have := HAL.out h0 ad e; have := HBL.out; show ad.block ≠ b; omega))
    have KB := Lh (KB.out.trans (hO.below (by have := HBL.out; omega)))
    have RE := Lh (fun h => (RE.out h).only hO)
    have EE := Lh (fun h => (EE.out h).only hO)
    have RV := Lh (RV.out.only hO)
    have RL := Lh (RL.out.only hO)
    have RD := Lh (RD.out.only hO)
    clear hB hO
    have hc := tk_num g A n cap bs S15 w30 PP
    have hm := HM.out
    rw [tkF_bind (x0 := (0 : Nat))] at hm
    have hbk := fun h => @tkF_back _ (rNum bs) (0 : Nat) S15 h
    obtain ⟨⟨x16, S16⟩, hy⟩ : ∃ y, tkF (rNum bs) (0 : Nat) S15 = y := ⟨_, rfl⟩
    rw [hy] at hm hbk hc
    dsimp only at hm hbk
    clear HM
    have HM := Lh hm
    have BS16 := Lh hbk
    clear hm hbk
    clear hy
    refine hc.mono ?_
    rintro e w31 ⟨hk, v, rfl, ⟨rfl, hx31⟩, hp⟩
    clear hc
    have Nx16 := Lh hx31
    clear hx31
    have KB := Lh (KB.out.trans (hk.toBelow KB.out.size (fun k hl => by have := HRG.out; show k ≠ g; omega)))
    have RR := Lh (hk.notBlk RR.out hR0.out)
    have BB := Lh (hk.notBlk BB.out hbg.out)
    have RE := Lh (fun h => (RE.out h).keep hk)
    have EE := Lh (fun h => (EE.out h).keep hk)
    have RV := Lh (RV.out.keep hk)
    have RL := Lh (RL.out.keep hk)
    have RD := Lh (RD.out.keep hk)
    have PP := Lh hp
    clear hk hp
    have ci : w31.cell? ⟨b, 22, none⟩ = some (.int .u64 0) := BB.out.cell 22
    have fi := BB.out.frozen 22
    go_wp2_with fail
    have hB := BB.out.set_ 22 (.int .u64 (x16 : Int))
    have hO := Only.set_ w31 b 22 (.int .u64 (x16 : Int))
    obtain ⟨w32, ez⟩ : ∃ w32, w31.setCell ⟨b, 22, none⟩ (.int .u64 (x16 : Int)) = w32 := ⟨_, rfl⟩
    rw [ez] at hB hO ⊢
    clear ez ci fi BB
    have BB : Hid (Blk w32 b 38 #[.int .i64 x1, .int .i64 x2, .int .i64 x3, .int .u64 (x4 : Int), .int .u64 (x5 : Int), .int .u64 (x6 : Int), .int .u64 (x7 : Int), .int .u64 (x8 : Int), .bool x9, .bool x10, .slice A10 ms.length c10, .slice A12 x12.1.length c12, .slice A13 x12.2.length c13, .int .u64 (x13.id.ver : Int), .int .i64 x13.id.idx, .int .u64 (x13.id.ep : Int), .int .i64 x13.k, .int .i64 x13.n, .int .i64 x13.size, .int .u32 (x13.sum : Int), .slice Ax14 x14.length cx14, .int .u64 (x15 : Int), .int .u64 (x16 : Int), .int .i64 0, .string ⟨#[]⟩, .int .i64 0, .slice none 0 0]) := Lh hB
    have RR := Lh (hO.blk RR.out hRb.out)
    have PP := Lh (PP.out.only hO hbg.out (fun h0 ad e => by have := HAL.out h0 ad e; have := HBL.out; show ad.block ≠ b; omega))
    have KB := Lh (KB.out.trans (hO.below (by have := HBL.out; omega)))
    have RE := Lh (fun h => (RE.out h).only hO)
    have EE := Lh (fun h => (EE.out h).only hO)
    have RV := Lh (RV.out.only hO)
    have RL := Lh (RL.out.only hO)
    have RD := Lh (RD.out.only hO)
    clear hB hO
    have hc := tk_int g A n cap bs S16 w32 PP
    have hm := HM.out
    rw [tkF_bind (x0 := (0 : Int))] at hm
    have hbk := fun h => @tkF_back _ (rInt bs) (0 : Int) S16 h
    obtain ⟨⟨x17, S17⟩, hy⟩ : ∃ y, tkF (rInt bs) (0 : Int) S16 = y := ⟨_, rfl⟩
    rw [hy] at hm hbk hc
    dsimp only at hm hbk
    clear HM
    have HM := Lh hm
    have BS17 := Lh hbk
    clear hm hbk
    clear hy
    refine hc.mono ?_
    rintro e w33 ⟨hk, v, rfl, ⟨rfl, hx33⟩, hp⟩
    clear hc
    have Nx17 := Lh hx33
    clear hx33
    have KB := Lh (KB.out.trans (hk.toBelow KB.out.size (fun k hl => by have := HRG.out; show k ≠ g; omega)))
    have RR := Lh (hk.notBlk RR.out hR0.out)
    have BB := Lh (hk.notBlk BB.out hbg.out)
    have RE := Lh (fun h => (RE.out h).keep hk)
    have EE := Lh (fun h => (EE.out h).keep hk)
    have RV := Lh (RV.out.keep hk)
    have RL := Lh (RL.out.keep hk)
    have RD := Lh (RD.out.keep hk)
    have PP := Lh hp
    clear hk hp
    have ci : w33.cell? ⟨b, 23, none⟩ = some (.int .i64 0) := BB.out.cell 23
    have fi := BB.out.frozen 23
    go_wp2_with fail
    have hB := BB.out.set_ 23 (.int .i64 x17)
    have hO := Only.set_ w33 b 23 (.int .i64 x17)
    obtain ⟨w34, ez⟩ : ∃ w34, w33.setCell ⟨b, 23, none⟩ (.int .i64 x17) = w34 := ⟨_, rfl⟩
    rw [ez] at hB hO ⊢
    clear ez ci fi BB
    have BB : Hid (Blk w34 b 38 #[.int .i64 x1, .int .i64 x2, .int .i64 x3, .int .u64 (x4 : Int), .int .u64 (x5 : Int), .int .u64 (x6 : Int), .int .u64 (x7 : Int), .int .u64 (x8 : Int), .bool x9, .bool x10, .slice A10 ms.length c10, .slice A12 x12.1.length c12, .slice A13 x12.2.length c13, .int .u64 (x13.id.ver : Int), .int .i64 x13.id.idx, .int .u64 (x13.id.ep : Int), .int .i64 x13.k, .int .i64 x13.n, .int .i64 x13.size, .int .u32 (x13.sum : Int), .slice Ax14 x14.length cx14, .int .u64 (x15 : Int), .int .u64 (x16 : Int), .int .i64 x17, .string ⟨#[]⟩, .int .i64 0, .slice none 0 0]) := Lh hB
    have RR := Lh (hO.blk RR.out hRb.out)
    have PP := Lh (PP.out.only hO hbg.out (fun h0 ad e => by have := HAL.out h0 ad e; have := HBL.out; show ad.block ≠ b; omega))
    have KB := Lh (KB.out.trans (hO.below (by have := HBL.out; omega)))
    have RE := Lh (fun h => (RE.out h).only hO)
    have EE := Lh (fun h => (EE.out h).only hO)
    have RV := Lh (RV.out.only hO)
    have RL := Lh (RL.out.only hO)
    have RD := Lh (RD.out.only hO)
    clear hB hO
    have hc := pb_bytes g A n cap bs S17 w34 PP
    have hm := HM.out
    rw [tkF_bind (x0 := [])] at hm
    have hbk := fun h => @tkF_back _ (rText bs) [] S17 h
    obtain ⟨⟨x18, S18⟩, hy⟩ : ∃ y, tkF (rText bs) [] S17 = y := ⟨_, rfl⟩
    rw [hy] at hm hbk hc
    dsimp only at hm hbk
    clear HM
    have HM := Lh hm
    have BS18 := Lh hbk
    clear hm hbk
    clear hy
    refine hc.mono ?_
    rintro e w35 ⟨hk, v, rfl, ⟨Ax18, cx18, rfl, r1, -, -, n1, n2⟩, hp⟩
    clear hc
    have KB := Lh (KB.out.trans (hk.toBelow KB.out.size (fun k hl => by have := HRG.out; show k ≠ g; omega)))
    have RR := Lh (hk.notBlk RR.out hR0.out)
    have BB := Lh (hk.notBlk BB.out hbg.out)
    have RE := Lh (fun h => (RE.out h).keep hk)
    have EE := Lh (fun h => (EE.out h).keep hk)
    have RV := Lh (RV.out.keep hk)
    have RL := Lh (RL.out.keep hk)
    have RD := Lh (RD.out.keep hk)
    have PP := Lh hp
    clear hk hp
    have Nx18 := Lh (And.intro n1 n2)
    have kc := run_conv_bytes (P := Tryz.prog) (src := 33) (dst := 9) (cap := cx18) Tryz.underlying33 Tryz.underlying5 Tryz.underlying9 r1
    clear r1 n1 n2
    have ci : w35.cell? ⟨b, 24, none⟩ = some (.string ⟨#[]⟩) := BB.out.cell 24
    have fi := BB.out.frozen 24
    go_wp2_with fail
    clear kc
    have hB := BB.out.set_ 24 (.string (strOf x18))
    have hO := Only.set_ w35 b 24 (.string (strOf x18))
    obtain ⟨w36, ez⟩ : ∃ w36, w35.setCell ⟨b, 24, none⟩ (.string (strOf x18)) = w36 := ⟨_, rfl⟩
    rw [ez] at hB hO ⊢
    clear ez ci fi BB
    have BB : Hid (Blk w36 b 38 #[.int .i64 x1, .int .i64 x2, .int .i64 x3, .int .u64 (x4 : Int), .int .u64 (x5 : Int), .int .u64 (x6 : Int), .int .u64 (x7 : Int), .int .u64 (x8 : Int), .bool x9, .bool x10, .slice A10 ms.length c10, .slice A12 x12.1.length c12, .slice A13 x12.2.length c13, .int .u64 (x13.id.ver : Int), .int .i64 x13.id.idx, .int .u64 (x13.id.ep : Int), .int .i64 x13.k, .int .i64 x13.n, .int .i64 x13.size, .int .u32 (x13.sum : Int), .slice Ax14 x14.length cx14, .int .u64 (x15 : Int), .int .u64 (x16 : Int), .int .i64 x17, .string (strOf x18), .int .i64 0, .slice none 0 0]) := Lh hB
    have RR := Lh (hO.blk RR.out hRb.out)
    have PP := Lh (PP.out.only hO hbg.out (fun h0 ad e => by have := HAL.out h0 ad e; have := HBL.out; show ad.block ≠ b; omega))
    have KB := Lh (KB.out.trans (hO.below (by have := HBL.out; omega)))
    have RE := Lh (fun h => (RE.out h).only hO)
    have EE := Lh (fun h => (EE.out h).only hO)
    have RV := Lh (RV.out.only hO)
    have RL := Lh (RL.out.only hO)
    have RD := Lh (RD.out.only hO)
    clear hB hO
    have hc := tk_int g A n cap bs S18 w36 PP
    have hm := HM.out
    rw [tkF_bind (x0 := (0 : Int))] at hm
    have hbk := fun h => @tkF_back _ (rInt bs) (0 : Int) S18 h
    obtain ⟨⟨x19, S19⟩, hy⟩ : ∃ y, tkF (rInt bs) (0 : Int) S18 = y := ⟨_, rfl⟩
    rw [hy] at hm hbk hc
    dsimp only at hm hbk
    clear HM
    have HM := Lh hm
    have BS19 := Lh hbk
    clear hm hbk
    clear hy
    refine hc.mono ?_
    rintro e w37 ⟨hk, v, rfl, ⟨rfl, hx37⟩, hp⟩
    clear hc
    have Nx19 := Lh hx37
    clear hx37
    have KB := Lh (KB.out.trans (hk.toBelow KB.out.size (fun k hl => by have := HRG.out; show k ≠ g; omega)))
    have RR := Lh (hk.notBlk RR.out hR0.out)
    have BB := Lh (hk.notBlk BB.out hbg.out)
    have RE := Lh (fun h => (RE.out h).keep hk)
    have EE := Lh (fun h => (EE.out h).keep hk)
    have RV := Lh (RV.out.keep hk)
    have RL := Lh (RL.out.keep hk)
    have RD := Lh (RD.out.keep hk)
    have PP := Lh hp
    clear hk hp
    have ci : w37.cell? ⟨b, 25, none⟩ = some (.int .i64 0) := BB.out.cell 25
    have fi := BB.out.frozen 25
    go_wp2_with fail
    have hB := BB.out.set_ 25 (.int .i64 x19)
    have hO := Only.set_ w37 b 25 (.int .i64 x19)
    obtain ⟨w38, ez⟩ : ∃ w38, w37.setCell ⟨b, 25, none⟩ (.int .i64 x19) = w38 := ⟨_, rfl⟩
    rw [ez] at hB hO ⊢
    clear ez ci fi BB
    have BB : Hid (Blk w38 b 38 #[.int .i64 x1, .int .i64 x2, .int .i64 x3, .int .u64 (x4 : Int), .int .u64 (x5 : Int), .int .u64 (x6 : Int), .int .u64 (x7 : Int), .int .u64 (x8 : Int), .bool x9, .bool x10, .slice A10 ms.length c10, .slice A12 x12.1.length c12, .slice A13 x12.2.length c13, .int .u64 (x13.id.ver : Int), .int .i64 x13.id.idx, .int .u64 (x13.id.ep : Int), .int .i64 x13.k, .int .i64 x13.n, .int .i64 x13.size, .int .u32 (x13.sum : Int), .slice Ax14 x14.length cx14, .int .u64 (x15 : Int), .int .u64 (x16 : Int), .int .i64 x17, .string (strOf x18), .int .i64 x19, .slice none 0 0]) := Lh hB
    have RR := Lh (hO.blk RR.out hRb.out)
    have PP := Lh (PP.out.only hO hbg.out (fun h0 ad e => by have := HAL.out h0 ad e; have := HBL.out; show ad.block ≠ b; omega))
    have KB := Lh (KB.out.trans (hO.below (by have := HBL.out; omega)))
    have RE := Lh (fun h => (RE.out h).only hO)
    have EE := Lh (fun h => (EE.out h).only hO)
    have RV := Lh (RV.out.only hO)
    have RL := Lh (RL.out.only hO)
    have RD := Lh (RD.out.only hO)
    clear hB hO
    have hc := pb_count g A n cap bs S19 w38 PP
    have hm := HM.out
    rw [tkF_bind (x0 := (0 : Nat))] at hm
    have hbk := fun h => @tkF_back _ (rCnt bs) (0 : Nat) S19 h
    obtain ⟨⟨k20, Sk20⟩, hy⟩ : ∃ y, tkF (rCnt bs) (0 : Nat) S19 = y := ⟨_, rfl⟩
    rw [hy] at hm hbk hc
    dsimp only at hm hbk
    clear HM
    have HM := Lh hm
    have BSk20 := Lh hbk
    clear hm hbk
    clear hy
    refine hc.mono ?_
    rintro e w39 ⟨hk, v, rfl, ⟨rfl, hx39⟩, hp⟩
    clear hc
    have Nk20 := Lh hx39
    clear hx39
    have KB := Lh (KB.out.trans (hk.toBelow KB.out.size (fun k hl => by have := HRG.out; show k ≠ g; omega)))
    have RR := Lh (hk.notBlk RR.out hR0.out)
    have BB := Lh (hk.notBlk BB.out hbg.out)
    have RE := Lh (fun h => (RE.out h).keep hk)
    have EE := Lh (fun h => (EE.out h).keep hk)
    have RV := Lh (RV.out.keep hk)
    have RL := Lh (RL.out.keep hk)
    have RD := Lh (RD.out.keep hk)
    have PP := Lh hp
    clear hk hp
    have hm := HM.out
    rw [tkF_bind (x0 := [])] at hm
    have hbk := fun h => @tkF_back _ (rTimes (rText bs) k20) [] Sk20 h
    obtain ⟨⟨x20, S20⟩, hy⟩ : ∃ y, tkF (rTimes (rText bs) k20) [] Sk20 = y := ⟨_, rfl⟩
    rw [hy] at hm hbk 
    dsimp only at hm hbk
    clear HM
    have HM := Lh hm
    have BS20 := Lh hbk
    clear hm hbk
    have HY := Lh hy
    clear hy
    have HLO := Lh (And.intro PP.out.lt BB.out.lt)
    go_upto_block 4 with fail
    go_cut [9] from 89 to 107 (fun s9 wx => ∃ (A1 : Option Addr) (c1 : Nat) (ns : List (List Nat)), Hid (Blk wx b 38 #[.int .i64 x1, .int .i64 x2, .int .i64 x3, .int .u64 (x4 : Int), .int .u64 (x5 : Int), .int .u64 (x6 : Int), .int .u64 (x7 : Int), .int .u64 (x8 : Int), .bool x9, .bool x10, .slice A10 ms.length c10, .slice A12 x12.1.length c12, .slice A13 x12.2.length c13, .int .u64 (x13.id.ver : Int), .int .i64 x13.id.idx, .int .u64 (x13.id.ep : Int), .int .i64 x13.k, .int .i64 x13.n, .int .i64 x13.size, .int .u32 (x13.sum : Int), .slice Ax14 x14.length cx14, .int .u64 (x15 : Int), .int .u64 (x16 : Int), .int .i64 x17, .string (strOf x18), .int .i64 x19, .slice A1 ns.length c1]) ∧ Hid (Blk wx w.heap.size 38 #[.int .i64 0, .int .i64 0, .int .i64 0, .int .u64 0, .int .u64 0, .int .u64 0, .int .u64 0, .int .u64 0, .bool false, .bool false, .slice none 0 0, .slice none 0 0, .slice none 0 0, .int .u64 0, .int .i64 0, .int .u64 0, .int .i64 0, .int .i64 0, .int .i64 0, .int .u32 0, .slice none 0 0, .int .u64 0, .int .u64 0, .int .i64 0, .string ⟨#[]⟩, .int .i64 0, .slice none 0 0]) ∧ Hid (PS g A n cap bs S20 wx) ∧ Hid (Below w.heap.size w wx) ∧ Hid (Keep (H2 w.heap.size g b) w39 wx) ∧ Hid (S20 ≠ none → x20 = ns ∧ RF w.heap.size g b 1 A1 ns.length (ns.map stv) wx ∧ ∀ y ∈ ns, TxtOk y))
    case first =>
      go_wp2_with fail
      go_loopw [9] (fun vi wr => ∃ (j k : Nat) (T : Option Nat) (A1 : Option Addr) (c1 : Nat) (ns : List (List Nat)), j + k = k20 ∧ vi = .int .i64 (j : Int) ∧ Hid (ns.length = k) ∧ Hid (Runs (rText bs) k20 Sk20 (tkF (rTimes (rText bs) k20) [] Sk20) k (ns) T) ∧ Hid (Blk wr b 38 #[.int .i64 x1, .int .i64 x2, .int .i64 x3, .int .u64 (x4 : Int), .int .u64 (x5 : Int), .int .u64 (x6 : Int), .int .u64 (x7 : Int), .int .u64 (x8 : Int), .bool x9, .bool x10, .slice A10 ms.length c10, .slice A12 x12.1.length c12, .slice A13 x12.2.length c13, .int .u64 (x13.id.ver : Int), .int .i64 x13.id.idx, .int .u64 (x13.id.ep : Int), .int .i64 x13.k, .int .i64 x13.n, .int .i64 x13.size, .int .u32 (x13.sum : Int), .slice Ax14 x14.length cx14, .int .u64 (x15 : Int), .int .u64 (x16 : Int), .int .i64 x17, .string (strOf x18), .int .i64 x19, .slice A1 ns.length c1]) ∧ Hid (Blk wr w.heap.size 38 #[.int .i64 0, .int .i64 0, .int .i64 0, .int .u64 0, .int .u64 0, .int .u64 0, .int .u64 0, .int .u64 0, .bool false, .bool false, .slice none 0 0, .slice none 0 0, .slice none 0 0, .int .u64 0, .int .i64 0, .int .u64 0, .int .i64 0, .int .i64 0, .int .i64 0, .int .u32 0, .slice none 0 0, .int .u64 0, .int .u64 0, .int .i64 0, .string ⟨#[]⟩, .int .i64 0, .slice none 0 0]) ∧ Hid (PS g A n cap bs T wr) ∧ Hid (Below w.heap.size w wr) ∧ Hid (Keep (H2 w.heap.size g b) w39 wr) ∧ Hid (wr.ownsRow w39.heap.size 9 1 (.slice A1 ns.length c1) ns.length (ns.map stv)) ∧ Hid (∀ y ∈ ns, TxtOk y)) (fun vi _ => (intOf vi).toNat)
      case atStart => exact ⟨k20, 0, Sk20, none, 0, [], rfl, rfl, Lh rfl, Lh (Runs.start _ _ _), BB, RR, PP, KB, Lh (Keep.refl _ _), Lh ⟨rfl, .inl ⟨rfl, rfl⟩⟩, Lh (fun y h => (by cases h))⟩
      case round =>
        obtain ⟨j, k, T, A1, c1, ns, hjk, rfl, hlen, hT, hB, hR, hP, hK1, hK2, hO, hE⟩ := hrel
        clear BB RR PP KB
        by_cases h0 : j = 0
        · as_aux_lemma =>
          subst h0
          obtain rfl : k = k20 := by omega
          go_wp2_with fail
          go_meet
          have he := hT.out.end_
          rw [HY.out] at he
          obtain ⟨e1, e2⟩ := he
          dsimp only at e1 e2
          subst e1
          exact ⟨A1, c1, ns, hB, hR, hP, hK1, hK2, Lh fun h => ⟨e2 h, RF.of_own hO.out (by have := HLO.out; have := HRG.out; omega) HLO.out.1 HLO.out.2, hE.out⟩⟩
        · have hj0 : 0 < j := by omega
          have dj1 : decide ((j : Int) > 0) = true := decide_eq_true (by omega)
          have dj2 : decide (0 < j) = true := decide_eq_true hj0
          cases T with
          | none =>
            as_aux_lemma =>
              obtain ⟨p, hp, hb⟩ := PX.blk hP.out
              have c2 := hb.cell 2
              clear hb h0
              go_wp2_with fail
              go_meet
              have he := hT.out.bad
              rw [HY.out] at he
              dsimp only at he
              subst he
              exact ⟨A1, c1, ns, hB, hR, hP, hK1, hK2, Lh fun h => absurd rfl h⟩
          | some q =>
            as_aux_lemma =>
              have c2 := (PW.blk hP.out).cell 2
              obtain ⟨j1, ej⟩ : ∃ j1, j - 1 = j1 := ⟨_, rfl⟩
              have hm9 := Nk20.out
              have ejw : IntKind.i64.wrap ((j : Int) - 1) = (j1 : Int) := by rw [IntKind.wrap_i64]; omega
              have HJ := Lh (And.intro ej (And.intro hj0 hjk))
              have HT1 := Lh (fun (x0 : List Nat) => hT.out.step (x0 := x0) (show k < k20 from by omega))
              clear ej hj0 hjk h0 hm9
              go_upto_region 27 with fail
              clear c2
              refine wp_region_late (S0 := fun _ => True) (S := fun w' => w'.cell? ⟨b, 26, none⟩ = some (.slice A1 ns.length c1)) 8 9 (by kernel_rfl) rfl ⟨trivial, hB.out.cell 26⟩ (fun wd hwd hH => ?_)
              have hPd := Lh (PS.drew hP.out)
              have hBd := Lh hB.out.drew
              have hRd := Lh hR.out.drew
              have hK1d := Lh hK1.out.drew
              have hK2d := Lh (hK2.out.trans keep_drew)
              have hOd := Lh (own_keep (g := g) hO.out keep_drew HLO.out.1)
              have hEd := Lh (hE.out)
              rw [← hwd] at hPd hBd hRd hK1d hK2d hOd
              try rw [← hwd] at hEd
              clear hwd hB hR hP hK1 hK2 hO hE
              refine tS 0 rfl ?_ hH ?_ ?_
              rotate_left
              · (intro wx hx; have hx1 := hx; clear hx; go_simp <;> with_reducible rfl)
              try simp only [Act.put, pA9, pZ9, pS9]
              refine wpAnyT_take 1 (v := ?_) rfl (by kernel_rfl) (fun _ _ _ h => h) (Or.inl ⟨by rfl, ?_⟩) hH ?_
              rotate_left
              · (intro wx hx; have hx1 := hx; clear hx; go_simp <;> with_reducible rfl)
              try simp only [Act.put, pA9, pZ9, pS9]
              refine tS 2 rfl ?_ hH ?_ ?_
              rotate_left
              · (intro wx hx; have hx1 := hx; clear hx; go_simp <;> with_reducible rfl)
              try simp only [Act.put, pA9, pZ9, pS9]
              refine wpAnyT_one 3 rfl (by kernel_rfl) (fun K hK => ?_)
              rw [if_pos (by rfl)]
              go_simp
              go_at_call 30
              have hc := pb_bytes g A n cap bs (some q) wd hPd
              have HTs := Lh (HT1.out [])
              obtain ⟨⟨y, T2⟩, hy⟩ : ∃ y, tkF (rText bs) [] (some q) = y := ⟨_, rfl⟩
              rw [hy] at hc HTs
              clear hy HT1
              refine hc.mono ?_
              rintro e w3 ⟨hk3, v, rfl, ⟨A3, c3, rfl, r3, -, -, n3, n4⟩, hp3⟩
              clear hc
              have hM3 := Lh (show TxtOk y from ⟨n3, n4⟩)
              have kc := run_conv_bytes (P := Tryz.prog) (src := 33) (dst := 9) (cap := c3) Tryz.underlying33 Tryz.underlying5 Tryz.underlying9 r3
              clear r3 n3 n4
              have hB3 := Lh (hk3.notBlk hBd.out hbg.out)
              have hR3 := Lh (hk3.notBlk hRd.out hR0.out)
              have hP3 := Lh hp3
              have hK13 := Lh (hK1d.out.trans (hk3.toBelow hK1d.out.size (fun k hl => by have := HRG.out; show k ≠ g; omega)))
              have hK23 := Lh (hK2d.out.trans (hk3.mono fun k h => h.1))
              have hO3 := Lh (own_keep hOd.out hk3 HLO.out.1)
              have hE3 := Lh (hEd.out)
              clear hBd hRd hPd hK1d hK2d hOd hEd hk3 hp3
              refine hK.out _ _ ⟨trivial, hB3.out.cell 26⟩ (fun hH3 => ?_)
              clear hK K
              try simp only [Act.put, pA9, pZ9, pS9]
              refine wpAnyT_one 4 rfl (by kernel_rfl) (fun K hK => ?_)
              rw [if_pos (by rfl)]
              go_simp
              refine hK.out _ _ ⟨trivial, hB3.out.cell 26⟩ (fun hH3b => ?_)
              clear hK K kc
              try simp only [Act.put, pA9, pZ9, pS9]
              refine wpAnyT_one 5 rfl (by kernel_rfl) (fun K hK => ?_)
              rw [if_pos (by rfl)]
              go_simp
              have hl4 := Reads.lit w3 9 ([Value.string (strOf y)]) 1 1 rfl
              have hb4 : Below w3.heap.size w3 (w3.alloc (.cells ([Value.string (strOf y)]).toArray 9)) := (Below.refl _ _).alloc (Nat.le_refl _) _
              obtain ⟨w4, ew4⟩ : ∃ w4, w3.alloc (.cells ([Value.string (strOf y)]).toArray 9) = w4 := ⟨_, rfl⟩
              rw [ew4] at hl4 hb4
              first | rw [ew4] | (have ew4b := ew4; simp only [List.toArray] at ew4b; rw [ew4b]) | skip
              have hB4 := Lh (hB3.out.below hb4 hB3.out.lt)
              have hR4 := Lh (hR3.out.below hb4 hR3.out.lt)
              have hP4 := Lh (PS.below hP3.out hb4)
              have hK14 := Lh (hK13.out.trans (hb4.mono hK13.out.size))
              have hK24 := Lh (hK23.out.bel (hb4.mono hK23.out.size))
              have hO4 := Lh (own_below hO3.out hb4)
              have hE4 := Lh (hE3.out)
              have HL4 := Lh hl4
              have hsz4 : w39.heap.size ≤ w4.heap.size := hK24.out.size
              have HSZ4 := Lh hsz4
              clear hl4 hb4 ew4 hB3 hR3 hP3 hK13 hK23 hO3 hE3 hsz4
              refine hK.out _ _ ⟨trivial, hB4.out.cell 26⟩ (fun hH4 => ?_)
              clear hK K
              try simp only [Act.put, pA9, pZ9, pS9]
              refine wpAnyT_one 6 rfl (by kernel_rfl) (fun K hK => ?_)
              obtain ⟨ii, zz, q1, q2, q3, q4, q5⟩ := info_parts' Tryz.infoStr
              have hnn := hlen.out
              have hjj := HJ.out
              have hm9 := Nk20.out
              refine step_append_any _ rfl (.tmp 101) (.tmp 105) 36 rfl w39.heap.size 9 ii zz 1 16 Tryz.underlying36 q1 q2 q4 q5 q3 (by decide) (.slice A1 ns.length c1) ns.length (ns.map stv) rfl hO4.out (w3.heap.size + 1) (some ⟨w3.heap.size, 0, none⟩) 1 1 ([Value.string (strOf y)]) rfl HL4.out (by intro u hu; rw [List.mem_singleton.1 hu]; rfl) (by unfold maxLen; omega) (by omega) HSZ4.out ?_
              intro v5 w5 k1 k2 k3
              obtain ⟨A5, c5, rfl, -, -⟩ := own_slice k1
              have hbb : Below w39.heap.size w4 w5 := bel_grown_own (Below.refl _ _) HSZ4.out hO4.out k2
              have hB5 := Lh (hB4.out.below hbb HLO.out.2)
              have hR5 := Lh (hR4.out.below hbb (by have := HLO.out; have := HRG.out; omega))
              have hP5 := Lh (PS.under hP4.out hbb HLO.out.1 (fun h0 ad e => by have := HAL.out h0 ad e; have := HLO.out; have := HRG.out; omega))
              have hK15 := Lh (hK14.out.trans (hbb.mono (by have := HLO.out; have := HRG.out; omega)))
              have hK25 := Lh (hK24.out.bel hbb)
              have hO5 := Lh k1
              have hE5 := Lh (fun z hz => (List.mem_append.1 hz).elim (fun h => hE4.out z h) (fun h => by rw [List.mem_singleton.1 h]; exact hM3.out))
              clear k1 k2 k3 hbb hB4 hR4 hP4 hK14 hK24 hO4 hE4 q1 q2 q3 q4 q5 hnn hjj hm9
              refine hK.out _ _ ⟨trivial, hB5.out.cell 26⟩ (fun hH5 => ?_)
              clear hK K
              try simp only [Act.put, pA9, pZ9, pS9]
              refine tS 7 rfl ?_ hH5 ?_ ?_
              rotate_left
              · (intro wx hx; have hx1 := hx; clear hx; go_simp <;> with_reducible rfl)
              try simp only [Act.put, pA9, pZ9, pS9]
              have c9 : w5.cell? ⟨b, 26, none⟩ = some (.slice A1 ns.length c1) := hB5.out.cell 26
              have f9 := hB5.out.frozen 26
              refine wpAnyT_last 8 rfl (by kernel_rfl) (by decide) (fun K hK => ?_)
              go_simp
              refine hK.out _ _ trivial (fun hH6 => ?_)
              clear hK K
              try simp only [Act.put, pA9, pZ9, pS9]
              refine wpAnyT_done (by kernel_rfl) ?_ _
              clear hH hH3 hH4 hH5 hH6
              try clear hH3b
              have hB6 := hB5.out.set_ 26 (.slice A5 (ns.length + 1) c5)
              have hO6 := Only.set_ w5 b 26 (.slice A5 (ns.length + 1) c5)
              obtain ⟨w6, ez⟩ : ∃ w6, w5.setCell ⟨b, 26, none⟩ (.slice A5 (ns.length + 1) c5) = w6 := ⟨_, rfl⟩
              rw [ez] at hB6 hO6 ⊢
              clear ez c9 f9 hB5
              have hB7 : Hid (Blk w6 b 38 #[.int .i64 x1, .int .i64 x2, .int .i64 x3, .int .u64 (x4 : Int), .int .u64 (x5 : Int), .int .u64 (x6 : Int), .int .u64 (x7 : Int), .int .u64 (x8 : Int), .bool x9, .bool x10, .slice A10 ms.length c10, .slice A12 x12.1.length c12, .slice A13 x12.2.length c13, .int .u64 (x13.id.ver : Int), .int .i64 x13.id.idx, .int .u64 (x13.id.ep : Int), .int .i64 x13.k, .int .i64 x13.n, .int .i64 x13.size, .int .u32 (x13.sum : Int), .slice Ax14 x14.length cx14, .int .u64 (x15 : Int), .int .u64 (x16 : Int), .int .i64 x17, .string (strOf x18), .int .i64 x19, .slice A5 (ns.length + 1) c5]) := Lh hB6
              have hR7 := Lh (hO6.blk hR5.out hRb.out)
              have hP7 := Lh (PS.only hP5.out hO6 hbg.out (fun h0 ad e => by have := HAL.out h0 ad e; have := HBL.out; show ad.block ≠ b; omega))
              have hK17 := Lh (hK15.out.trans (hO6.below (by have := HBL.out; omega)))
              have hK27 := Lh (hK25.out.trans (Keep.only hO6 fun h => h.2.1 rfl))
              have hO7 := Lh (hO6.own hO5.out (own_apart hO5.out HLO.out.2))
              have hE7 := Lh (hE5.out)
              clear hB6 hO6 hR5 hP5 hK15 hK25 hO5 hE5
              go_wp2_with fail
              have hjj := HJ.out
              refine ⟨⟨j1, k + 1, T2, A5, c5, ns ++ [y], by omega, rfl, Lh (by rw [List.length_append, hlen.out]; rfl), HTs, Lh (by rw [List.length_append]; exact hB7.out), hR7, hP7, hK17, hK27, Lh (by rw [List.length_append, List.map_append]; exact hO7.out), hE7⟩, ?_⟩
              simp [intOf]; omega
    case rest =>
      obtain ⟨A26, c26, ns, hB, hR, hP, hK1, hK2, hE⟩ := hcut
      clear BB RR PP KB
      have BB := hB
      have RR := hR
      have PP := hP
      have KB := hK1
      have RE := Lh (fun h => (RE.out h).keep2 hK2.out)
      have EE := Lh (fun h => (EE.out h).keep2 hK2.out)
      have RV := Lh (RV.out.keep2 hK2.out)
      have RL := Lh (RL.out.keep2 hK2.out)
      have RD := Lh (RD.out.keep2 hK2.out)
      have XN := Lh (fun h => (hE.out h).1)
      have RN := Lh (fun h => (hE.out h).2.1)
      have NN := Lh (fun h => (hE.out h).2.2)
      clear hB hR hP hK1 hK2 hE HLO HY
      cases S20 with
      | none =>
        as_aux_lemma =>
          obtain ⟨p, hp, hb⟩ := PX.blk PP.out
          have c2 := hb.cell 2
          clear hb hp
          go_wp2_with (first
            | (go_at_call 31; refine (wnumber_any 50 _ (Lh (hg.out.later KB.out))).mono ?_; rintro e w9 ⟨rfl, hb9⟩; have KB9 := Lh (KB.out.trans (hb9.mono KB.out.size)); have RR9 := Lh (RR.out.below hb9 RR.out.lt); clear hb9)
            | (refine wpl_store_blk rfl 38 (.tmp 2) (.tmp 131) rfl w.heap.size 38 #[.int .i64 0, .int .i64 0, .int .i64 0, .int .u64 0, .int .u64 0, .int .u64 0, .int .u64 0, .int .u64 0, .bool false, .bool false, .slice none 0 0, .slice none 0 0, .slice none 0 0, .int .u64 0, .int .i64 0, .int .u64 0, .int .i64 0, .int .i64 0, .int .i64 0, .int .u32 0, .slice none 0 0, .int .u64 0, .int .u64 0, .int .i64 0, .string ⟨#[]⟩, .int .i64 0, .slice none 0 0] #[.int .i64 0, .int .i64 0, .int .i64 0, .int .u64 0, .int .u64 0, .int .u64 0, .int .u64 0, .int .u64 0, .bool false, .bool false, .slice none 0 0, .slice none 0 0, .slice none 0 0, .int .u64 0, .int .i64 0, .int .u64 0, .int .i64 0, .int .i64 0, .int .i64 0, .int .u32 0, .slice none 0 0, .int .u64 0, .int .u64 0, .int .i64 0, .string ⟨#[]⟩, .int .i64 0, .slice none 0 0] rfl rfl RR9.out rfl sizeMsg rfl ?_; intro wz hB9 hO9))
          refine bodyPost_ret (v := .tuple #[.agg #[.int .i64 0, .int .i64 0, .int .i64 0, .int .u64 0, .int .u64 0, .int .u64 0, .int .u64 0, .int .u64 0, .bool false, .bool false, .slice none 0 0, .slice none 0 0, .slice none 0 0, .int .u64 0, .int .i64 0, .int .u64 0, .int .i64 0, .int .i64 0, .int .i64 0, .int .u32 0, .slice none 0 0, .int .u64 0, .int .u64 0, .int .i64 0, .string ⟨#[]⟩, .int .i64 0, .slice none 0 0], .int .i64 50]) (res_ct Tryz.results13 rfl rfl (load_blk hB9.out Tryz.underlying38 rfl sizeMsg)) rfl ?_
          refine ⟨KB9.out.trans (hO9.out.below (Nat.le_refl _)), ?_⟩
          rw [HM.out]
          rfl
      | some q =>
        have c1 := (PW.blk PP.out).cell 1
        have c2 := (PW.blk PP.out).cell 2
        have f2 := (PW.blk PP.out).frozen 2
        by_cases hq : q = n
        · as_aux_lemma =>
            subst hq
            go_wp2_with (first | (refine wpl_load_blk rfl 38 (.tmp 5) rfl b 38 #[.int .i64 x1, .int .i64 x2, .int .i64 x3, .int .u64 (x4 : Int), .int .u64 (x5 : Int), .int .u64 (x6 : Int), .int .u64 (x7 : Int), .int .u64 (x8 : Int), .bool x9, .bool x10, .slice A10 ms.length c10, .slice A12 x12.1.length c12, .slice A13 x12.2.length c13, .int .u64 (x13.id.ver : Int), .int .i64 x13.id.idx, .int .u64 (x13.id.ep : Int), .int .i64 x13.k, .int .i64 x13.n, .int .i64 x13.size, .int .u32 (x13.sum : Int), .slice Ax14 x14.length cx14, .int .u64 (x15 : Int), .int .u64 (x16 : Int), .int .i64 x17, .string (strOf x18), .int .i64 x19, .slice A26 ns.length c26] _ rfl BB.out Tryz.underlying38 rfl sizeMsg ?_) | (refine wpl_store_blk rfl 38 (.tmp 2) (.tmp 137) rfl w.heap.size 38 #[.int .i64 0, .int .i64 0, .int .i64 0, .int .u64 0, .int .u64 0, .int .u64 0, .int .u64 0, .int .u64 0, .bool false, .bool false, .slice none 0 0, .slice none 0 0, .slice none 0 0, .int .u64 0, .int .i64 0, .int .u64 0, .int .i64 0, .int .i64 0, .int .i64 0, .int .u32 0, .slice none 0 0, .int .u64 0, .int .u64 0, .int .i64 0, .string ⟨#[]⟩, .int .i64 0, .slice none 0 0] #[.int .i64 x1, .int .i64 x2, .int .i64 x3, .int .u64 (x4 : Int), .int .u64 (x5 : Int), .int .u64 (x6 : Int), .int .u64 (x7 : Int), .int .u64 (x8 : Int), .bool x9, .bool x10, .slice A10 ms.length c10, .slice A12 x12.1.length c12, .slice A13 x12.2.length c13, .int .u64 (x13.id.ver : Int), .int .i64 x13.id.idx, .int .u64 (x13.id.ep : Int), .int .i64 x13.k, .int .i64 x13.n, .int .i64 x13.size, .int .u32 (x13.sum : Int), .slice Ax14 x14.length cx14, .int .u64 (x15 : Int), .int .u64 (x16 : Int), .int .i64 x17, .string (strOf x18), .int .i64 x19, .slice A26 ns.length c26] rfl rfl RR.out rfl sizeMsg rfl ?_; intro wz hB9 hO9))
            refine bodyPost_ret (v := .tuple #[.agg #[.int .i64 x1, .int .i64 x2, .int .i64 x3, .int .u64 (x4 : Int), .int .u64 (x5 : Int), .int .u64 (x6 : Int), .int .u64 (x7 : Int), .int .u64 (x8 : Int), .bool x9, .bool x10, .slice A10 ms.length c10, .slice A12 x12.1.length c12, .slice A13 x12.2.length c13, .int .u64 (x13.id.ver : Int), .int .i64 x13.id.idx, .int .u64 (x13.id.ep : Int), .int .i64 x13.k, .int .i64 x13.n, .int .i64 x13.size, .int .u32 (x13.sum : Int), .slice Ax14 x14.length cx14, .int .u64 (x15 : Int), .int .u64 (x16 : Int), .int .i64 x17, .string (strOf x18), .int .i64 x19, .slice A26 ns.length c26], .int .i64 0]) (res_ct Tryz.results13 rfl rfl (load_blk hB9.out Tryz.underlying38 rfl sizeMsg)) rfl ?_
            refine ⟨KB.out.trans (hO9.out.below (Nat.le_refl _)), ?_⟩
            rw [HM.out]
            have h20 : (some q : Option Nat) ≠ none := by simp
            have h11 : S11 ≠ none := BS12.out (BS13.out (BS14.out (BS15.out (BS16.out (BS17.out (BS18.out (BS19.out (BSk20.out (BS20.out h20)))))))))
            have e11 := XE.out h11
            have e20 := XN.out h20
            have hn := NN.out h20
            subst e11
            subst e20
            show if q = q then _ else _
            rw [if_pos rfl]
            obtain ⟨mm, hmm⟩ : ∃ mm : MG, mm = ⟨⟨x1, x2, x3, x4, x5, x6, x7, x8, x9, x10, ms.map (·.x), x12.1, x12.2, x13, x14, x15, x16, x17, x18, x19, x20⟩, ms, A10, c10, A12, c12, A13, c13, Ax14, cx14, A26, c26⟩ := ⟨_, rfl⟩
            have hcs : mgCs mm = #[.int .i64 x1, .int .i64 x2, .int .i64 x3, .int .u64 (x4 : Int), .int .u64 (x5 : Int), .int .u64 (x6 : Int), .int .u64 (x7 : Int), .int .u64 (x8 : Int), .bool x9, .bool x10, .slice A10 ms.length c10, .slice A12 x12.1.length c12, .slice A13 x12.2.length c13, .int .u64 (x13.id.ver : Int), .int .i64 x13.id.idx, .int .u64 (x13.id.ep : Int), .int .i64 x13.k, .int .i64 x13.n, .int .i64 x13.size, .int .u32 (x13.sum : Int), .slice Ax14 x14.length cx14, .int .u64 (x15 : Int), .int .u64 (x16 : Int), .int .i64 x17, .string (strOf x18), .int .i64 x19, .slice A26 x20.length c26] := by rw [hmm]; rfl
            have hx : mm.x = ⟨x1, x2, x3, x4, x5, x6, x7, x8, x9, x10, ms.map (·.x), x12.1, x12.2, x13, x14, x15, x16, x17, x18, x19, x20⟩ := by rw [hmm]
            refine ⟨mm, hx, by rw [hcs], ?_, Nx14.out⟩
            have g1 := ((RE.out h11).onlyR hO9.out).rd
            have g2 := ((EE.out h11).onlyR hO9.out).in_
            have g3 := (RV.out.onlyR hO9.out).rd
            have g4 := (RL.out.onlyR hO9.out).rd
            have g5 := (RD.out.onlyR hO9.out).rd
            have g6 := ((RN.out h20).onlyR hO9.out).rd
            have g7 : MsgW mm.x := by
              rw [hx]
              refine ⟨Nx1.out, Nx2.out, Nx3.out, Nx4.out, Nx5.out, Nx6.out, Nx7.out, Nx8.out, fun y hy => ?_, NC.out.1.1, NC.out.2.1, NH.out, Nx14.out.1, Nx15.out, Nx16.out, Nx17.out, Nx18.out.1, Nx19.out, fun y hy => (hn y hy).1⟩
              obtain ⟨m, hm, rfl⟩ := List.mem_map.1 hy
              exact ((EE.out h11) m hm).ok.w
            subst hmm
            exact ⟨g1, g2, rfl, g3, g4, g5, g6, g7⟩
        · as_aux_lemma =>
            have hne : (q : Int) ≠ (n : Int) := fun h => hq (by exact_mod_cast h)
            have d3 : ((q : Int) == (n : Int)) = false := by rw [beq_eq_false_iff_ne]; exact hne
            have d4 : ((q : Int) != (n : Int)) = true := by rw [bne, d3]; rfl
            have d5 : decide ((q : Int) = (n : Int)) = false := decide_eq_false hne
            have d6 : decide (q = n) = false := decide_eq_false hq
            have d7 : (q == n) = false := by rw [beq_eq_false_iff_ne]; exact hq
            have hX := PW.fail PP.out
            have hk := hX.2
            obtain ⟨p, hp, hb⟩ := PX.blk hX.1
            obtain ⟨wk, ewk⟩ : ∃ wk, wc.setCell ⟨g, 2, none⟩ (.iface 94 (.int .i64 50)) = wk := ⟨_, rfl⟩
            rw [ewk] at hk hb
            have KBk := Lh (KB.out.trans (hk.toBelow KB.out.size (fun k hl => by have := HRG.out; show k ≠ g; omega)))
            have RRk := Lh (hk.notBlk RR.out hR0.out)
            have e2 := hb.cell 2
            have HQ := Lh (And.intro hq hne)
            clear hq hne hX hk hb hp
            go_wp2_with (first
              | rw [ewk]
              | (go_at_call 31; refine (wnumber_any 50 _ (Lh (hg.out.later KBk.out))).mono ?_; rintro e w9 ⟨rfl, hb9⟩; have KB9 := Lh (KBk.out.trans (hb9.mono KBk.out.size)); have RR9 := Lh (RRk.out.below hb9 RRk.out.lt); clear hb9)
              | (refine wpl_store_blk rfl 38 (.tmp 2) (.tmp 131) rfl w.heap.size 38 #[.int .i64 0, .int .i64 0, .int .i64 0, .int .u64 0, .int .u64 0, .int .u64 0, .int .u64 0, .int .u64 0, .bool false, .bool false, .slice none 0 0, .slice none 0 0, .slice none 0 0, .int .u64 0, .int .i64 0, .int .u64 0, .int .i64 0, .int .i64 0, .int .i64 0, .int .u32 0, .slice none 0 0, .int .u64 0, .int .u64 0, .int .i64 0, .string ⟨#[]⟩, .int .i64 0, .slice none 0 0] #[.int .i64 0, .int .i64 0, .int .i64 0, .int .u64 0, .int .u64 0, .int .u64 0, .int .u64 0, .int .u64 0, .bool false, .bool false, .slice none 0 0, .slice none 0 0, .slice none 0 0, .int .u64 0, .int .i64 0, .int .u64 0, .int .i64 0, .int .i64 0, .int .i64 0, .int .u32 0, .slice none 0 0, .int .u64 0, .int .u64 0, .int .i64 0, .string ⟨#[]⟩, .int .i64 0, .slice none 0 0] rfl rfl RR9.out rfl sizeMsg rfl ?_; intro wz hB9 hO9))
            refine bodyPost_ret (v := .tuple #[.agg #[.int .i64 0, .int .i64 0, .int .i64 0, .int .u64 0, .int .u64 0, .int .u64 0, .int .u64 0, .int .u64 0, .bool false, .bool false, .slice none 0 0, .slice none 0 0, .slice none 0 0, .int .u64 0, .int .i64 0, .int .u64 0, .int .i64 0, .int .i64 0, .int .i64 0, .int .u32 0, .slice none 0 0, .int .u64 0, .int .u64 0, .int .i64 0, .string ⟨#[]⟩, .int .i64 0, .slice none 0 0], .int .i64 50]) (res_ct Tryz.results13 rfl rfl (load_blk hB9.out Tryz.underlying38 rfl sizeMsg)) rfl ?_
            refine ⟨KB9.out.trans (hO9.out.below (Nat.le_refl _)), ?_⟩
            rw [HM.out]
            show if q = n then _ else _
            rw [if_neg HQ.out.1]
            rfl
end Go.Proofs.YtijdbdenmcjmmaaGreatDoor
end
