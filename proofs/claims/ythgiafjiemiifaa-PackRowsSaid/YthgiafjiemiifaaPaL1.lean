/-
  WHAT BOTH READERS ANSWER at any place. (printed by gen_pas4.py)
-/
import Derived.Test.YthgiafjiemiifaaPaQ12
import Derived.Test.YthgiafjiemiifaaPaQ11
import Derived.Test.YthgiafjiemiifaaPaS4
import Derived.Test.YthgiafjiemiifaaPaG3
import Derived.Test.YthgiafjiemiifaaPaW1
namespace Go.Proofs.Ythgiafjiemiifaa
open Go.RowKit OctMath
set_option linter.unusedVariables false
/-- The answer at any place: the thing, the place behind it, the error. -/
def resOf {α : Type} (r : Rd α) (z : α) (n : Nat) (at_ : Int) : α × Int × Int := if at_ < 0 ∨ (n : Int) < at_ then (z, 0, 2) else match r at_.toNat with
  | some (x, q) => (x, (q : Int), 0)
  | none => (z, 0, 50)
theorem resOf_out {α : Type} {r : Rd α} {z : α} {n : Nat} {at_ : Int} (h : at_ < 0 ∨ (n : Int) < at_) : resOf r z n at_ = (z, 0, 2) := by unfold resOf; rw [if_pos h]
theorem resOf_some {α : Type} {r : Rd α} {z x : α} {n p q : Nat} (hp : p ≤ n) (h : r p = some (x, q)) : resOf r z n (p : Int) = (x, (q : Int), 0) := by
  unfold resOf
  rw [if_neg (by omega)]
  show (match r p with | some (x, q) => (x, (q : Int), (0 : Int)) | none => (z, 0, 50)) = _
  rw [h]
theorem resOf_none {α : Type} {r : Rd α} {z : α} {n p : Nat} (hp : p ≤ n) (h : r p = none) : resOf r z n (p : Int) = (z, 0, 50) := by
  unfold resOf
  rw [if_neg (by omega)]
  show (match r p with | some (x, q) => (x, (q : Int), (0 : Int)) | none => (z, 0, 50)) = _
  rw [h]
/-- A good answer: what stands there is what is put. -/
theorem resOf_good {α : Type} {bs : List Nat} {r : Rd α} {z : α} {put : α → List Nat} (hw : Wrote bs r put) (hp : ∀ x, 0 < (put x).length) {n : Nat} (hn : bs.length = n) {at_ : Int} (h : (resOf r z n at_).2.2 = 0) :
    ∃ p q : Nat, at_ = p ∧ (resOf r z n at_).2.1 = q ∧ p < q ∧ q ≤ n ∧ (bs.drop p).take (q - p) = put (resOf r z n at_).1 := by
  by_cases ho : at_ < 0 ∨ (n : Int) < at_
  · rw [resOf_out ho] at h; cases h
  · obtain ⟨p, rfl⟩ := Int.eq_ofNat_of_zero_le (show 0 ≤ at_ by omega)
    cases hr : r p with
    | none => rw [resOf_none (by omega) hr] at h; cases h
    | some v =>
      obtain ⟨x, q⟩ := v
      rw [resOf_some (by omega) hr]
      obtain ⟨h1, h2, h3⟩ := hw.rd p x q hr (by omega)
      refine ⟨p, q, rfl, rfl, ?_, by omega, h3⟩
      have h4 := hp x
      rw [← h3, List.length_take] at h4
      omega
/-- What is answered, in one form. -/
def RetU {α : Type} (r : α × Int × Int) (val : α → World → Value → Prop) (w : World) (e : Ending) (w' : World) : Prop := Below w.heap.size w w' ∧ ∃ v, e = .returned (.tuple #[v, .int .i64 r.2.1, .int .i64 r.2.2]) ∧ val r.1 w' v
theorem retU_of {α : Type} {r : Rd α} {z : α} {n : Nat} {at_ : Int} {val : α → World → Value → Prop} {zv : Value} {w : World} {f : FuncId} {args : Array Value} (hz : ∀ w', val z w' zv)
    (h1 : ∀ p : Nat, at_ = p → p ≤ n → Calls Try.prog f args w (RetG (r p) val zv w)) (h2 : at_ < 0 ∨ (n : Int) < at_ → Calls Try.prog f args w fun e w' => e = .returned (.tuple #[zv, .int .i64 0, .int .i64 2]) ∧ Below w.heap.size w w') :
    Calls Try.prog f args w (RetU (resOf r z n at_) val w) := by
  by_cases ho : at_ < 0 ∨ (n : Int) < at_
  · rw [resOf_out ho]
    exact (h2 ho).mono fun e w' h => ⟨h.2, zv, h.1, hz w'⟩
  · obtain ⟨p, rfl⟩ := Int.eq_ofNat_of_zero_le (show 0 ≤ at_ by omega)
    refine (h1 p rfl (by omega)).mono fun e w' h => ?_
    cases hr : r p with
    | none =>
      rw [resOf_none (by omega) hr]
      rw [hr] at h
      exact ⟨h.1, zv, h.2, hz w'⟩
    | some v =>
      obtain ⟨x, q⟩ := v
      rw [resOf_some (by omega) hr]
      rw [hr] at h
      obtain ⟨hb, v, he, hv⟩ := h
      exact ⟨hb, v, he, hv⟩
theorem lst_nil (lo size : Nat) (w : World) : Lst lo size none 0 0 [] w := ⟨Reads.none_, fun h => absurd h (by decide), by decide, by unfold maxLen; omega⟩
theorem xu_header (A : Option Addr) (n cap : Nat) (bs : List Nat) (at_ : Int) (w : World) (HI : Hid (InB w A n cap bs)) : Calls Try.prog 5 #[.slice A n cap, .int .i64 at_] w (RetU (resOf (rHd bs) hd0 n at_) vHd w) :=
  retU_of (fun _ => ⟨rfl, hd0_ok⟩) (fun p e hp => by rw [e]; exact hd_read A n cap bs p w HI hp) (fun h => hd_read_bad A n cap at_ w HI.out.reach h)
theorem ru_header (A : Option Addr) (n cap : Nat) (bs : List Nat) (at_ : Int) (w : World) (HI : Hid (InB w A n cap bs)) : Calls Try.prog 6 #[.slice A n cap, .int .i64 at_] w (RetU (resOf (rHd bs) hd0 n at_) uHd w) :=
  retU_of (fun _ => rfl) (fun p e hp => by rw [e]; exact rx_header A n cap bs p w HI hp) (fun h => rx_header_bad A n cap bs at_ w HI h)
theorem xu_conf (A : Option Addr) (n cap : Nat) (bs : List Nat) (at_ : Int) (w : World) (HI : Hid (InB w A n cap bs)) : Calls Try.prog 9 #[.slice A n cap, .int .i64 at_] w (RetU (resOf (rConf bs) (([] : List Int), ([] : List Int)) n at_) (vConf w.heap.size) w) :=
  retU_of (fun _ => ⟨none, 0, none, 0, rfl, lst_nil _ _ _, lst_nil _ _ _, ints0_ok, ints0_ok⟩) (fun p e hp => by rw [e]; exact conf_read A n cap bs p w HI hp) (fun h => conf_read_bad A n cap at_ w HI.out.reach h)
theorem ru_conf (A : Option Addr) (n cap : Nat) (bs : List Nat) (at_ : Int) (w : World) (HI : Hid (InB w A n cap bs)) : Calls Try.prog 10 #[.slice A n cap, .int .i64 at_] w (RetU (resOf (rConf bs) (([] : List Int), ([] : List Int)) n at_) (uConf w.heap.size) w) :=
  retU_of (fun _ => ⟨none, 0, none, 0, rfl, lst_nil _ _ _, lst_nil _ _ _⟩) (fun p e hp => by rw [e]; exact rx_conf A n cap bs p w HI hp) (fun h => rx_conf_bad A n cap bs at_ w HI h)
theorem xu_map (A : Option Addr) (n cap : Nat) (bs : List Nat) (at_ : Int) (w : World) (HI : Hid (InB w A n cap bs)) : Calls Try.prog 13 #[.slice A n cap, .int .i64 at_] w (RetU (resOf (rMap bs) (0, ([] : List (Int × Int))) n at_) (vMap w.heap.size) w) :=
  retU_of (fun _ => ⟨none, 0, rfl, lst_nil _ _ _, map0_ok⟩) (fun p e hp => by rw [e]; exact map_read A n cap bs p w HI hp) (fun h => map_read_bad A n cap at_ w HI.out.reach h)
theorem ru_map (A : Option Addr) (n cap : Nat) (bs : List Nat) (at_ : Int) (w : World) (HI : Hid (InB w A n cap bs)) : Calls Try.prog 14 #[.slice A n cap, .int .i64 at_] w (RetU (resOf (rMap bs) (0, ([] : List (Int × Int))) n at_) (uMap w.heap.size) w) :=
  retU_of (fun _ => ⟨none, 0, rfl, lst_nil _ _ _⟩) (fun p e hp => by rw [e]; exact rx_map A n cap bs p w HI hp) (fun h => rx_map_bad A n cap bs at_ w HI h)
theorem xu_cmd (A : Option Addr) (n cap : Nat) (bs : List Nat) (at_ : Int) (w : World) (HI : Hid (InB w A n cap bs)) : Calls Try.prog 17 #[.slice A n cap, .int .i64 at_] w (RetU (resOf (rCmd bs) cmd0 n at_) (vCmd w.heap.size) w) :=
  retU_of (fun _ => ⟨none, 0, rfl, lst_nil _ _ _, cmd0_ok⟩) (fun p e hp => by rw [e]; exact cmd_read A n cap bs p w HI hp) (fun h => cmd_read_bad A n cap at_ w HI.out.reach h)
theorem ru_cmd (A : Option Addr) (n cap : Nat) (bs : List Nat) (at_ : Int) (w : World) (HI : Hid (InB w A n cap bs)) : Calls Try.prog 18 #[.slice A n cap, .int .i64 at_] w (RetU (resOf (rCmd bs) cmd0 n at_) (uCmd w.heap.size) w) :=
  retU_of (fun _ => ⟨none, 0, rfl, lst_nil _ _ _⟩) (fun p e hp => by rw [e]; exact rx_cmd A n cap bs p w HI hp) (fun h => rx_cmd_bad A n cap bs at_ w HI h)
theorem xu_entry (A : Option Addr) (n cap : Nat) (bs : List Nat) (at_ : Int) (w : World) (HI : Hid (InB w A n cap bs)) : Calls Try.prog 23 #[.slice A n cap, .int .i64 at_] w (RetU (resOf (rEnt bs) ent0 n at_) (vEnt w.heap.size) w) :=
  retU_of (fun _ => ⟨none, 0, none, 0, none, 0, rfl, lst_nil _ _ _, lst_nil _ _ _, lst_nil _ _ _, ent0_ok⟩) (fun p e hp => by rw [e]; exact ent_read A n cap bs p w HI hp) (fun h => ent_read_bad A n cap at_ w HI.out.reach h)
theorem pInt_pos (x : Int) : 0 < (pInt x).length := putN_pos _
theorem pHd_pos (x : HdT) : 0 < (pHd x).length := by unfold pHd pId; simp only [List.length_append]; have := putN_pos x.id.ver; omega
theorem pConf_pos (x : List Int × List Int) : 0 < (pConf x).length := by unfold pConf pList; simp only [List.length_append]; have := putN_pos x.1.length; omega
theorem pMap_pos (x : Nat × List (Int × Int)) : 0 < (pMap x).length := by unfold pMap; simp only [List.length_append]; have := putN_pos x.1; omega
theorem pCmd_pos (x : CmdT) : 0 < (pCmd x).length := by unfold pCmd; simp only [List.length_append]; have := pInt_pos x.kind; omega
theorem pEnt_pos (x : EntT) : 0 < (pEnt x).length := by unfold pEnt; simp only [List.length_append]; have := putN_pos x.index; omega
end Go.Proofs.Ythgiafjiemiifaa
