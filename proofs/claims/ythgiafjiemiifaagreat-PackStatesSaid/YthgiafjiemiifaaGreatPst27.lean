/-
  WHAT BOTH READERS ANSWER at any place. (printed by gen_pas4.py); WHAT IS PUT IS READ AGAIN, whatever stands ahead and behind: plain; OBJECTS, INTENTS, SESSIONS, WASTES, STATES: what is read, what is put, and that the one undoes the other: plai. (joined out of PaL1, PaB1, PaM3 by shake.py)
-/
import Derived.Test.YthgiafjiemiifaaGreatPst21
import Derived.Test.YthgiafjiemiifaaGreatPst25
import Derived.Test.YthgiafjiemiifaaGreatPst26
import Derived.Test.YthgiafjiemiifaaGreatPst24
import Derived.Test.YthgiafjiemiifaaGreatPst19
section
namespace Go.Proofs.YthgiafjiemiifaaGreat
open Go.RowKit OctMath
set_option linter.unusedVariables false
/-- The answer at any place: the thing, the place behind it, the error. -/
def resOf {α : Type} (r : Rd α) (z : α) (n : Nat) (at_ : Int) : α × Int × Int := if at_ < 0 ∨ (n : Int) < at_ then (z, 0, 2) else match r at_.toNat with
  | some (x, q) => (x, (q : Int), 0)
  | none => (z, 0, 50)
theorem resOf_out {α : Type} {r : Rd α} {z : α} {n : Nat} {at_ : Int} (h : at_ < 0 ∨ (n : Int) < at_) : resOf r z n at_ = (z, 0, 2) := by unfold resOf; rw [if_pos h]
theorem resOf_some {α : Type} {r : Rd α} {z x : α} {n p q : Nat} (hp : p ≤ n) (h : r p = some (x, q)) : resOf r z n (p : Int) = (x, (q : Int), 0) := by
  unfold resOf
  rw [if_neg (by omega)]
  show (match r p with | some (x, q) => (x, (q : Int), (0 : Int)) | none => (z, 0, 50)) = _
  rw [h]
theorem resOf_none {α : Type} {r : Rd α} {z : α} {n p : Nat} (hp : p ≤ n) (h : r p = none) : resOf r z n (p : Int) = (z, 0, 50) := by
  unfold resOf
  rw [if_neg (by omega)]
  show (match r p with | some (x, q) => (x, (q : Int), (0 : Int)) | none => (z, 0, 50)) = _
  rw [h]
/-- A good answer: what stands there is what is put. -/
theorem resOf_good {α : Type} {bs : List Nat} {r : Rd α} {z : α} {put : α → List Nat} (hw : Wrote bs r put) (hp : ∀ x, 0 < (put x).length) {n : Nat} (hn : bs.length = n) {at_ : Int} (h : (resOf r z n at_).2.2 = 0) :
    ∃ p q : Nat, at_ = p ∧ (resOf r z n at_).2.1 = q ∧ p < q ∧ q ≤ n ∧ (bs.drop p).take (q - p) = put (resOf r z n at_).1 := by
  by_cases ho : at_ < 0 ∨ (n : Int) < at_
  · rw [resOf_out ho] at h; cases h
  · obtain ⟨p, rfl⟩ := Int.eq_ofNat_of_zero_le (show 0 ≤ at_ by omega)
    cases hr : r p with
    | none => rw [resOf_none (by omega) hr] at h; cases h
    | some v =>
      obtain ⟨x, q⟩ := v
      rw [resOf_some (by omega) hr]
      obtain ⟨h1, h2, h3⟩ := hw.rd p x q hr (by omega)
      refine ⟨p, q, rfl, rfl, ?_, by omega, h3⟩
      have h4 := hp x
      rw [← h3, List.length_take] at h4
      omega
/-- What is answered, in one form. -/
def RetU {α : Type} (r : α × Int × Int) (val : α → World → Value → Prop) (w : World) (e : Ending) (w' : World) : Prop := Below w.heap.size w w' ∧ ∃ v, e = .returned (.tuple #[v, .int .i64 r.2.1, .int .i64 r.2.2]) ∧ val r.1 w' v
theorem retU_of {α : Type} {r : Rd α} {z : α} {n : Nat} {at_ : Int} {val : α → World → Value → Prop} {zv : Value} {w : World} {f : FuncId} {args : Array Value} (hz : ∀ w', val z w' zv)
    (h1 : ∀ p : Nat, at_ = p → p ≤ n → Calls Tryz.prog f args w (RetG (r p) val zv w)) (h2 : at_ < 0 ∨ (n : Int) < at_ → Calls Tryz.prog f args w fun e w' => e = .returned (.tuple #[zv, .int .i64 0, .int .i64 2]) ∧ Below w.heap.size w w') :
    Calls Tryz.prog f args w (RetU (resOf r z n at_) val w) := by
  by_cases ho : at_ < 0 ∨ (n : Int) < at_
  · rw [resOf_out ho]
    exact (h2 ho).mono fun e w' h => ⟨h.2, zv, h.1, hz w'⟩
  · obtain ⟨p, rfl⟩ := Int.eq_ofNat_of_zero_le (show 0 ≤ at_ by omega)
    refine (h1 p rfl (by omega)).mono fun e w' h => ?_
    cases hr : r p with
    | none =>
      rw [resOf_none (by omega) hr]
      rw [hr] at h
      exact ⟨h.1, zv, h.2, hz w'⟩
    | some v =>
      obtain ⟨x, q⟩ := v
      rw [resOf_some (by omega) hr]
      rw [hr] at h
      obtain ⟨hb, v, he, hv⟩ := h
      exact ⟨hb, v, he, hv⟩
theorem lst_nil (lo size : Nat) (w : World) : Lst lo size none 0 0 [] w := ⟨Reads.none_, fun h => absurd h (by decide), by decide, by unfold maxLen; omega⟩
theorem xu_conf (A : Option Addr) (n cap : Nat) (bs : List Nat) (at_ : Int) (w : World) (HI : Hid (InB w A n cap bs)) : Calls Tryz.prog 34 #[.slice A n cap, .int .i64 at_] w (RetU (resOf (rConf bs) (([] : List Int), ([] : List Int)) n at_) (vConf w.heap.size) w) :=
  retU_of (fun _ => ⟨none, 0, none, 0, rfl, lst_nil _ _ _, lst_nil _ _ _, ints0_ok, ints0_ok⟩) (fun p e hp => by rw [e]; exact conf_read A n cap bs p w HI hp) (fun h => conf_read_bad A n cap at_ w HI.out.reach h)
theorem xu_entry (A : Option Addr) (n cap : Nat) (bs : List Nat) (at_ : Int) (w : World) (HI : Hid (InB w A n cap bs)) : Calls Tryz.prog 5 #[.slice A n cap, .int .i64 at_] w (RetU (resOf (rEnt bs) ent0 n at_) (vEnt w.heap.size) w) :=
  retU_of (fun _ => ⟨none, 0, none, 0, none, 0, rfl, lst_nil _ _ _, lst_nil _ _ _, lst_nil _ _ _, ent0_ok⟩) (fun p e hp => by rw [e]; exact ent_read A n cap bs p w HI hp) (fun h => ent_read_bad A n cap at_ w HI.out.reach h)
theorem ru_entry (A : Option Addr) (n cap : Nat) (bs : List Nat) (at_ : Int) (w : World) (HI : Hid (InB w A n cap bs)) : Calls Tryz.prog 6 #[.slice A n cap, .int .i64 at_] w (RetU (resOf (rEnt bs) ent0 n at_) (uEnt w.heap.size) w) :=
  retU_of (fun _ => ⟨none, 0, none, 0, none, 0, rfl, lst_nil _ _ _, lst_nil _ _ _, lst_nil _ _ _⟩) (fun p e hp => by rw [e]; exact rx_entry A n cap bs p w HI hp) (fun h => rx_entry_bad A n cap bs at_ w HI h)
theorem pInt_pos (x : Int) : 0 < (pInt x).length := putN_pos _
theorem pEnt_pos (x : EntT) : 0 < (pEnt x).length := by unfold pEnt; simp only [List.length_append]; have := putN_pos x.index; omega
end Go.Proofs.YthgiafjiemiifaaGreat
end
section
namespace Go.Proofs.YthgiafjiemiifaaGreat
open Go.RowKit OctMath
set_option linter.unusedVariables false
/-- x, put as ys, is read again. -/
structure Got {α : Type} (r : List Nat → Rd α) (x : α) (ys : List Nat) : Prop where
  rd : ∀ pre rest, r (pre ++ (ys ++ rest)) pre.length = some (x, (pre ++ ys).length)
theorem Got.pure {α : Type} (x : α) : Got (fun _ => Rd.pure x) x [] := ⟨fun pre rest => by simp [Rd.pure]⟩
theorem Got.bind {α β : Type} {r : List Nat → Rd α} {f : List Nat → α → Rd β} {x : α} {y : β} {ys zs : List Nat} (h : Got r x ys) (k : Got (fun bs => f bs x) y zs) : Got (fun bs => (r bs).bind (f bs)) y (ys ++ zs) := by
  refine ⟨fun pre rest => ?_⟩
  have e1 : pre ++ ((ys ++ zs) ++ rest) = pre ++ (ys ++ (zs ++ rest)) := by simp only [List.append_assoc]
  have e2 : pre ++ (ys ++ (zs ++ rest)) = (pre ++ ys) ++ (zs ++ rest) := by simp only [List.append_assoc]
  have h1 := h.rd pre (zs ++ rest)
  have h2 := k.rd (pre ++ ys) rest
  show ((r _).bind (f _)) pre.length = _
  rw [e1, Rd.bind_some h1, e2, h2, List.append_assoc]
theorem Got.last {α β : Type} {r : List Nat → Rd α} {f : α → β} {x : α} {ys : List Nat} (h : Got r x ys) : Got (fun bs => (r bs).bind fun x => Rd.pure (f x)) (f x) ys := by
  have := h.bind (f := fun _ x => Rd.pure (f x)) (Got.pure (f x))
  rwa [List.append_nil] at this
end Go.Proofs.YthgiafjiemiifaaGreat
end
section
namespace Go.Proofs.YthgiafjiemiifaaGreat
open Go.RowKit OctMath
set_option linter.unusedVariables false
set_option linter.unusedSimpArgs false
structure ObjT where
  key : List Nat
  version : Nat
  size : Int
  sum : Nat
  group : Int
  epoch : Nat
  nodes : List Int
structure IntT where
  obj : ObjT
  client : Nat
  seq : Nat
structure SesT where
  client : Nat
  seq : Nat
  opn : Bool
  version : Nat
  code : Int
structure WasT where
  id : IdT
  node : Int
structure MetT where
  k : Int
  n : Int
  groups : Int
  mep : Nat
  mem : List (Int × Int)
  nep : Nat
  nem : List (Int × Int)
  cut : List Int
  objs : List ObjT
  ints : List IntT
  sess : List SesT
  wass : List WasT
  down : List Int
  last : Nat
structure ObjOk (x : ObjT) : Prop where
  key : (∀ y ∈ x.key, y < 256) ∧ x.key.length ≤ 1048576
  version : x.version < 18446744073709551616
  size : I64 x.size
  sum : x.sum < 4294967296
  group : I64 x.group
  epoch : x.epoch < 18446744073709551616
  nodes : IntsOk x.nodes
structure InteOk (x : IntT) : Prop where
  obj : ObjOk x.obj
  client : x.client < 18446744073709551616
  seq : x.seq < 18446744073709551616
structure SesOk (x : SesT) : Prop where
  client : x.client < 18446744073709551616
  seq : x.seq < 18446744073709551616
  version : x.version < 18446744073709551616
  code : I64 x.code
structure WasOk (x : WasT) : Prop where
  id : IdOk x.id
  node : I64 x.node
structure MetOk (x : MetT) : Prop where
  k : I64 x.k
  n : I64 x.n
  groups : I64 x.groups
  map : MapOk (x.mep, x.mem)
  next : MapOk (x.nep, x.nem)
  cut : IntsOk x.cut
  objs : (∀ y ∈ x.objs, ObjOk y) ∧ x.objs.length ≤ 1048576
  ints : (∀ y ∈ x.ints, InteOk y) ∧ x.ints.length ≤ 1048576
  sess : (∀ y ∈ x.sess, SesOk y) ∧ x.sess.length ≤ 1048576
  wass : (∀ y ∈ x.wass, WasOk y) ∧ x.wass.length ≤ 1048576
  down : IntsOk x.down
  last : x.last < 18446744073709551616
def rObj (bs : List Nat) : Rd ObjT := (rText bs).bind fun x1 => (rNum bs).bind fun x2 => (rInt bs).bind fun x3 => (rWord bs).bind fun x4 => (rInt bs).bind fun x5 => (rNum bs).bind fun x6 => (rList bs (rInt bs)).bind fun x7 => Rd.pure ⟨x1, x2, x3, x4, x5, x6, x7⟩
def rIntent (bs : List Nat) : Rd IntT := (rObj bs).bind fun x1 => (rNum bs).bind fun x2 => (rNum bs).bind fun x3 => Rd.pure ⟨x1, x2, x3⟩
def rSes (bs : List Nat) : Rd SesT := (rNum bs).bind fun x1 => (rNum bs).bind fun x2 => (rFlag bs).bind fun x3 => (rNum bs).bind fun x4 => (rInt bs).bind fun x5 => Rd.pure ⟨x1, x2, x3, x4, x5⟩
def rWas (bs : List Nat) : Rd WasT := (rId bs).bind fun x1 => (rInt bs).bind fun x2 => Rd.pure ⟨x1, x2⟩
def rMet (bs : List Nat) : Rd MetT := (rInt bs).bind fun x1 => (rInt bs).bind fun x2 => (rInt bs).bind fun x3 => (rMap bs).bind fun x4 => (rMap bs).bind fun x5 => (rList bs (rInt bs)).bind fun x6 => (rList bs (rObj bs)).bind fun x7 => (rList bs (rIntent bs)).bind fun x8 => (rList bs (rSes bs)).bind fun x9 => (rList bs (rWas bs)).bind fun x10 => (rList bs (rInt bs)).bind fun x11 => (rNum bs).bind fun x12 => Rd.pure ⟨x1, x2, x3, x4.1, x4.2, x5.1, x5.2, x6, x7, x8, x9, x10, x11, x12⟩
def pObj (x : ObjT) : List Nat := pText x.key ++ (putN x.version ++ (pInt x.size ++ (putN x.sum ++ (pInt x.group ++ (putN x.epoch ++ pList pInt x.nodes)))))
def pIntent (x : IntT) : List Nat := pObj x.obj ++ (putN x.client ++ putN x.seq)
def pSes (x : SesT) : List Nat := putN x.client ++ (putN x.seq ++ (pFlag x.opn ++ (putN x.version ++ pInt x.code)))
def pWas (x : WasT) : List Nat := pId x.id ++ pInt x.node
def pMet (x : MetT) : List Nat := pInt x.k ++ (pInt x.n ++ (pInt x.groups ++ (pMap (x.mep, x.mem) ++ (pMap (x.nep, x.nem) ++ (pList pInt x.cut ++ (pList pObj x.objs ++ (pList pIntent x.ints ++ (pList pSes x.sess ++ (pList pWas x.wass ++ (pList pInt x.down ++ putN x.last))))))))))
theorem pMet_pos (x : MetT) : 0 < (pMet x).length := by unfold pMet; simp only [List.length_append]; have := pInt_pos x.k; omega
theorem wr_obj {bs : List Nat} (hb : Byt bs) : Wrote bs (rObj bs) pObj := by
  refine ⟨fun at_ y q e hl => ?_⟩
  unfold rObj at e
  obtain ⟨x1, q1, -, e, a1, b1, s1⟩ := (wr_text hb).step e hl
  obtain ⟨x2, q2, -, e, a2, b2, s2⟩ := (wr_num hb).step e b1
  obtain ⟨x3, q3, -, e, a3, b3, s3⟩ := (wr_int hb).step e b2
  obtain ⟨x4, q4, -, e, a4, b4, s4⟩ := (wr_word hb).step e b3
  obtain ⟨x5, q5, -, e, a5, b5, s5⟩ := (wr_int hb).step e b4
  obtain ⟨x6, q6, -, e, a6, b6, s6⟩ := (wr_num hb).step e b5
  obtain ⟨x7, q7, -, e, a7, b7, s7⟩ := (wr_list hb (wr_int hb)).step e b6
  cases e
  refine ⟨by omega, by omega, ?_⟩
  rw [take_join bs (a := at_) (p := q1) (q := q) (by omega) (by omega), s1]
  rw [take_join bs (a := q1) (p := q2) (q := q) (by omega) (by omega), s2]
  rw [take_join bs (a := q2) (p := q3) (q := q) (by omega) (by omega), s3]
  rw [take_join bs (a := q3) (p := q4) (q := q) (by omega) (by omega), s4]
  rw [take_join bs (a := q4) (p := q5) (q := q) (by omega) (by omega), s5]
  rw [take_join bs (a := q5) (p := q6) (q := q) (by omega) (by omega), s6]
  rw [s7]
  simp only [pObj, List.append_assoc]
theorem wr_intent {bs : List Nat} (hb : Byt bs) : Wrote bs (rIntent bs) pIntent := by
  refine ⟨fun at_ y q e hl => ?_⟩
  unfold rIntent at e
  obtain ⟨x1, q1, -, e, a1, b1, s1⟩ := (wr_obj hb).step e hl
  obtain ⟨x2, q2, -, e, a2, b2, s2⟩ := (wr_num hb).step e b1
  obtain ⟨x3, q3, -, e, a3, b3, s3⟩ := (wr_num hb).step e b2
  cases e
  refine ⟨by omega, by omega, ?_⟩
  rw [take_join bs (a := at_) (p := q1) (q := q) (by omega) (by omega), s1]
  rw [take_join bs (a := q1) (p := q2) (q := q) (by omega) (by omega), s2]
  rw [s3]
  simp only [pIntent, List.append_assoc]
theorem wr_ses {bs : List Nat} (hb : Byt bs) : Wrote bs (rSes bs) pSes := by
  refine ⟨fun at_ y q e hl => ?_⟩
  unfold rSes at e
  obtain ⟨x1, q1, -, e, a1, b1, s1⟩ := (wr_num hb).step e hl
  obtain ⟨x2, q2, -, e, a2, b2, s2⟩ := (wr_num hb).step e b1
  obtain ⟨x3, q3, -, e, a3, b3, s3⟩ := (wr_flag hb).step e b2
  obtain ⟨x4, q4, -, e, a4, b4, s4⟩ := (wr_num hb).step e b3
  obtain ⟨x5, q5, -, e, a5, b5, s5⟩ := (wr_int hb).step e b4
  cases e
  refine ⟨by omega, by omega, ?_⟩
  rw [take_join bs (a := at_) (p := q1) (q := q) (by omega) (by omega), s1]
  rw [take_join bs (a := q1) (p := q2) (q := q) (by omega) (by omega), s2]
  rw [take_join bs (a := q2) (p := q3) (q := q) (by omega) (by omega), s3]
  rw [take_join bs (a := q3) (p := q4) (q := q) (by omega) (by omega), s4]
  rw [s5]
  simp only [pSes, List.append_assoc]
theorem wr_was {bs : List Nat} (hb : Byt bs) : Wrote bs (rWas bs) pWas := by
  refine ⟨fun at_ y q e hl => ?_⟩
  unfold rWas at e
  obtain ⟨x1, q1, -, e, a1, b1, s1⟩ := (wr_id hb).step e hl
  obtain ⟨x2, q2, -, e, a2, b2, s2⟩ := (wr_int hb).step e b1
  cases e
  refine ⟨by omega, by omega, ?_⟩
  rw [take_join bs (a := at_) (p := q1) (q := q) (by omega) (by omega), s1]
  rw [s2]
  simp only [pWas, List.append_assoc]
theorem wr_met {bs : List Nat} (hb : Byt bs) : Wrote bs (rMet bs) pMet := by
  refine ⟨fun at_ y q e hl => ?_⟩
  unfold rMet at e
  obtain ⟨x1, q1, -, e, a1, b1, s1⟩ := (wr_int hb).step e hl
  obtain ⟨x2, q2, -, e, a2, b2, s2⟩ := (wr_int hb).step e b1
  obtain ⟨x3, q3, -, e, a3, b3, s3⟩ := (wr_int hb).step e b2
  obtain ⟨x4, q4, -, e, a4, b4, s4⟩ := (wr_map hb).step e b3
  obtain ⟨x5, q5, -, e, a5, b5, s5⟩ := (wr_map hb).step e b4
  obtain ⟨x6, q6, -, e, a6, b6, s6⟩ := (wr_list hb (wr_int hb)).step e b5
  obtain ⟨x7, q7, -, e, a7, b7, s7⟩ := (wr_list hb (wr_obj hb)).step e b6
  obtain ⟨x8, q8, -, e, a8, b8, s8⟩ := (wr_list hb (wr_intent hb)).step e b7
  obtain ⟨x9, q9, -, e, a9, b9, s9⟩ := (wr_list hb (wr_ses hb)).step e b8
  obtain ⟨x10, q10, -, e, a10, b10, s10⟩ := (wr_list hb (wr_was hb)).step e b9
  obtain ⟨x11, q11, -, e, a11, b11, s11⟩ := (wr_list hb (wr_int hb)).step e b10
  obtain ⟨x12, q12, -, e, a12, b12, s12⟩ := (wr_num hb).step e b11
  cases e
  refine ⟨by omega, by omega, ?_⟩
  rw [take_join bs (a := at_) (p := q1) (q := q) (by omega) (by omega), s1]
  rw [take_join bs (a := q1) (p := q2) (q := q) (by omega) (by omega), s2]
  rw [take_join bs (a := q2) (p := q3) (q := q) (by omega) (by omega), s3]
  rw [take_join bs (a := q3) (p := q4) (q := q) (by omega) (by omega), s4]
  rw [take_join bs (a := q4) (p := q5) (q := q) (by omega) (by omega), s5]
  rw [take_join bs (a := q5) (p := q6) (q := q) (by omega) (by omega), s6]
  rw [take_join bs (a := q6) (p := q7) (q := q) (by omega) (by omega), s7]
  rw [take_join bs (a := q7) (p := q8) (q := q) (by omega) (by omega), s8]
  rw [take_join bs (a := q8) (p := q9) (q := q) (by omega) (by omega), s9]
  rw [take_join bs (a := q9) (p := q10) (q := q) (by omega) (by omega), s10]
  rw [take_join bs (a := q10) (p := q11) (q := q) (by omega) (by omega), s11]
  rw [s12]
  simp only [pMet, List.append_assoc]
theorem pObj_len {x : ObjT} (h : ObjOk x) : (pObj x).length ≤ 11534500 := by
  have h1 := pText_len h.key
  have h2 := putN_len10 h.version
  have h3 := pInt_len h.size
  have h4 := putN_len10 (n := x.sum) (by have := h.sum; omega)
  have h5 := pInt_len h.group
  have h6 := putN_len10 h.epoch
  have h7 := pInts_len h.nodes
  unfold pObj
  simp only [List.length_append]
  omega
theorem pIntent_len {x : IntT} (h : InteOk x) : (pIntent x).length ≤ 11534520 := by
  have h1 := pObj_len h.obj
  have h2 := putN_len10 h.client
  have h3 := putN_len10 h.seq
  unfold pIntent
  simp only [List.length_append]
  omega
theorem pSes_len {x : SesT} (h : SesOk x) : (pSes x).length ≤ 50 := by
  have h1 := putN_len10 h.client
  have h2 := putN_len10 h.seq
  have h3 := pFlag_len x.opn
  have h4 := putN_len10 h.version
  have h5 := pInt_len h.code
  unfold pSes
  simp only [List.length_append]
  omega
theorem pWas_len {x : WasT} (h : WasOk x) : (pWas x).length ≤ 40 := by
  have h1 := pId_len h.id
  have h2 := pInt_len h.node
  unfold pWas
  simp only [List.length_append]
  omega
end Go.Proofs.YthgiafjiemiifaaGreat
end
