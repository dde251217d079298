/-
  WHAT BOTH READERS ANSWER at any place. (printed by gen_pas4.py); WHAT IS PUT IS READ AGAIN, whatever stands ahead and behind: plain; OBJECTS, INTENTS, SESSIONS, WASTES, STATES: what is read, what is put, and that the one undoes the other: plai. (joined out of PaL1, PaB1, PaM3 by shake.py)
-/
import Derived.Test.YthgiafjiemiifaaGreatPbk19
import Derived.Test.YthgiafjiemiifaaGreatPbk22
import Derived.Test.YthgiafjiemiifaaGreatPbk23
import Derived.Test.YthgiafjiemiifaaGreatPbk16
section
namespace Go.Proofs.YthgiafjiemiifaaGreat
open Go.RowKit OctMath
set_option linter.unusedVariables false
/-- The answer at any place: the thing, the place behind it, the error. -/
def resOf {α : Type} (r : Rd α) (z : α) (n : Nat) (at_ : Int) : α × Int × Int := if at_ < 0 ∨ (n : Int) < at_ then (z, 0, 2) else match r at_.toNat with
  | some (x, q) => (x, (q : Int), 0)
  | none => (z, 0, 50)
theorem resOf_out {α : Type} {r : Rd α} {z : α} {n : Nat} {at_ : Int} (h : at_ < 0 ∨ (n : Int) < at_) : resOf r z n at_ = (z, 0, 2) := by unfold resOf; rw [if_pos h]
theorem resOf_some {α : Type} {r : Rd α} {z x : α} {n p q : Nat} (hp : p ≤ n) (h : r p = some (x, q)) : resOf r z n (p : Int) = (x, (q : Int), 0) := by
  unfold resOf
  rw [if_neg (by omega)]
  show (match r p with | some (x, q) => (x, (q : Int), (0 : Int)) | none => (z, 0, 50)) = _
  rw [h]
theorem resOf_none {α : Type} {r : Rd α} {z : α} {n p : Nat} (hp : p ≤ n) (h : r p = none) : resOf r z n (p : Int) = (z, 0, 50) := by
  unfold resOf
  rw [if_neg (by omega)]
  show (match r p with | some (x, q) => (x, (q : Int), (0 : Int)) | none => (z, 0, 50)) = _
  rw [h]
/-- What is answered, in one form. -/
def RetU {α : Type} (r : α × Int × Int) (val : α → World → Value → Prop) (w : World) (e : Ending) (w' : World) : Prop := Below w.heap.size w w' ∧ ∃ v, e = .returned (.tuple #[v, .int .i64 r.2.1, .int .i64 r.2.2]) ∧ val r.1 w' v
theorem retU_of {α : Type} {r : Rd α} {z : α} {n : Nat} {at_ : Int} {val : α → World → Value → Prop} {zv : Value} {w : World} {f : FuncId} {args : Array Value} (hz : ∀ w', val z w' zv)
    (h1 : ∀ p : Nat, at_ = p → p ≤ n → Calls Tryz.prog f args w (RetG (r p) val zv w)) (h2 : at_ < 0 ∨ (n : Int) < at_ → Calls Tryz.prog f args w fun e w' => e = .returned (.tuple #[zv, .int .i64 0, .int .i64 2]) ∧ Below w.heap.size w w') :
    Calls Tryz.prog f args w (RetU (resOf r z n at_) val w) := by
  by_cases ho : at_ < 0 ∨ (n : Int) < at_
  · rw [resOf_out ho]
    exact (h2 ho).mono fun e w' h => ⟨h.2, zv, h.1, hz w'⟩
  · obtain ⟨p, rfl⟩ := Int.eq_ofNat_of_zero_le (show 0 ≤ at_ by omega)
    refine (h1 p rfl (by omega)).mono fun e w' h => ?_
    cases hr : r p with
    | none =>
      rw [resOf_none (by omega) hr]
      rw [hr] at h
      exact ⟨h.1, zv, h.2, hz w'⟩
    | some v =>
      obtain ⟨x, q⟩ := v
      rw [resOf_some (by omega) hr]
      rw [hr] at h
      obtain ⟨hb, v, he, hv⟩ := h
      exact ⟨hb, v, he, hv⟩
theorem lst_nil (lo size : Nat) (w : World) : Lst lo size none 0 0 [] w := ⟨Reads.none_, fun h => absurd h (by decide), by decide, by unfold maxLen; omega⟩
theorem xu_conf (A : Option Addr) (n cap : Nat) (bs : List Nat) (at_ : Int) (w : World) (HI : Hid (InB w A n cap bs)) : Calls Tryz.prog 34 #[.slice A n cap, .int .i64 at_] w (RetU (resOf (rConf bs) (([] : List Int), ([] : List Int)) n at_) (vConf w.heap.size) w) :=
  retU_of (fun _ => ⟨none, 0, none, 0, rfl, lst_nil _ _ _, lst_nil _ _ _, ints0_ok, ints0_ok⟩) (fun p e hp => by rw [e]; exact conf_read A n cap bs p w HI hp) (fun h => conf_read_bad A n cap at_ w HI.out.reach h)
theorem xu_cmd (A : Option Addr) (n cap : Nat) (bs : List Nat) (at_ : Int) (w : World) (HI : Hid (InB w A n cap bs)) : Calls Tryz.prog 17 #[.slice A n cap, .int .i64 at_] w (RetU (resOf (rCmd bs) cmd0 n at_) (vCmd w.heap.size) w) :=
  retU_of (fun _ => ⟨none, 0, rfl, lst_nil _ _ _, cmd0_ok⟩) (fun p e hp => by rw [e]; exact cmd_read A n cap bs p w HI hp) (fun h => cmd_read_bad A n cap at_ w HI.out.reach h)
theorem xu_entry (A : Option Addr) (n cap : Nat) (bs : List Nat) (at_ : Int) (w : World) (HI : Hid (InB w A n cap bs)) : Calls Tryz.prog 5 #[.slice A n cap, .int .i64 at_] w (RetU (resOf (rEnt bs) ent0 n at_) (vEnt w.heap.size) w) :=
  retU_of (fun _ => ⟨none, 0, none, 0, none, 0, rfl, lst_nil _ _ _, lst_nil _ _ _, lst_nil _ _ _, ent0_ok⟩) (fun p e hp => by rw [e]; exact ent_read A n cap bs p w HI hp) (fun h => ent_read_bad A n cap at_ w HI.out.reach h)
theorem pInt_pos (x : Int) : 0 < (pInt x).length := putN_pos _
end Go.Proofs.YthgiafjiemiifaaGreat
end
section
namespace Go.Proofs.YthgiafjiemiifaaGreat
open Go.RowKit OctMath
set_option linter.unusedVariables false
/-- x, put as ys, is read again. -/
structure Got {α : Type} (r : List Nat → Rd α) (x : α) (ys : List Nat) : Prop where
  rd : ∀ pre rest, r (pre ++ (ys ++ rest)) pre.length = some (x, (pre ++ ys).length)
theorem Got.pure {α : Type} (x : α) : Got (fun _ => Rd.pure x) x [] := ⟨fun pre rest => by simp [Rd.pure]⟩
theorem Got.bind {α β : Type} {r : List Nat → Rd α} {f : List Nat → α → Rd β} {x : α} {y : β} {ys zs : List Nat} (h : Got r x ys) (k : Got (fun bs => f bs x) y zs) : Got (fun bs => (r bs).bind (f bs)) y (ys ++ zs) := by
  refine ⟨fun pre rest => ?_⟩
  have e1 : pre ++ ((ys ++ zs) ++ rest) = pre ++ (ys ++ (zs ++ rest)) := by simp only [List.append_assoc]
  have e2 : pre ++ (ys ++ (zs ++ rest)) = (pre ++ ys) ++ (zs ++ rest) := by simp only [List.append_assoc]
  have h1 := h.rd pre (zs ++ rest)
  have h2 := k.rd (pre ++ ys) rest
  show ((r _).bind (f _)) pre.length = _
  rw [e1, Rd.bind_some h1, e2, h2, List.append_assoc]
theorem Got.last {α β : Type} {r : List Nat → Rd α} {f : α → β} {x : α} {ys : List Nat} (h : Got r x ys) : Got (fun bs => (r bs).bind fun x => Rd.pure (f x)) (f x) ys := by
  have := h.bind (f := fun _ x => Rd.pure (f x)) (Got.pure (f x))
  rwa [List.append_nil] at this
theorem got_num {n : Nat} (hn : n < 18446744073709551616) : Got rNum n (putN n) := by
  refine ⟨fun pre rest => ?_⟩
  have h := rdN_put pre n rest hn
  show (if (rdN (pre ++ (putN n ++ rest)) pre.length).2.2 = 0 then _ else _) = _
  rw [h, if_pos rfl, List.length_append]
  rfl
theorem got_int {x : Int} (h : I64 x) : Got rInt x (pInt x) := by
  refine ⟨fun pre rest => ?_⟩
  have h1 := (got_num (zz_lt h.1 h.2)).rd pre rest
  unfold rInt pInt
  rw [h1]
  simp only [Option.map_some, unz_zz]
theorem got_word {n : Nat} (hn : n < 4294967296) : Got rWord n (putN n) := by
  refine ⟨fun pre rest => ?_⟩
  have h1 := (got_num (n := n) (by omega)).rd pre rest
  unfold rWord
  rw [h1]
  simp only
  rw [if_pos hn]
theorem got_flag (b : Bool) : Got rFlag b (pFlag b) := by
  refine ⟨fun pre rest => ?_⟩
  have e : (pre ++ (pFlag b ++ rest)).getD pre.length 0 = (if b then 1 else 0) := by
    rw [List.getD_eq_getElem?_getD, List.getElem?_append_right (Nat.le_refl _), Nat.sub_self]
    rfl
  unfold rFlag
  rw [e, if_pos ⟨by rw [List.length_append]; unfold pFlag; simp, by split <;> omega⟩, List.length_append]
  cases b <;> rfl
theorem got_text {x : List Nat} (h : x.length ≤ 1048576) : Got rText x (pText x) := by
  refine ⟨fun pre rest => ?_⟩
  have h1 := rdN_put pre x.length (x ++ rest) (by omega)
  have e : pre ++ (pText x ++ rest) = pre ++ (putN x.length ++ (x ++ rest)) := by unfold pText; simp only [List.append_assoc]
  have h2 : rdB (pre ++ (pText x ++ rest)) pre.length 1048576 = (x, (((pre ++ pText x).length : Nat) : Int), 0) := by
    unfold rdB
    rw [e, h1]
    show (if (0 : Nat) ≠ 0 then _ else _ : List Nat × Int × Nat) = _
    rw [if_neg (by simp)]
    show (if _ ∨ _ ∨ _ then _ else _ : List Nat × Int × Nat) = _
    rw [if_neg (by simp only [List.length_append]; omega)]
    have e3 : ((pre ++ (putN x.length ++ (x ++ rest))).drop (pre.length + (putN x.length).length)).take x.length = x := by
      rw [← List.append_assoc, show pre.length + (putN x.length).length = (pre ++ putN x.length).length from by simp, List.drop_left, List.take_left]
    refine Prod.ext e3 (Prod.ext ?_ rfl)
    unfold pText
    simp only [List.length_append]
    omega
  show (if (rdB (pre ++ (pText x ++ rest)) pre.length 1048576).2.2 = 0 then _ else _) = _
  rw [h2, if_pos rfl]
  rfl
theorem got_times {α : Type} {one : List Nat → Rd α} {put : α → List Nat} : ∀ (n : Nat) (l : List α), l.length = n → (∀ x ∈ l, Got one x (put x)) → Got (fun bs => rTimes (one bs) n) l (l.flatMap put)
  | 0, l, hl, _ => by
    obtain rfl := List.eq_nil_of_length_eq_zero hl
    exact Got.pure []
  | n + 1, l, hl, h => by
    have hne : l ≠ [] := fun e => by rw [e] at hl; simp at hl
    have e := List.dropLast_concat_getLast hne
    have h1 := got_times n l.dropLast (by rw [List.length_dropLast]; omega) (fun x hx => h x ((List.dropLast_sublist l).subset hx))
    have h2 := h (l.getLast hne) (List.getLast_mem hne)
    have h3 := (h1.bind (f := fun bs l => (one bs).bind fun x => Rd.pure (l ++ [x])) (h2.last (f := fun x => l.dropLast ++ [x])))
    rw [e] at h3
    have e2 : l.flatMap put = l.dropLast.flatMap put ++ put (l.getLast hne) := by
      conv => lhs; rw [← e]
      rw [List.flatMap_append]
      simp
    rw [e2]
    exact h3
theorem flat_ge {α : Type} {put : α → List Nat} (h : ∀ x, 0 < (put x).length) : ∀ l : List α, l.length ≤ (l.flatMap put).length
  | [] => by simp
  | x :: l => by
    have h1 := h x
    have h2 := flat_ge h l
    rw [List.flatMap_cons, List.length_append, List.length_cons]
    omega
theorem got_list {α : Type} {one : List Nat → Rd α} {put : α → List Nat} {l : List α} (hp : ∀ x, 0 < (put x).length) (hl : l.length ≤ 1048576) (h : ∀ x ∈ l, Got one x (put x)) : Got (fun bs => rList bs (one bs)) l (pList put l) := by
  refine ⟨fun pre rest => ?_⟩
  have h1 := (got_num (n := l.length) (by omega)).rd pre (l.flatMap put ++ rest)
  have e1 : pre ++ (pList put l ++ rest) = pre ++ (putN l.length ++ (l.flatMap put ++ rest)) := by unfold pList; simp only [List.append_assoc]
  have e2 : pre ++ (putN l.length ++ (l.flatMap put ++ rest)) = (pre ++ putN l.length) ++ (l.flatMap put ++ rest) := by simp only [List.append_assoc]
  have h2 := (got_times l.length l rfl h).rd (pre ++ putN l.length) rest
  unfold rList
  rw [e1, Rd.bind_some h1]
  rw [if_neg]
  · rw [e2, h2]
    unfold pList
    simp only [List.append_assoc]
  · have := flat_ge hp l
    simp only [List.length_append]
    omega
theorem pMem_pos (x : Int × Int) : 0 < (pMem x).length := by unfold pMem; rw [List.length_append]; have := pInt_pos x.1; omega
theorem got_ints {l : List Int} (h : IntsOk l) : Got (fun bs => rList bs (rInt bs)) l (pList pInt l) := got_list pInt_pos h.2 (fun x hx => got_int (h.1 x hx))
theorem got_mem {x : Int × Int} (h : MemOk x) : Got rMem x (pMem x) := (got_int h.1).bind (f := fun bs i => (rInt bs).bind fun w => Rd.pure (i, w)) ((got_int h.2).last)
theorem got_mems {l : List (Int × Int)} (h : (∀ y ∈ l, MemOk y) ∧ l.length ≤ 1048576) : Got (fun bs => rList bs (rMem bs)) l (pList pMem l) := got_list pMem_pos h.2 (fun x hx => got_mem (h.1 x hx))
theorem got_map {x : Nat × List (Int × Int)} (h : MapOk x) : Got rMap x (pMap x) := (got_num h.1).bind (f := fun bs e => (rList bs (rMem bs)).bind fun l => Rd.pure (e, l)) ((got_mems h.2).last)
theorem got_conf {x : List Int × List Int} (h : IntsOk x.1 ∧ IntsOk x.2) : Got rConf x (pConf x) := (got_ints h.1).bind (f := fun bs v => (rList bs (rInt bs)).bind fun l => Rd.pure (v, l)) ((got_ints h.2).last)
theorem got_id {x : IdT} (h : IdOk x) : Got rId x (pId x) :=
  (got_num h.1).bind (f := fun bs v => (rInt bs).bind fun i => (rNum bs).bind fun e => Rd.pure (⟨v, i, e⟩ : IdT)) ((got_int h.2.1).bind (f := fun bs i => (rNum bs).bind fun e => Rd.pure (⟨x.ver, i, e⟩ : IdT)) ((got_num h.2.2).last))
theorem got_cmd {x : CmdT} (h : CmdOk x) : Got rCmd x (pCmd x) := by
  refine (got_int h.kind).bind (f := fun bs x1 => _) ?_
  refine (got_num h.client).bind (f := fun bs x2 => _) ?_
  refine (got_num h.seq).bind (f := fun bs x3 => _) ?_
  refine (got_text h.key.2).bind (f := fun bs x4 => _) ?_
  refine (got_int h.size).bind (f := fun bs x5 => _) ?_
  refine (got_word h.sum).bind (f := fun bs x6 => _) ?_
  refine (got_num h.version).bind (f := fun bs x7 => _) ?_
  refine (got_num h.epoch).bind (f := fun bs x8 => _) ?_
  refine (got_int h.group).bind (f := fun bs x9 => _) ?_
  refine (got_int h.node).bind (f := fun bs x10 => _) ?_
  refine (got_flag x.up).bind (f := fun bs x11 => _) ?_
  refine (got_id h.id_).bind (f := fun bs x12 => _) ?_
  exact (got_map h.map_).last
theorem got_ent {x : EntT} (h : EntOk x) : Got rEnt x (pEnt x) := by
  refine (got_num h.index).bind (f := fun bs x1 => _) ?_
  refine (got_num h.term).bind (f := fun bs x2 => _) ?_
  refine (got_int h.kind).bind (f := fun bs x3 => _) ?_
  refine (got_cmd h.cmd).bind (f := fun bs x4 => _) ?_
  exact (got_conf (x := (x.voters, x.learners)) ⟨h.vot, h.lea⟩).last
end Go.Proofs.YthgiafjiemiifaaGreat
end
section
namespace Go.Proofs.YthgiafjiemiifaaGreat
open Go.RowKit OctMath
set_option linter.unusedVariables false
set_option linter.unusedSimpArgs false
structure ObjT where
  key : List Nat
  version : Nat
  size : Int
  sum : Nat
  group : Int
  epoch : Nat
  nodes : List Int
structure IntT where
  obj : ObjT
  client : Nat
  seq : Nat
structure SesT where
  client : Nat
  seq : Nat
  opn : Bool
  version : Nat
  code : Int
structure WasT where
  id : IdT
  node : Int
structure MetT where
  k : Int
  n : Int
  groups : Int
  mep : Nat
  mem : List (Int × Int)
  nep : Nat
  nem : List (Int × Int)
  cut : List Int
  objs : List ObjT
  ints : List IntT
  sess : List SesT
  wass : List WasT
  down : List Int
  last : Nat
structure ObjOk (x : ObjT) : Prop where
  key : (∀ y ∈ x.key, y < 256) ∧ x.key.length ≤ 1048576
  version : x.version < 18446744073709551616
  size : I64 x.size
  sum : x.sum < 4294967296
  group : I64 x.group
  epoch : x.epoch < 18446744073709551616
  nodes : IntsOk x.nodes
structure InteOk (x : IntT) : Prop where
  obj : ObjOk x.obj
  client : x.client < 18446744073709551616
  seq : x.seq < 18446744073709551616
structure SesOk (x : SesT) : Prop where
  client : x.client < 18446744073709551616
  seq : x.seq < 18446744073709551616
  version : x.version < 18446744073709551616
  code : I64 x.code
structure WasOk (x : WasT) : Prop where
  id : IdOk x.id
  node : I64 x.node
structure MetOk (x : MetT) : Prop where
  k : I64 x.k
  n : I64 x.n
  groups : I64 x.groups
  map : MapOk (x.mep, x.mem)
  next : MapOk (x.nep, x.nem)
  cut : IntsOk x.cut
  objs : (∀ y ∈ x.objs, ObjOk y) ∧ x.objs.length ≤ 1048576
  ints : (∀ y ∈ x.ints, InteOk y) ∧ x.ints.length ≤ 1048576
  sess : (∀ y ∈ x.sess, SesOk y) ∧ x.sess.length ≤ 1048576
  wass : (∀ y ∈ x.wass, WasOk y) ∧ x.wass.length ≤ 1048576
  down : IntsOk x.down
  last : x.last < 18446744073709551616
def rObj (bs : List Nat) : Rd ObjT := (rText bs).bind fun x1 => (rNum bs).bind fun x2 => (rInt bs).bind fun x3 => (rWord bs).bind fun x4 => (rInt bs).bind fun x5 => (rNum bs).bind fun x6 => (rList bs (rInt bs)).bind fun x7 => Rd.pure ⟨x1, x2, x3, x4, x5, x6, x7⟩
def rIntent (bs : List Nat) : Rd IntT := (rObj bs).bind fun x1 => (rNum bs).bind fun x2 => (rNum bs).bind fun x3 => Rd.pure ⟨x1, x2, x3⟩
def rSes (bs : List Nat) : Rd SesT := (rNum bs).bind fun x1 => (rNum bs).bind fun x2 => (rFlag bs).bind fun x3 => (rNum bs).bind fun x4 => (rInt bs).bind fun x5 => Rd.pure ⟨x1, x2, x3, x4, x5⟩
def rWas (bs : List Nat) : Rd WasT := (rId bs).bind fun x1 => (rInt bs).bind fun x2 => Rd.pure ⟨x1, x2⟩
def rMet (bs : List Nat) : Rd MetT := (rInt bs).bind fun x1 => (rInt bs).bind fun x2 => (rInt bs).bind fun x3 => (rMap bs).bind fun x4 => (rMap bs).bind fun x5 => (rList bs (rInt bs)).bind fun x6 => (rList bs (rObj bs)).bind fun x7 => (rList bs (rIntent bs)).bind fun x8 => (rList bs (rSes bs)).bind fun x9 => (rList bs (rWas bs)).bind fun x10 => (rList bs (rInt bs)).bind fun x11 => (rNum bs).bind fun x12 => Rd.pure ⟨x1, x2, x3, x4.1, x4.2, x5.1, x5.2, x6, x7, x8, x9, x10, x11, x12⟩
def pObj (x : ObjT) : List Nat := pText x.key ++ (putN x.version ++ (pInt x.size ++ (putN x.sum ++ (pInt x.group ++ (putN x.epoch ++ pList pInt x.nodes)))))
def pIntent (x : IntT) : List Nat := pObj x.obj ++ (putN x.client ++ putN x.seq)
def pSes (x : SesT) : List Nat := putN x.client ++ (putN x.seq ++ (pFlag x.opn ++ (putN x.version ++ pInt x.code)))
def pWas (x : WasT) : List Nat := pId x.id ++ pInt x.node
def pMet (x : MetT) : List Nat := pInt x.k ++ (pInt x.n ++ (pInt x.groups ++ (pMap (x.mep, x.mem) ++ (pMap (x.nep, x.nem) ++ (pList pInt x.cut ++ (pList pObj x.objs ++ (pList pIntent x.ints ++ (pList pSes x.sess ++ (pList pWas x.wass ++ (pList pInt x.down ++ putN x.last))))))))))
theorem pObj_pos (x : ObjT) : 0 < (pObj x).length := by unfold pObj pText; simp only [List.length_append]; have := putN_pos x.key.length; omega
theorem pIntent_pos (x : IntT) : 0 < (pIntent x).length := by unfold pIntent; simp only [List.length_append]; have := pObj_pos x.obj; omega
theorem pSes_pos (x : SesT) : 0 < (pSes x).length := by unfold pSes; simp only [List.length_append]; have := putN_pos x.client; omega
theorem pWas_pos (x : WasT) : 0 < (pWas x).length := by unfold pWas; simp only [List.length_append]; have := pInt_pos x.node; omega
theorem got_obj {x : ObjT} (h : ObjOk x) : Got rObj x (pObj x) := by
  refine (got_text h.key.2).bind (f := fun bs x1 => _) ?_
  refine (got_num h.version).bind (f := fun bs x2 => _) ?_
  refine (got_int h.size).bind (f := fun bs x3 => _) ?_
  refine (got_word h.sum).bind (f := fun bs x4 => _) ?_
  refine (got_int h.group).bind (f := fun bs x5 => _) ?_
  refine (got_num h.epoch).bind (f := fun bs x6 => _) ?_
  exact (got_ints h.nodes).last
theorem got_intent {x : IntT} (h : InteOk x) : Got rIntent x (pIntent x) := by
  refine (got_obj h.obj).bind (f := fun bs x1 => _) ?_
  refine (got_num h.client).bind (f := fun bs x2 => _) ?_
  exact (got_num h.seq).last
theorem got_ses {x : SesT} (h : SesOk x) : Got rSes x (pSes x) := by
  refine (got_num h.client).bind (f := fun bs x1 => _) ?_
  refine (got_num h.seq).bind (f := fun bs x2 => _) ?_
  refine (got_flag x.opn).bind (f := fun bs x3 => _) ?_
  refine (got_num h.version).bind (f := fun bs x4 => _) ?_
  exact (got_int h.code).last
theorem got_was {x : WasT} (h : WasOk x) : Got rWas x (pWas x) := by
  refine (got_id h.id).bind (f := fun bs x1 => _) ?_
  exact (got_int h.node).last
theorem got_met {x : MetT} (h : MetOk x) : Got rMet x (pMet x) := by
  refine (got_int h.k).bind (f := fun bs x1 => _) ?_
  refine (got_int h.n).bind (f := fun bs x2 => _) ?_
  refine (got_int h.groups).bind (f := fun bs x3 => _) ?_
  refine (got_map h.map).bind (f := fun bs x4 => _) ?_
  refine (got_map h.next).bind (f := fun bs x5 => _) ?_
  refine (got_ints h.cut).bind (f := fun bs x6 => _) ?_
  refine (got_list (one := rObj) pObj_pos h.objs.2 (fun y hy => got_obj (h.objs.1 y hy))).bind (f := fun bs x7 => _) ?_
  refine (got_list (one := rIntent) pIntent_pos h.ints.2 (fun y hy => got_intent (h.ints.1 y hy))).bind (f := fun bs x8 => _) ?_
  refine (got_list (one := rSes) pSes_pos h.sess.2 (fun y hy => got_ses (h.sess.1 y hy))).bind (f := fun bs x9 => _) ?_
  refine (got_list (one := rWas) pWas_pos h.wass.2 (fun y hy => got_was (h.wass.1 y hy))).bind (f := fun bs x10 => _) ?_
  refine (got_ints h.down).bind (f := fun bs x11 => _) ?_
  exact (got_num h.last).last
theorem pObj_len {x : ObjT} (h : ObjOk x) : (pObj x).length ≤ 11534500 := by
  have h1 := pText_len h.key
  have h2 := putN_len10 h.version
  have h3 := pInt_len h.size
  have h4 := putN_len10 (n := x.sum) (by have := h.sum; omega)
  have h5 := pInt_len h.group
  have h6 := putN_len10 h.epoch
  have h7 := pInts_len h.nodes
  unfold pObj
  simp only [List.length_append]
  omega
theorem pIntent_len {x : IntT} (h : InteOk x) : (pIntent x).length ≤ 11534520 := by
  have h1 := pObj_len h.obj
  have h2 := putN_len10 h.client
  have h3 := putN_len10 h.seq
  unfold pIntent
  simp only [List.length_append]
  omega
theorem pSes_len {x : SesT} (h : SesOk x) : (pSes x).length ≤ 50 := by
  have h1 := putN_len10 h.client
  have h2 := putN_len10 h.seq
  have h3 := pFlag_len x.opn
  have h4 := putN_len10 h.version
  have h5 := pInt_len h.code
  unfold pSes
  simp only [List.length_append]
  omega
theorem pWas_len {x : WasT} (h : WasOk x) : (pWas x).length ≤ 40 := by
  have h1 := pId_len h.id
  have h2 := pInt_len h.node
  unfold pWas
  simp only [List.length_append]
  omega
end Go.Proofs.YthgiafjiemiifaaGreat
end
