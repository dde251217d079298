/-
  WHAT IS PUT IS READ AGAIN, whatever stands ahead and behind: plain.
-/
import Derived.Test.YthgiafjiemiifaaPaL1
namespace Go.Proofs.Ythgiafjiemiifaa
open Go.RowKit OctMath
set_option linter.unusedVariables false
/-- x, put as ys, is read again. -/
structure Got {α : Type} (r : List Nat → Rd α) (x : α) (ys : List Nat) : Prop where
  rd : ∀ pre rest, r (pre ++ (ys ++ rest)) pre.length = some (x, (pre ++ ys).length)
theorem Got.pure {α : Type} (x : α) : Got (fun _ => Rd.pure x) x [] := ⟨fun pre rest => by simp [Rd.pure]⟩
theorem Got.bind {α β : Type} {r : List Nat → Rd α} {f : List Nat → α → Rd β} {x : α} {y : β} {ys zs : List Nat} (h : Got r x ys) (k : Got (fun bs => f bs x) y zs) : Got (fun bs => (r bs).bind (f bs)) y (ys ++ zs) := by
  refine ⟨fun pre rest => ?_⟩
  have e1 : pre ++ ((ys ++ zs) ++ rest) = pre ++ (ys ++ (zs ++ rest)) := by simp only [List.append_assoc]
  have e2 : pre ++ (ys ++ (zs ++ rest)) = (pre ++ ys) ++ (zs ++ rest) := by simp only [List.append_assoc]
  have h1 := h.rd pre (zs ++ rest)
  have h2 := k.rd (pre ++ ys) rest
  show ((r _).bind (f _)) pre.length = _
  rw [e1, Rd.bind_some h1, e2, h2, List.append_assoc]
theorem Got.last {α β : Type} {r : List Nat → Rd α} {f : α → β} {x : α} {ys : List Nat} (h : Got r x ys) : Got (fun bs => (r bs).bind fun x => Rd.pure (f x)) (f x) ys := by
  have := h.bind (f := fun _ x => Rd.pure (f x)) (Got.pure (f x))
  rwa [List.append_nil] at this
theorem got_num {n : Nat} (hn : n < 18446744073709551616) : Got rNum n (putN n) := by
  refine ⟨fun pre rest => ?_⟩
  have h := rdN_put pre n rest hn
  show (if (rdN (pre ++ (putN n ++ rest)) pre.length).2.2 = 0 then _ else _) = _
  rw [h, if_pos rfl, List.length_append]
  rfl
theorem got_int {x : Int} (h : I64 x) : Got rInt x (pInt x) := by
  refine ⟨fun pre rest => ?_⟩
  have h1 := (got_num (zz_lt h.1 h.2)).rd pre rest
  unfold rInt pInt
  rw [h1]
  simp only [Option.map_some, unz_zz]
theorem got_word {n : Nat} (hn : n < 4294967296) : Got rWord n (putN n) := by
  refine ⟨fun pre rest => ?_⟩
  have h1 := (got_num (n := n) (by omega)).rd pre rest
  unfold rWord
  rw [h1]
  simp only
  rw [if_pos hn]
theorem got_flag (b : Bool) : Got rFlag b (pFlag b) := by
  refine ⟨fun pre rest => ?_⟩
  have e : (pre ++ (pFlag b ++ rest)).getD pre.length 0 = (if b then 1 else 0) := by
    rw [List.getD_eq_getElem?_getD, List.getElem?_append_right (Nat.le_refl _), Nat.sub_self]
    rfl
  unfold rFlag
  rw [e, if_pos ⟨by rw [List.length_append]; unfold pFlag; simp, by split <;> omega⟩, List.length_append]
  cases b <;> rfl
theorem got_text {x : List Nat} (h : x.length ≤ 1048576) : Got rText x (pText x) := by
  refine ⟨fun pre rest => ?_⟩
  have h1 := rdN_put pre x.length (x ++ rest) (by omega)
  have e : pre ++ (pText x ++ rest) = pre ++ (putN x.length ++ (x ++ rest)) := by unfold pText; simp only [List.append_assoc]
  have h2 : rdB (pre ++ (pText x ++ rest)) pre.length 1048576 = (x, (((pre ++ pText x).length : Nat) : Int), 0) := by
    unfold rdB
    rw [e, h1]
    show (if (0 : Nat) ≠ 0 then _ else _ : List Nat × Int × Nat) = _
    rw [if_neg (by simp)]
    show (if _ ∨ _ ∨ _ then _ else _ : List Nat × Int × Nat) = _
    rw [if_neg (by simp only [List.length_append]; omega)]
    have e3 : ((pre ++ (putN x.length ++ (x ++ rest))).drop (pre.length + (putN x.length).length)).take x.length = x := by
      rw [← List.append_assoc, show pre.length + (putN x.length).length = (pre ++ putN x.length).length from by simp, List.drop_left, List.take_left]
    refine Prod.ext e3 (Prod.ext ?_ rfl)
    unfold pText
    simp only [List.length_append]
    omega
  show (if (rdB (pre ++ (pText x ++ rest)) pre.length 1048576).2.2 = 0 then _ else _) = _
  rw [h2, if_pos rfl]
  rfl
theorem got_times {α : Type} {one : List Nat → Rd α} {put : α → List Nat} : ∀ (n : Nat) (l : List α), l.length = n → (∀ x ∈ l, Got one x (put x)) → Got (fun bs => rTimes (one bs) n) l (l.flatMap put)
  | 0, l, hl, _ => by
    obtain rfl := List.eq_nil_of_length_eq_zero hl
    exact Got.pure []
  | n + 1, l, hl, h => by
    have hne : l ≠ [] := fun e => by rw [e] at hl; simp at hl
    have e := List.dropLast_concat_getLast hne
    have h1 := got_times n l.dropLast (by rw [List.length_dropLast]; omega) (fun x hx => h x ((List.dropLast_sublist l).subset hx))
    have h2 := h (l.getLast hne) (List.getLast_mem hne)
    have h3 := (h1.bind (f := fun bs l => (one bs).bind fun x => Rd.pure (l ++ [x])) (h2.last (f := fun x => l.dropLast ++ [x])))
    rw [e] at h3
    have e2 : l.flatMap put = l.dropLast.flatMap put ++ put (l.getLast hne) := by
      conv => lhs; rw [← e]
      rw [List.flatMap_append]
      simp
    rw [e2]
    exact h3
theorem flat_ge {α : Type} {put : α → List Nat} (h : ∀ x, 0 < (put x).length) : ∀ l : List α, l.length ≤ (l.flatMap put).length
  | [] => by simp
  | x :: l => by
    have h1 := h x
    have h2 := flat_ge h l
    rw [List.flatMap_cons, List.length_append, List.length_cons]
    omega
theorem got_list {α : Type} {one : List Nat → Rd α} {put : α → List Nat} {l : List α} (hp : ∀ x, 0 < (put x).length) (hl : l.length ≤ 1048576) (h : ∀ x ∈ l, Got one x (put x)) : Got (fun bs => rList bs (one bs)) l (pList put l) := by
  refine ⟨fun pre rest => ?_⟩
  have h1 := (got_num (n := l.length) (by omega)).rd pre (l.flatMap put ++ rest)
  have e1 : pre ++ (pList put l ++ rest) = pre ++ (putN l.length ++ (l.flatMap put ++ rest)) := by unfold pList; simp only [List.append_assoc]
  have e2 : pre ++ (putN l.length ++ (l.flatMap put ++ rest)) = (pre ++ putN l.length) ++ (l.flatMap put ++ rest) := by simp only [List.append_assoc]
  have h2 := (got_times l.length l rfl h).rd (pre ++ putN l.length) rest
  unfold rList
  rw [e1, Rd.bind_some h1]
  rw [if_neg]
  · rw [e2, h2]
    unfold pList
    simp only [List.append_assoc]
  · have := flat_ge hp l
    simp only [List.length_append]
    omega
theorem pMem_pos (x : Int × Int) : 0 < (pMem x).length := by unfold pMem; rw [List.length_append]; have := pInt_pos x.1; omega
theorem got_ints {l : List Int} (h : IntsOk l) : Got (fun bs => rList bs (rInt bs)) l (pList pInt l) := got_list pInt_pos h.2 (fun x hx => got_int (h.1 x hx))
theorem got_mem {x : Int × Int} (h : MemOk x) : Got rMem x (pMem x) := (got_int h.1).bind (f := fun bs i => (rInt bs).bind fun w => Rd.pure (i, w)) ((got_int h.2).last)
theorem got_mems {l : List (Int × Int)} (h : (∀ y ∈ l, MemOk y) ∧ l.length ≤ 1048576) : Got (fun bs => rList bs (rMem bs)) l (pList pMem l) := got_list pMem_pos h.2 (fun x hx => got_mem (h.1 x hx))
theorem got_map {x : Nat × List (Int × Int)} (h : MapOk x) : Got rMap x (pMap x) := (got_num h.1).bind (f := fun bs e => (rList bs (rMem bs)).bind fun l => Rd.pure (e, l)) ((got_mems h.2).last)
theorem got_conf {x : List Int × List Int} (h : IntsOk x.1 ∧ IntsOk x.2) : Got rConf x (pConf x) := (got_ints h.1).bind (f := fun bs v => (rList bs (rInt bs)).bind fun l => Rd.pure (v, l)) ((got_ints h.2).last)
theorem got_id {x : IdT} (h : IdOk x) : Got rId x (pId x) :=
  (got_num h.1).bind (f := fun bs v => (rInt bs).bind fun i => (rNum bs).bind fun e => Rd.pure (⟨v, i, e⟩ : IdT)) ((got_int h.2.1).bind (f := fun bs i => (rNum bs).bind fun e => Rd.pure (⟨x.ver, i, e⟩ : IdT)) ((got_num h.2.2).last))
theorem got_cmd {x : CmdT} (h : CmdOk x) : Got rCmd x (pCmd x) := by
  refine (got_int h.kind).bind (f := fun bs x1 => _) ?_
  refine (got_num h.client).bind (f := fun bs x2 => _) ?_
  refine (got_num h.seq).bind (f := fun bs x3 => _) ?_
  refine (got_text h.key.2).bind (f := fun bs x4 => _) ?_
  refine (got_int h.size).bind (f := fun bs x5 => _) ?_
  refine (got_word h.sum).bind (f := fun bs x6 => _) ?_
  refine (got_num h.version).bind (f := fun bs x7 => _) ?_
  refine (got_num h.epoch).bind (f := fun bs x8 => _) ?_
  refine (got_int h.group).bind (f := fun bs x9 => _) ?_
  refine (got_int h.node).bind (f := fun bs x10 => _) ?_
  refine (got_flag x.up).bind (f := fun bs x11 => _) ?_
  refine (got_id h.id_).bind (f := fun bs x12 => _) ?_
  exact (got_map h.map_).last
theorem got_ent {x : EntT} (h : EntOk x) : Got rEnt x (pEnt x) := by
  refine (got_num h.index).bind (f := fun bs x1 => _) ?_
  refine (got_num h.term).bind (f := fun bs x2 => _) ?_
  refine (got_int h.kind).bind (f := fun bs x3 => _) ?_
  refine (got_cmd h.cmd).bind (f := fun bs x4 => _) ?_
  exact (got_conf (x := (x.voters, x.learners)) ⟨h.vot, h.lea⟩).last
end Go.Proofs.Ythgiafjiemiifaa
