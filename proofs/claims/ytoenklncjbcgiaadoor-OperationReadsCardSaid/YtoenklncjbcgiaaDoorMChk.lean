/- Plain laws of layer 4: what the document tells of kinds, and which operations may be, is what the program tells. -/
import Derived.Test.YtoenklncjbcgiaaDoorECheck
import Derived.Test.YtoenklncjbcgiaaDoorEKind
import Derived.Test.YtoenklncjbcgiaaDoorPx3
import Derived.Test.YtoenklncjbcgiaaDoorPx3
import Derived.Test.YtoenklncjbcgiaaDoorPx3
import Derived.Test.YtoenklncjbcgiaaDoorPx4
namespace Go.Proofs.YtoenklncjbcgiaaDoor.P
open Go.RowKit Go.Proofs.YtoenklncjbcgiaaDoorW.PrintWords Go.Proofs.YtoenklncjbcgiaaDoorW.PrintLast
set_option linter.unusedVariables false
set_option linter.unusedSimpArgs false

theorem of1 : armisticeref04_of.f 1 = some (1, 1, 0, ⟨#[97, 100, 100]⟩, true) := by kernel_rfl
theorem of2 : armisticeref04_of.f 2 = some (1, 0, 2, ⟨#[114, 101, 97, 100]⟩, true) := by kernel_rfl
theorem of3 : armisticeref04_of.f 3 = some (2, 1, 1, ⟨#[105, 110, 115, 101, 114, 116]⟩, true) := by kernel_rfl
theorem of4 : armisticeref04_of.f 4 = some (2, 1, 1, ⟨#[114, 101, 109, 111, 118, 101]⟩, true) := by kernel_rfl
theorem of5 : armisticeref04_of.f 5 = some (2, 1, 1, ⟨#[104, 97, 115]⟩, true) := by kernel_rfl
theorem of6 : armisticeref04_of.f 6 = some (2, 0, 3, ⟨#[115, 105, 122, 101]⟩, true) := by kernel_rfl
theorem of7 : armisticeref04_of.f 7 = some (3, 2, 4, ⟨#[112, 117, 116]⟩, true) := by kernel_rfl
theorem of8 : armisticeref04_of.f 8 = some (3, 1, 4, ⟨#[103, 101, 116]⟩, true) := by kernel_rfl
theorem of9 : armisticeref04_of.f 9 = some (3, 1, 4, ⟨#[100, 101, 108]⟩, true) := by kernel_rfl
theorem of10 : armisticeref04_of.f 10 = some (4, 1, 0, ⟨#[101, 110, 113]⟩, true) := by kernel_rfl
theorem of11 : armisticeref04_of.f 11 = some (4, 0, 4, ⟨#[100, 101, 113]⟩, true) := by kernel_rfl
theorem of12 : armisticeref04_of.f 12 = some (4, 0, 3, ⟨#[108, 101, 110]⟩, true) := by kernel_rfl
theorem of13 : armisticeref04_of.f 13 = some (5, 1, 1, ⟨#[100, 101, 112, 111, 115, 105, 116]⟩, true) := by kernel_rfl
theorem of14 : armisticeref04_of.f 14 = some (5, 1, 1, ⟨#[119, 105, 116, 104, 100, 114, 97, 119]⟩, true) := by kernel_rfl
theorem of15 : armisticeref04_of.f 15 = some (5, 0, 3, ⟨#[98, 97, 108, 97, 110, 99, 101]⟩, true) := by kernel_rfl
theorem cases15 (n : Int) (h : 1 ≤ n ∧ n ≤ 15) : n = 1 ∨ n = 2 ∨ n = 3 ∨ n = 4 ∨ n = 5 ∨ n = 6 ∨ n = 7 ∨ n = 8 ∨ n = 9 ∨ n = 10 ∨ n = 11 ∨ n = 12 ∨ n = 13 ∨ n = 14 ∨ n = 15 := by omega
theorem of_out (n : Int) (h : ¬ (1 ≤ n ∧ n ≤ 15)) : armisticeref04_of.f n = some (0, 0, 0, ⟨#[]⟩, false) := by
  unfold armisticeref04_of.f
  by_cases c : n < 1
  · rw [if_pos c]
  · rw [if_neg c, if_pos (by omega)]
/-! ### Kind -/
theorem kindw1 : armisticeref04_Kind.f 30 ⟨#[97, 100, 100]⟩ = operation_Kind.f ⟨#[97, 100, 100]⟩ := by kernel_rfl
theorem kindw2 : armisticeref04_Kind.f 30 ⟨#[114, 101, 97, 100]⟩ = operation_Kind.f ⟨#[114, 101, 97, 100]⟩ := by kernel_rfl
theorem kindw3 : armisticeref04_Kind.f 30 ⟨#[105, 110, 115, 101, 114, 116]⟩ = operation_Kind.f ⟨#[105, 110, 115, 101, 114, 116]⟩ := by kernel_rfl
theorem kindw4 : armisticeref04_Kind.f 30 ⟨#[114, 101, 109, 111, 118, 101]⟩ = operation_Kind.f ⟨#[114, 101, 109, 111, 118, 101]⟩ := by kernel_rfl
theorem kindw5 : armisticeref04_Kind.f 30 ⟨#[104, 97, 115]⟩ = operation_Kind.f ⟨#[104, 97, 115]⟩ := by kernel_rfl
theorem kindw6 : armisticeref04_Kind.f 30 ⟨#[115, 105, 122, 101]⟩ = operation_Kind.f ⟨#[115, 105, 122, 101]⟩ := by kernel_rfl
theorem kindw7 : armisticeref04_Kind.f 30 ⟨#[112, 117, 116]⟩ = operation_Kind.f ⟨#[112, 117, 116]⟩ := by kernel_rfl
theorem kindw8 : armisticeref04_Kind.f 30 ⟨#[103, 101, 116]⟩ = operation_Kind.f ⟨#[103, 101, 116]⟩ := by kernel_rfl
theorem kindw9 : armisticeref04_Kind.f 30 ⟨#[100, 101, 108]⟩ = operation_Kind.f ⟨#[100, 101, 108]⟩ := by kernel_rfl
theorem kindw10 : armisticeref04_Kind.f 30 ⟨#[101, 110, 113]⟩ = operation_Kind.f ⟨#[101, 110, 113]⟩ := by kernel_rfl
theorem kindw11 : armisticeref04_Kind.f 30 ⟨#[100, 101, 113]⟩ = operation_Kind.f ⟨#[100, 101, 113]⟩ := by kernel_rfl
theorem kindw12 : armisticeref04_Kind.f 30 ⟨#[108, 101, 110]⟩ = operation_Kind.f ⟨#[108, 101, 110]⟩ := by kernel_rfl
theorem kindw13 : armisticeref04_Kind.f 30 ⟨#[100, 101, 112, 111, 115, 105, 116]⟩ = operation_Kind.f ⟨#[100, 101, 112, 111, 115, 105, 116]⟩ := by kernel_rfl
theorem kindw14 : armisticeref04_Kind.f 30 ⟨#[119, 105, 116, 104, 100, 114, 97, 119]⟩ = operation_Kind.f ⟨#[119, 105, 116, 104, 100, 114, 97, 119]⟩ := by kernel_rfl
theorem kindw15 : armisticeref04_Kind.f 30 ⟨#[98, 97, 108, 97, 110, 99, 101]⟩ = operation_Kind.f ⟨#[98, 97, 108, 97, 110, 99, 101]⟩ := by kernel_rfl
theorem kind_l0 (s : ByteArray) (T : List S57) (hT : T.length ≤ 100) : ∀ (k i : Nat), T.length < i + k → i ≤ T.length → (∀ x ∈ T, ¬ x.f3.toList = s.toList) → armisticeref04_Kind.l0 k s T i = some (0, 6) := by
  intro k
  induction k with
  | zero => intro i h1 h2; omega
  | succ k ih =>
    intro i h1 h2 hne
    unfold armisticeref04_Kind.l0
    by_cases c : (i : Int) < (T.length : Int)
    · have hi : i < T.length := by omega
      have hm : rd_T57 T i ∈ T := by
        have : rd_T57 T i = T[i] := by
          simp [rd_T57, rdOf, hi]
        rw [this]
        exact List.getElem_mem hi
      rw [if_pos c, if_pos (by omega), if_neg (hne _ hm), show wrap64 ((i : Int) + 1) = ((i + 1 : Nat) : Int) by unfold wrap64; omega]
      exact ih (i + 1) (by omega) (by omega) hne
    · rw [if_neg c]
theorem idx_none (s : ByteArray) (h : ∀ x ∈ kinds15, ¬ x.word = s) : kindIdx s = -1 := by
  have hgen : ∀ (l : List Kd1) (k : Nat), (∀ x ∈ l, ¬ x.word = s) → Lib.idxByFrom (fun _ y => decide (y.word = s)) default l k = -1 := by
    intro l
    induction l with
    | nil => intro k _; rfl
    | cons y l ih =>
      intro k h'
      unfold Lib.idxByFrom
      rw [if_neg (by simp [h' y List.mem_cons_self])]
      exact ih (k + 1) (fun x hx => h' x (List.mem_cons_of_mem _ hx))
  exact hgen _ 0 (fun x hx => h x (List.mem_of_mem_take hx))
theorem toList_ne {a b : ByteArray} (h : ¬ a = b) : ¬ a.toList = b.toList := fun e => by
  have := bl_eq a b
  rw [e] at this
  simp [h] at this
theorem kind_eq (s : ByteArray) : armisticeref04_Kind.f 30 s = operation_Kind.f s := by
  by_cases c1 : ⟨#[97, 100, 100]⟩ = s
  · subst c1
    exact kindw1
  by_cases c2 : ⟨#[114, 101, 97, 100]⟩ = s
  · subst c2
    exact kindw2
  by_cases c3 : ⟨#[105, 110, 115, 101, 114, 116]⟩ = s
  · subst c3
    exact kindw3
  by_cases c4 : ⟨#[114, 101, 109, 111, 118, 101]⟩ = s
  · subst c4
    exact kindw4
  by_cases c5 : ⟨#[104, 97, 115]⟩ = s
  · subst c5
    exact kindw5
  by_cases c6 : ⟨#[115, 105, 122, 101]⟩ = s
  · subst c6
    exact kindw6
  by_cases c7 : ⟨#[112, 117, 116]⟩ = s
  · subst c7
    exact kindw7
  by_cases c8 : ⟨#[103, 101, 116]⟩ = s
  · subst c8
    exact kindw8
  by_cases c9 : ⟨#[100, 101, 108]⟩ = s
  · subst c9
    exact kindw9
  by_cases c10 : ⟨#[101, 110, 113]⟩ = s
  · subst c10
    exact kindw10
  by_cases c11 : ⟨#[100, 101, 113]⟩ = s
  · subst c11
    exact kindw11
  by_cases c12 : ⟨#[108, 101, 110]⟩ = s
  · subst c12
    exact kindw12
  by_cases c13 : ⟨#[100, 101, 112, 111, 115, 105, 116]⟩ = s
  · subst c13
    exact kindw13
  by_cases c14 : ⟨#[119, 105, 116, 104, 100, 114, 97, 119]⟩ = s
  · subst c14
    exact kindw14
  by_cases c15 : ⟨#[98, 97, 108, 97, 110, 99, 101]⟩ = s
  · subst c15
    exact kindw15
  unfold armisticeref04_Kind.f operation_Kind.f armisticeref04_kinds.f
  rw [Option.bind_some, idx_none s (by
    intro x hx
    simp only [kinds15, List.mem_cons, List.not_mem_nil, or_false] at hx
    rcases hx with rfl | rfl | rfl | rfl | rfl | rfl | rfl | rfl | rfl | rfl | rfl | rfl | rfl | rfl | rfl <;> assumption)]
  refine (kind_l0 s _ ?_ 30 0 ?_ ?_ ?_).trans rfl
  · decide
  · decide
  · decide
  · intro x hx
    simp only [List.mem_cons, List.not_mem_nil, or_false] at hx
    rcases hx with rfl | rfl | rfl | rfl | rfl | rfl | rfl | rfl | rfl | rfl | rfl | rfl | rfl | rfl | rfl <;> (apply toList_ne; assumption)
/-! ### Check -/
def refArgs (typ args a b : Int) : Bool := !((decide (args < 1) && a != 0) || (decide (args < 2) && b != 0) || (typ == 5 && (decide (a < 0) || decide (4611686018427387904 < a))))
theorem refcheck (n typ args ret : Int) (word : ByteArray) (h : armisticeref04_of.f n = some (typ, args, ret, word, true)) (g : Nat) (a b rk rn : Int) :
    armisticeref04_Check.f (g + 2) n a b rk rn = if refArgs typ args a b = true then (armisticeref04_returned.f typ args ret word rk rn).bind fun t => if t = true then some 0 else some 9 else some 2 := by
  unfold armisticeref04_Check.f
  rw [h]
  simp only [Option.bind_some]
  unfold armisticeref04_Check.j0 armisticeref04_Check.j1 refArgs
  by_cases c1 : typ = 5 <;> by_cases c2 : a < 0 <;> by_cases c3 : args < 1 <;> by_cases c4 : a = 0 <;> by_cases c5 : args < 2 <;> by_cases c6 : b = 0 <;> by_cases c7 : 4611686018427387904 < a <;> simp [c1, c2, c3, c4, c5, c6, c7] <;> omega
theorem refcheck_out (n : Int) (h : ¬ (1 ≤ n ∧ n ≤ 15)) (g : Nat) (a b rk rn : Int) : armisticeref04_Check.f (g + 2) n a b rk rn = some 6 := by
  unfold armisticeref04_Check.f
  rw [of_out n h]
  simp only [Option.bind_some]
  rw [if_neg (by decide)]
  rfl
theorem ret_done (t a : Int) (w : ByteArray) (rk rn : Int) : armisticeref04_returned.f t a 0 w rk rn = some (rk == 0 && rn == 0) := rfl
theorem ret_truth (t a : Int) (w : ByteArray) (rk rn : Int) : armisticeref04_returned.f t a 1 w rk rn = some (rk == 2 && decide (rn = 0 ∨ rn = 1)) := by
  unfold armisticeref04_returned.f
  rw [if_neg (by decide), if_pos rfl]
  by_cases c : rk = 2 <;> by_cases d : rn = 0 <;> simp [c, d]
  by_cases e : rn = 1 <;> simp [e]
theorem ret_whole (t a : Int) (w : ByteArray) (rk rn : Int) : armisticeref04_returned.f t a 2 w rk rn = some (rk == 2) := rfl
theorem ret_money (t a : Int) (w : ByteArray) (rk rn : Int) : armisticeref04_returned.f t a 3 w rk rn = some (rk == 2 && decide (0 ≤ rn ∧ rn ≤ 4611686018427387904)) := by
  unfold armisticeref04_returned.f
  rw [if_neg (by decide), if_neg (by decide), if_neg (by decide), if_pos rfl]
  by_cases c : rk = 2 <;> by_cases d : 0 ≤ rn <;> simp [c, d]
theorem ret_maybe (t a : Int) (w : ByteArray) (rk rn : Int) : armisticeref04_returned.f t a 4 w rk rn = some (rk == 2 || (rk == 1 && rn == 0)) := by
  unfold armisticeref04_returned.f
  rw [if_neg (by decide), if_neg (by decide), if_neg (by decide), if_neg (by decide)]
  by_cases c : rk = 2 <;> simp [c]
theorem checkn (n typ args ret : Int) (word : ByteArray) (h : armisticeref04_of.f n = some (typ, args, ret, word, true)) (hn : 1 ≤ n ∧ n ≤ 15) (a b rk rn : Int) (R : Bool)
    (hr : armisticeref04_returned.f typ args ret word rk rn = some R) (hR : retP (kdOf n) rk rn = R) (hA : argsP (kdOf n) a b = refArgs typ args a b) (g : Nat) : armisticeref04_Check.f (g + 2) n a b rk rn = operation_Check.f n a b rk rn := by
  rw [refcheck n typ args ret word h, hr]
  unfold operation_Check.f
  rw [if_pos hn, hR, hA]
  cases R <;> cases refArgs typ args a b <;> rfl
theorem fin_bool {x y : Bool} (h : x = true ↔ y = true) : x = y := Bool.eq_iff_iff.2 h

theorem check1 (a b rk rn : Int) (g : Nat) : armisticeref04_Check.f (g + 2) 1 a b rk rn = operation_Check.f 1 a b rk rn := by
  refine checkn 1 _ _ _ _ of1 (by decide) a b rk rn (rk == 0 && rn == 0) (ret_done _ _ _ _ _) ?_ ?_ g
  · show (if rk = 0 ∧ rn = 0 then true else if rk = 1 ∧ rn = 0 then false else (rk == 2 && fnP 63 rn)) = _
    by_cases c0 : rk = 0 ∧ rn = 0
    · rw [if_pos c0]
      obtain ⟨rfl, rfl⟩ := c0
      rfl
    · rw [if_neg c0]
      by_cases c1 : rk = 1 ∧ rn = 0
      · rw [if_pos c1]
        obtain ⟨rfl, rfl⟩ := c1
        rfl
      · rw [if_neg c1]
        refine fin_bool ?_
        simp [fnP_any1, fnP_no, fnP_truth, fnP_above, fnP_money]
        try omega
  · show ((decide ((0 : Int) < 1) || a == 0) && (decide ((1 : Int) < 1) || b == 0) && fnP 62 a) = _
    refine fin_bool ?_
    simp [fnP_any1, fnP_no, fnP_truth, fnP_above, fnP_money, refArgs]
    try omega
theorem check2 (a b rk rn : Int) (g : Nat) : armisticeref04_Check.f (g + 2) 2 a b rk rn = operation_Check.f 2 a b rk rn := by
  refine checkn 2 _ _ _ _ of2 (by decide) a b rk rn (rk == 2) (ret_whole _ _ _ _ _) ?_ ?_ g
  · show (if rk = 0 ∧ rn = 0 then false else if rk = 1 ∧ rn = 0 then false else (rk == 2 && fnP 62 rn)) = _
    by_cases c0 : rk = 0 ∧ rn = 0
    · rw [if_pos c0]
      obtain ⟨rfl, rfl⟩ := c0
      rfl
    · rw [if_neg c0]
      by_cases c1 : rk = 1 ∧ rn = 0
      · rw [if_pos c1]
        obtain ⟨rfl, rfl⟩ := c1
        rfl
      · rw [if_neg c1]
        refine fin_bool ?_
        simp [fnP_any1, fnP_no, fnP_truth, fnP_above, fnP_money]
        try omega
  · show ((decide ((0 : Int) < 0) || a == 0) && (decide ((1 : Int) < 0) || b == 0) && fnP 62 a) = _
    refine fin_bool ?_
    simp [fnP_any1, fnP_no, fnP_truth, fnP_above, fnP_money, refArgs]
    try omega
theorem check3 (a b rk rn : Int) (g : Nat) : armisticeref04_Check.f (g + 2) 3 a b rk rn = operation_Check.f 3 a b rk rn := by
  refine checkn 3 _ _ _ _ of3 (by decide) a b rk rn (rk == 2 && decide (rn = 0 ∨ rn = 1)) (ret_truth _ _ _ _ _) ?_ ?_ g
  · show (if rk = 0 ∧ rn = 0 then false else if rk = 1 ∧ rn = 0 then false else (rk == 2 && fnP 65 rn)) = _
    by_cases c0 : rk = 0 ∧ rn = 0
    · rw [if_pos c0]
      obtain ⟨rfl, rfl⟩ := c0
      rfl
    · rw [if_neg c0]
      by_cases c1 : rk = 1 ∧ rn = 0
      · rw [if_pos c1]
        obtain ⟨rfl, rfl⟩ := c1
        rfl
      · rw [if_neg c1]
        refine fin_bool ?_
        simp [fnP_any1, fnP_no, fnP_truth, fnP_above, fnP_money]
        try omega
  · show ((decide ((0 : Int) < 1) || a == 0) && (decide ((1 : Int) < 1) || b == 0) && fnP 62 a) = _
    refine fin_bool ?_
    simp [fnP_any1, fnP_no, fnP_truth, fnP_above, fnP_money, refArgs]
    try omega
theorem check4 (a b rk rn : Int) (g : Nat) : armisticeref04_Check.f (g + 2) 4 a b rk rn = operation_Check.f 4 a b rk rn := by
  refine checkn 4 _ _ _ _ of4 (by decide) a b rk rn (rk == 2 && decide (rn = 0 ∨ rn = 1)) (ret_truth _ _ _ _ _) ?_ ?_ g
  · show (if rk = 0 ∧ rn = 0 then false else if rk = 1 ∧ rn = 0 then false else (rk == 2 && fnP 65 rn)) = _
    by_cases c0 : rk = 0 ∧ rn = 0
    · rw [if_pos c0]
      obtain ⟨rfl, rfl⟩ := c0
      rfl
    · rw [if_neg c0]
      by_cases c1 : rk = 1 ∧ rn = 0
      · rw [if_pos c1]
        obtain ⟨rfl, rfl⟩ := c1
        rfl
      · rw [if_neg c1]
        refine fin_bool ?_
        simp [fnP_any1, fnP_no, fnP_truth, fnP_above, fnP_money]
        try omega
  · show ((decide ((0 : Int) < 1) || a == 0) && (decide ((1 : Int) < 1) || b == 0) && fnP 62 a) = _
    refine fin_bool ?_
    simp [fnP_any1, fnP_no, fnP_truth, fnP_above, fnP_money, refArgs]
    try omega
theorem check5 (a b rk rn : Int) (g : Nat) : armisticeref04_Check.f (g + 2) 5 a b rk rn = operation_Check.f 5 a b rk rn := by
  refine checkn 5 _ _ _ _ of5 (by decide) a b rk rn (rk == 2 && decide (rn = 0 ∨ rn = 1)) (ret_truth _ _ _ _ _) ?_ ?_ g
  · show (if rk = 0 ∧ rn = 0 then false else if rk = 1 ∧ rn = 0 then false else (rk == 2 && fnP 65 rn)) = _
    by_cases c0 : rk = 0 ∧ rn = 0
    · rw [if_pos c0]
      obtain ⟨rfl, rfl⟩ := c0
      rfl
    · rw [if_neg c0]
      by_cases c1 : rk = 1 ∧ rn = 0
      · rw [if_pos c1]
        obtain ⟨rfl, rfl⟩ := c1
        rfl
      · rw [if_neg c1]
        refine fin_bool ?_
        simp [fnP_any1, fnP_no, fnP_truth, fnP_above, fnP_money]
        try omega
  · show ((decide ((0 : Int) < 1) || a == 0) && (decide ((1 : Int) < 1) || b == 0) && fnP 62 a) = _
    refine fin_bool ?_
    simp [fnP_any1, fnP_no, fnP_truth, fnP_above, fnP_money, refArgs]
    try omega
theorem check6 (a b rk rn : Int) (g : Nat) : armisticeref04_Check.f (g + 2) 6 a b rk rn = operation_Check.f 6 a b rk rn := by
  refine checkn 6 _ _ _ _ of6 (by decide) a b rk rn (rk == 2 && decide (0 ≤ rn ∧ rn ≤ 4611686018427387904)) (ret_money _ _ _ _ _) ?_ ?_ g
  · show (if rk = 0 ∧ rn = 0 then false else if rk = 1 ∧ rn = 0 then false else (rk == 2 && fnP 66 rn)) = _
    by_cases c0 : rk = 0 ∧ rn = 0
    · rw [if_pos c0]
      obtain ⟨rfl, rfl⟩ := c0
      rfl
    · rw [if_neg c0]
      by_cases c1 : rk = 1 ∧ rn = 0
      · rw [if_pos c1]
        obtain ⟨rfl, rfl⟩ := c1
        rfl
      · rw [if_neg c1]
        refine fin_bool ?_
        simp [fnP_any1, fnP_no, fnP_truth, fnP_above, fnP_money]
        try omega
  · show ((decide ((0 : Int) < 0) || a == 0) && (decide ((1 : Int) < 0) || b == 0) && fnP 62 a) = _
    refine fin_bool ?_
    simp [fnP_any1, fnP_no, fnP_truth, fnP_above, fnP_money, refArgs]
    try omega
theorem check7 (a b rk rn : Int) (g : Nat) : armisticeref04_Check.f (g + 2) 7 a b rk rn = operation_Check.f 7 a b rk rn := by
  refine checkn 7 _ _ _ _ of7 (by decide) a b rk rn (rk == 2 || (rk == 1 && rn == 0)) (ret_maybe _ _ _ _ _) ?_ ?_ g
  · show (if rk = 0 ∧ rn = 0 then false else if rk = 1 ∧ rn = 0 then true else (rk == 2 && fnP 62 rn)) = _
    by_cases c0 : rk = 0 ∧ rn = 0
    · rw [if_pos c0]
      obtain ⟨rfl, rfl⟩ := c0
      rfl
    · rw [if_neg c0]
      by_cases c1 : rk = 1 ∧ rn = 0
      · rw [if_pos c1]
        obtain ⟨rfl, rfl⟩ := c1
        rfl
      · rw [if_neg c1]
        refine fin_bool ?_
        simp [fnP_any1, fnP_no, fnP_truth, fnP_above, fnP_money]
        try omega
  · show ((decide ((0 : Int) < 2) || a == 0) && (decide ((1 : Int) < 2) || b == 0) && fnP 62 a) = _
    refine fin_bool ?_
    simp [fnP_any1, fnP_no, fnP_truth, fnP_above, fnP_money, refArgs]
    try omega
theorem check8 (a b rk rn : Int) (g : Nat) : armisticeref04_Check.f (g + 2) 8 a b rk rn = operation_Check.f 8 a b rk rn := by
  refine checkn 8 _ _ _ _ of8 (by decide) a b rk rn (rk == 2 || (rk == 1 && rn == 0)) (ret_maybe _ _ _ _ _) ?_ ?_ g
  · show (if rk = 0 ∧ rn = 0 then false else if rk = 1 ∧ rn = 0 then true else (rk == 2 && fnP 62 rn)) = _
    by_cases c0 : rk = 0 ∧ rn = 0
    · rw [if_pos c0]
      obtain ⟨rfl, rfl⟩ := c0
      rfl
    · rw [if_neg c0]
      by_cases c1 : rk = 1 ∧ rn = 0
      · rw [if_pos c1]
        obtain ⟨rfl, rfl⟩ := c1
        rfl
      · rw [if_neg c1]
        refine fin_bool ?_
        simp [fnP_any1, fnP_no, fnP_truth, fnP_above, fnP_money]
        try omega
  · show ((decide ((0 : Int) < 1) || a == 0) && (decide ((1 : Int) < 1) || b == 0) && fnP 62 a) = _
    refine fin_bool ?_
    simp [fnP_any1, fnP_no, fnP_truth, fnP_above, fnP_money, refArgs]
    try omega
theorem check9 (a b rk rn : Int) (g : Nat) : armisticeref04_Check.f (g + 2) 9 a b rk rn = operation_Check.f 9 a b rk rn := by
  refine checkn 9 _ _ _ _ of9 (by decide) a b rk rn (rk == 2 || (rk == 1 && rn == 0)) (ret_maybe _ _ _ _ _) ?_ ?_ g
  · show (if rk = 0 ∧ rn = 0 then false else if rk = 1 ∧ rn = 0 then true else (rk == 2 && fnP 62 rn)) = _
    by_cases c0 : rk = 0 ∧ rn = 0
    · rw [if_pos c0]
      obtain ⟨rfl, rfl⟩ := c0
      rfl
    · rw [if_neg c0]
      by_cases c1 : rk = 1 ∧ rn = 0
      · rw [if_pos c1]
        obtain ⟨rfl, rfl⟩ := c1
        rfl
      · rw [if_neg c1]
        refine fin_bool ?_
        simp [fnP_any1, fnP_no, fnP_truth, fnP_above, fnP_money]
        try omega
  · show ((decide ((0 : Int) < 1) || a == 0) && (decide ((1 : Int) < 1) || b == 0) && fnP 62 a) = _
    refine fin_bool ?_
    simp [fnP_any1, fnP_no, fnP_truth, fnP_above, fnP_money, refArgs]
    try omega
theorem check10 (a b rk rn : Int) (g : Nat) : armisticeref04_Check.f (g + 2) 10 a b rk rn = operation_Check.f 10 a b rk rn := by
  refine checkn 10 _ _ _ _ of10 (by decide) a b rk rn (rk == 0 && rn == 0) (ret_done _ _ _ _ _) ?_ ?_ g
  · show (if rk = 0 ∧ rn = 0 then true else if rk = 1 ∧ rn = 0 then false else (rk == 2 && fnP 63 rn)) = _
    by_cases c0 : rk = 0 ∧ rn = 0
    · rw [if_pos c0]
      obtain ⟨rfl, rfl⟩ := c0
      rfl
    · rw [if_neg c0]
      by_cases c1 : rk = 1 ∧ rn = 0
      · rw [if_pos c1]
        obtain ⟨rfl, rfl⟩ := c1
        rfl
      · rw [if_neg c1]
        refine fin_bool ?_
        simp [fnP_any1, fnP_no, fnP_truth, fnP_above, fnP_money]
        try omega
  · show ((decide ((0 : Int) < 1) || a == 0) && (decide ((1 : Int) < 1) || b == 0) && fnP 62 a) = _
    refine fin_bool ?_
    simp [fnP_any1, fnP_no, fnP_truth, fnP_above, fnP_money, refArgs]
    try omega
theorem check11 (a b rk rn : Int) (g : Nat) : armisticeref04_Check.f (g + 2) 11 a b rk rn = operation_Check.f 11 a b rk rn := by
  refine checkn 11 _ _ _ _ of11 (by decide) a b rk rn (rk == 2 || (rk == 1 && rn == 0)) (ret_maybe _ _ _ _ _) ?_ ?_ g
  · show (if rk = 0 ∧ rn = 0 then false else if rk = 1 ∧ rn = 0 then true else (rk == 2 && fnP 62 rn)) = _
    by_cases c0 : rk = 0 ∧ rn = 0
    · rw [if_pos c0]
      obtain ⟨rfl, rfl⟩ := c0
      rfl
    · rw [if_neg c0]
      by_cases c1 : rk = 1 ∧ rn = 0
      · rw [if_pos c1]
        obtain ⟨rfl, rfl⟩ := c1
        rfl
      · rw [if_neg c1]
        refine fin_bool ?_
        simp [fnP_any1, fnP_no, fnP_truth, fnP_above, fnP_money]
        try omega
  · show ((decide ((0 : Int) < 0) || a == 0) && (decide ((1 : Int) < 0) || b == 0) && fnP 62 a) = _
    refine fin_bool ?_
    simp [fnP_any1, fnP_no, fnP_truth, fnP_above, fnP_money, refArgs]
    try omega
theorem check12 (a b rk rn : Int) (g : Nat) : armisticeref04_Check.f (g + 2) 12 a b rk rn = operation_Check.f 12 a b rk rn := by
  refine checkn 12 _ _ _ _ of12 (by decide) a b rk rn (rk == 2 && decide (0 ≤ rn ∧ rn ≤ 4611686018427387904)) (ret_money _ _ _ _ _) ?_ ?_ g
  · show (if rk = 0 ∧ rn = 0 then false else if rk = 1 ∧ rn = 0 then false else (rk == 2 && fnP 66 rn)) = _
    by_cases c0 : rk = 0 ∧ rn = 0
    · rw [if_pos c0]
      obtain ⟨rfl, rfl⟩ := c0
      rfl
    · rw [if_neg c0]
      by_cases c1 : rk = 1 ∧ rn = 0
      · rw [if_pos c1]
        obtain ⟨rfl, rfl⟩ := c1
        rfl
      · rw [if_neg c1]
        refine fin_bool ?_
        simp [fnP_any1, fnP_no, fnP_truth, fnP_above, fnP_money]
        try omega
  · show ((decide ((0 : Int) < 0) || a == 0) && (decide ((1 : Int) < 0) || b == 0) && fnP 62 a) = _
    refine fin_bool ?_
    simp [fnP_any1, fnP_no, fnP_truth, fnP_above, fnP_money, refArgs]
    try omega
theorem check13 (a b rk rn : Int) (g : Nat) : armisticeref04_Check.f (g + 2) 13 a b rk rn = operation_Check.f 13 a b rk rn := by
  refine checkn 13 _ _ _ _ of13 (by decide) a b rk rn (rk == 2 && decide (rn = 0 ∨ rn = 1)) (ret_truth _ _ _ _ _) ?_ ?_ g
  · show (if rk = 0 ∧ rn = 0 then false else if rk = 1 ∧ rn = 0 then false else (rk == 2 && fnP 65 rn)) = _
    by_cases c0 : rk = 0 ∧ rn = 0
    · rw [if_pos c0]
      obtain ⟨rfl, rfl⟩ := c0
      rfl
    · rw [if_neg c0]
      by_cases c1 : rk = 1 ∧ rn = 0
      · rw [if_pos c1]
        obtain ⟨rfl, rfl⟩ := c1
        rfl
      · rw [if_neg c1]
        refine fin_bool ?_
        simp [fnP_any1, fnP_no, fnP_truth, fnP_above, fnP_money]
        try omega
  · show ((decide ((0 : Int) < 1) || a == 0) && (decide ((1 : Int) < 1) || b == 0) && fnP 69 a) = _
    refine fin_bool ?_
    simp [fnP_any1, fnP_no, fnP_truth, fnP_above, fnP_money, refArgs]
    try omega
theorem check14 (a b rk rn : Int) (g : Nat) : armisticeref04_Check.f (g + 2) 14 a b rk rn = operation_Check.f 14 a b rk rn := by
  refine checkn 14 _ _ _ _ of14 (by decide) a b rk rn (rk == 2 && decide (rn = 0 ∨ rn = 1)) (ret_truth _ _ _ _ _) ?_ ?_ g
  · show (if rk = 0 ∧ rn = 0 then false else if rk = 1 ∧ rn = 0 then false else (rk == 2 && fnP 65 rn)) = _
    by_cases c0 : rk = 0 ∧ rn = 0
    · rw [if_pos c0]
      obtain ⟨rfl, rfl⟩ := c0
      rfl
    · rw [if_neg c0]
      by_cases c1 : rk = 1 ∧ rn = 0
      · rw [if_pos c1]
        obtain ⟨rfl, rfl⟩ := c1
        rfl
      · rw [if_neg c1]
        refine fin_bool ?_
        simp [fnP_any1, fnP_no, fnP_truth, fnP_above, fnP_money]
        try omega
  · show ((decide ((0 : Int) < 1) || a == 0) && (decide ((1 : Int) < 1) || b == 0) && fnP 69 a) = _
    refine fin_bool ?_
    simp [fnP_any1, fnP_no, fnP_truth, fnP_above, fnP_money, refArgs]
    try omega
theorem check15 (a b rk rn : Int) (g : Nat) : armisticeref04_Check.f (g + 2) 15 a b rk rn = operation_Check.f 15 a b rk rn := by
  refine checkn 15 _ _ _ _ of15 (by decide) a b rk rn (rk == 2 && decide (0 ≤ rn ∧ rn ≤ 4611686018427387904)) (ret_money _ _ _ _ _) ?_ ?_ g
  · show (if rk = 0 ∧ rn = 0 then false else if rk = 1 ∧ rn = 0 then false else (rk == 2 && fnP 69 rn)) = _
    by_cases c0 : rk = 0 ∧ rn = 0
    · rw [if_pos c0]
      obtain ⟨rfl, rfl⟩ := c0
      rfl
    · rw [if_neg c0]
      by_cases c1 : rk = 1 ∧ rn = 0
      · rw [if_pos c1]
        obtain ⟨rfl, rfl⟩ := c1
        rfl
      · rw [if_neg c1]
        refine fin_bool ?_
        simp [fnP_any1, fnP_no, fnP_truth, fnP_above, fnP_money]
        try omega
  · show ((decide ((0 : Int) < 0) || a == 0) && (decide ((1 : Int) < 0) || b == 0) && fnP 62 a) = _
    refine fin_bool ?_
    simp [fnP_any1, fnP_no, fnP_truth, fnP_above, fnP_money, refArgs]
    try omega
theorem check_eq (n a b rk rn : Int) (g : Nat) : armisticeref04_Check.f (g + 2) n a b rk rn = operation_Check.f n a b rk rn := by
  by_cases h : 1 ≤ n ∧ n ≤ 15
  · rcases cases15 n h with rfl | rfl | rfl | rfl | rfl | rfl | rfl | rfl | rfl | rfl | rfl | rfl | rfl | rfl | rfl
    · exact check1 a b rk rn g
    · exact check2 a b rk rn g
    · exact check3 a b rk rn g
    · exact check4 a b rk rn g
    · exact check5 a b rk rn g
    · exact check6 a b rk rn g
    · exact check7 a b rk rn g
    · exact check8 a b rk rn g
    · exact check9 a b rk rn g
    · exact check10 a b rk rn g
    · exact check11 a b rk rn g
    · exact check12 a b rk rn g
    · exact check13 a b rk rn g
    · exact check14 a b rk rn g
    · exact check15 a b rk rn g
  · rw [refcheck_out n h]
    unfold operation_Check.f
    rw [if_neg h]
end Go.Proofs.YtoenklncjbcgiaaDoor.P
