/- Plain laws of Join: the document's line of words is the program's. -/
import Derived.Test.YthhdjbpmkfnhjaaDoorEJoin2
import Derived.Test.YthhdjbpmkfnhjaaDoorPx5
import Derived.Test.YthhdjbpmkfnhjaaDoorPx5
namespace Go.Proofs.YthhdjbpmkfnhjaaDoor.P
open Go.RowKit Go.Proofs.YthhdjbpmkfnhjaaDoorW.PrintWords Go.Proofs.YthhdjbpmkfnhjaaDoorW.PrintLast
set_option linter.unusedVariables false
set_option linter.unusedSimpArgs false

theorem lib_join_snoc (sep y : List UInt8) : ∀ xs : List (List UInt8), xs ≠ [] → Lib.join (xs ++ [y]) sep = Lib.join xs sep ++ sep ++ y
  | [], h => absurd rfl h
  | [x], _ => by simp [Lib.join, List.intercalate, List.intersperse]
  | x :: x' :: xs, _ => by
    have ih := lib_join_snoc sep y (x' :: xs) (by simp)
    simp only [Lib.join, List.intercalate, List.cons_append, List.intersperse_cons_cons, List.flatten_cons, List.append_assoc] at ih ⊢
    rw [ih]
theorem b_ext {a b : ByteArray} (h : a.data.toList = b.data.toList) : a = b := by
  cases a
  cases b
  exact congrArg ByteArray.mk (Array.toList_inj.1 h)
theorem joinB_data (xs : List ByteArray) : (joinB xs).data.toList = Lib.join (xs.map (·.data.toList)) [32] := rfl
theorem app_data (a b : ByteArray) : (a ++ b).data.toList = a.data.toList ++ b.data.toList := by
  rw [ByteArray.data_append, Array.toList_append]
theorem joinB_snoc (xs : List ByteArray) (y : ByteArray) (h : xs ≠ []) : joinB (xs ++ [y]) = (joinB xs ++ (⟨#[32]⟩ : ByteArray)) ++ y := by
  apply b_ext
  rw [joinB_data, app_data, app_data, joinB_data, List.map_append, List.map_singleton, lib_join_snoc _ _ _ (by simpa using h)]
theorem joinB_one (y : ByteArray) : joinB [y] = y := by
  apply b_ext
  rw [joinB_data]
  simp [Lib.join, List.intercalate, List.intersperse]
theorem joinB_nil : joinB [] = (⟨#[]⟩ : ByteArray) := rfl
def sumS (l : List ByteArray) : Nat := (l.map (·.size)).sum
theorem sumS_cons (x : ByteArray) (l : List ByteArray) : sumS (x :: l) = x.size + sumS l := by simp [sumS]
theorem sumS_app (a b : List ByteArray) : sumS (a ++ b) = sumS a + sumS b := by simp [sumS]
theorem joinB_size : ∀ (n : Nat) (l : List ByteArray), l.length = n → (joinB l).size ≤ sumS l + l.length
  | 0, l, h => by
    obtain rfl := List.length_eq_zero_iff.1 h
    exact Nat.zero_le _
  | n + 1, l, h => by
    have hne : l ≠ [] := by
      intro e
      simp [e] at h
    have e := (List.dropLast_concat_getLast hne).symm
    generalize l.dropLast = a at e
    generalize l.getLast hne = b at e
    subst e
    have ih := joinB_size n a (by simpa using h)
    by_cases c : a = []
    · subst c
      rw [List.nil_append, joinB_one]
      simp [sumS]
    · rw [joinB_snoc a b c, ByteArray.size_append, ByteArray.size_append, sumS_app]
      have : (⟨#[32]⟩ : ByteArray).size = 1 := rfl
      have : sumS [b] = b.size := by simp [sumS]
      simp only [List.length_append, List.length_cons, List.length_nil]
      omega
theorem plain02 (c : Int) : armisticeref02_plain.f c = some (decide (33 ≤ c) && decide (c ≤ 126)) := by
  unfold armisticeref02_plain.f
  split
  · rename_i h1
    rw [decide_eq_true (show (33 : Int) ≤ c from h1), Bool.true_and]
  · rename_i h1
    rw [decide_eq_false (show ¬ (33 : Int) ≤ c from h1), Bool.false_and]
def plainAt (w : ByteArray) (i : Nat) : Bool := (w.data.toList.drop i).all fun c => decide (33 ≤ c.toNat) && decide (c.toNat ≤ 126)
theorem bt_get (w : ByteArray) (i : Nat) (h : i < w.size) : bt w (i : Int) = ((w.data.toList[i]'h).toNat : Int) := by
  rw [← bt_at w (i : Int) (by simpa using h)]
  rfl
/-- A word's bytes. -/
theorem ref_l1 (l : List ByteArray) (out : ByteArray) (x5 : Int) (w : ByteArray) (hw : w.size < 4611686018427387904) : ∀ (d i k : Nat), i + d = w.size → d < k →
    armisticeref02_Join.l1 k l out x5 w i = if plainAt w i = true then armisticeref02_Join.l1 (k - d) l out x5 w w.size else some ((⟨#[]⟩ : ByteArray), 5)
  | 0, i, k, hi, hk => by
    obtain rfl : i = w.size := by omega
    have : plainAt w w.size = true := by
      unfold plainAt
      rw [show w.size = w.data.toList.length from rfl, List.drop_length]
      rfl
    rw [if_pos this]
    rfl
  | d + 1, i, k, hi, hk => by
    obtain ⟨k, rfl⟩ : ∃ m, k = m + 1 := ⟨k - 1, by omega⟩
    have hil : i < w.size := by omega
    have hd : w.data.toList.drop i = w.data.toList[i]'hil :: w.data.toList.drop (i + 1) := List.drop_eq_getElem_cons hil
    rw [armisticeref02_Join.l1, if_pos (by omega), if_pos (by omega), plain02, bt_get w i hil]
    simp only [Option.bind_some]
    have ew : wrap64 ((i : Int) + 1) = ((i + 1 : Nat) : Int) := by unfold wrap64; omega
    have ep : plainAt w i = ((decide (33 ≤ (w.data.toList[i]'hil).toNat) && decide ((w.data.toList[i]'hil).toNat ≤ 126)) && plainAt w (i + 1)) := by
      unfold plainAt
      rw [hd, List.all_cons]
    have ed : (decide (33 ≤ ((w.data.toList[i]'hil).toNat : Int)) && decide (((w.data.toList[i]'hil).toNat : Int) ≤ 126)) = (decide (33 ≤ (w.data.toList[i]'hil).toNat) && decide ((w.data.toList[i]'hil).toNat ≤ 126)) := by
      congr 1
      · exact decide_eq_decide.2 (by omega)
      · exact decide_eq_decide.2 (by omega)
    rw [ed, ep]
    cases hb : (decide (33 ≤ (w.data.toList[i]'hil).toNat) && decide ((w.data.toList[i]'hil).toNat ≤ 126)) with
    | true =>
      rw [if_pos rfl, ew, ref_l1 l out x5 w hw d (i + 1) k (by omega) (by omega), Bool.true_and, show k + 1 - (d + 1) = k - d by omega]
    | false =>
      rw [if_neg (by simp), Bool.false_and, if_neg (by simp)]
theorem joinB_cons (w y : ByteArray) (r : List ByteArray) : joinB (w :: y :: r) = w ++ ((⟨#[32]⟩ : ByteArray) ++ joinB (y :: r)) := by
  apply b_ext
  rw [app_data, app_data, joinB_data, joinB_data]
  simp [Lib.join, List.intercalate, List.intersperse_cons_cons]
theorem bt_app0 (a b : ByteArray) (h : 0 < a.size) : bt (a ++ b) 0 = bt a 0 := by
  have h2 : 0 < (a ++ b).size := by rw [ByteArray.size_append]; omega
  have e1 := bt_get a 0 h
  have e2 := bt_get (a ++ b) 0 h2
  have e3 : (a ++ b).data.toList[0]'h2 = a.data.toList[0]'h := by
    simp only [app_data]
    exact List.getElem_append_left h
  rw [e3] at e2
  exact e2.trans e1.symm
theorem joinB_first (w : ByteArray) (r : List ByteArray) (h : 0 < w.size) : bt (joinB (w :: r)) 0 = bt w 0 := by
  cases r with
  | nil => rw [joinB_one]
  | cons y r => rw [joinB_cons, bt_app0 _ _ h]
theorem plainAt0 (w : ByteArray) : plainAt w 0 = plainW w := by
  unfold plainAt plainW
  rw [List.drop_zero]
theorem joinEnd_not (l : List ByteArray) (J w : ByteArray) (hm : w ∈ l) (h : goodW w = false) : joinEnd l J = (⟨#[]⟩, 5) := by
  unfold joinEnd
  rw [if_neg]
  intro hall
  rw [List.all_eq_true.1 hall _ hm] at h
  cases h
theorem joinEnd_hash (l : List ByteArray) (J : ByteArray) (h : bt J 0 = 35) : joinEnd l J = (⟨#[]⟩, 5) := by
  unfold joinEnd
  split
  · first | rfl | rw [if_pos h]
  · rfl
theorem ref_join_aux (l : List ByteArray) (hs : sumS l + l.length ≤ 1099511627776) (hne : l ≠ []) : ∀ (rest pre : List ByteArray) (k : Nat), l = pre ++ rest → (∀ w ∈ pre, goodW w = true) → (pre ≠ [] → 0 < (joinB pre).size ∧ bt (joinB pre) 0 ≠ 35) → sumS rest + 3 * rest.length < k →
    armisticeref02_Join.l0 k l (joinB pre) pre.length = some (joinEnd l (joinB l))
  | [], pre, k, hl, hg, hb, hk => by
    rw [List.append_nil] at hl
    subst hl
    obtain ⟨k, rfl⟩ : ∃ m, k = m + 1 := ⟨k - 1, by omega⟩
    have hlen : l.length ≠ 0 := fun e => hne (List.length_eq_zero_iff.1 e)
    have hall : (l.all goodW) = true := List.all_eq_true.2 hg
    have h35 := (hb hne).2
    rw [armisticeref02_Join.l0, if_neg (by omega), if_neg (by omega)]
    unfold joinEnd
    rw [if_pos hall, if_neg h35]
    by_cases c : 65536 < (joinB l).size
    · rw [if_pos (show (((joinB l).size : Nat) : Int) > 65536 by omega), if_pos c]
    · rw [if_neg (show ¬ (((joinB l).size : Nat) : Int) > 65536 by omega), if_neg c]
  | w :: rest, pre, k, hl, hg, hb, hk => by
    have hsz : sumS l = sumS pre + (w.size + sumS rest) := by rw [hl, sumS_app, sumS_cons]
    have hlen : l.length = pre.length + (rest.length + 1) := by rw [hl]; simp
    rw [sumS_cons] at hk
    simp only [List.length_cons] at hk
    obtain ⟨k, rfl⟩ : ∃ m, k = m + 1 := ⟨k - 1, by omega⟩
    have hrd : rdOf ByteArray.empty l (pre.length : Int) = w := by
      simp [rdOf, hl]
    have hm : w ∈ l := by rw [hl]; simp
    have hjs := joinB_size pre.length pre rfl
    rw [armisticeref02_Join.l0, if_pos (by omega), if_pos (by omega), hrd]
    have h1 := ref_l1 l (joinB pre) (pre.length : Int) w (by omega) w.size 0 k (by omega) (by omega)
    rw [show ((0 : Nat) : Int) = 0 from rfl] at h1
    rw [h1, plainAt0]
    by_cases cp : plainW w = true
    · rw [if_pos cp]
      obtain ⟨k2, hk2⟩ : ∃ m, k - w.size = m + 2 := ⟨k - w.size - 2, by omega⟩
      rw [hk2, armisticeref02_Join.l1, if_neg (by omega)]
      have htl : w.toList = ([] : List UInt8) ↔ w.size = 0 := by
        rw [ByteArray.toList_eq]
        exact List.length_eq_zero_iff.symm
      by_cases ce : w.size = 0
      · rw [if_pos (htl.2 ce), armisticeref02_Join.j2, if_pos rfl]
        rw [joinEnd_not l (joinB l) w hm (by unfold goodW; simp [ce])]
      · rw [if_neg (fun h => ce (htl.1 h))]
        have hgw : goodW w = true := by unfold goodW; simp [ce, cp]
        have step : ∀ b : Bool, (b = true → pre = [] ∧ bt w 0 = 35) → (b = false → pre = [] → bt w 0 ≠ 35) → armisticeref02_Join.j2 (k2 + 1) l (joinB pre) (pre.length : Int) w b = some (joinEnd l (joinB l)) := by
          intro b hb1 hb2
          rw [armisticeref02_Join.j2]
          cases b with
          | true =>
            obtain ⟨hp, h35⟩ := hb1 rfl
            subst hp
            rw [if_pos rfl, joinEnd_hash l (joinB l) (by rw [hl, List.nil_append, joinB_first w rest (by omega)]; exact h35)]
          | false =>
            rw [if_neg (by simp)]
            have hnext : ∀ out : ByteArray, out = joinB (pre ++ [w]) → armisticeref02_Join.l0 k2 l out (wrap64 ((pre.length : Int) + 1)) = some (joinEnd l (joinB l)) := by
              intro out ho
              have ew : wrap64 ((pre.length : Int) + 1) = (((pre ++ [w]).length : Nat) : Int) := by
                simp only [List.length_append, List.length_cons, List.length_nil]
                unfold wrap64
                omega
              rw [ho, ew]
              refine ref_join_aux l hs hne rest (pre ++ [w]) k2 (by rw [hl]; simp) (fun x hx => ?_) (fun _ => ?_) (by omega)
              · rcases List.mem_append.1 hx with hx | hx
                · exact hg x hx
                · rw [List.mem_singleton.1 hx]; exact hgw
              · by_cases cn : pre = []
                · subst cn
                  rw [List.nil_append, joinB_one]
                  exact ⟨by omega, hb2 rfl rfl⟩
                · obtain ⟨h0, h35⟩ := hb cn
                  rw [joinB_snoc pre w cn, bt_app0 _ _ (by rw [ByteArray.size_append]; omega), bt_app0 _ _ h0]
                  exact ⟨by rw [ByteArray.size_append, ByteArray.size_append]; omega, h35⟩
            by_cases cn : pre = []
            · subst cn
              have e0 : (joinB ([] : List ByteArray)).size = 0 := rfl
              rw [if_neg (by simp), if_pos (by omega)]
              refine hnext _ ?_
              rw [List.nil_append, joinB_one]
              apply b_ext
              rw [app_data]
              rfl
            · have hpl : pre.length ≠ 0 := fun e => cn (List.length_eq_zero_iff.1 e)
              have e1 : (joinB pre ++ (⟨#[32]⟩ : ByteArray)).size = (joinB pre).size + 1 := by rw [ByteArray.size_append]; rfl
              rw [if_pos (by omega), if_pos (by omega), if_pos (by omega)]
              exact hnext _ (joinB_snoc pre w cn).symm
        by_cases cn : pre = []
        · have hp0 : ((pre.length : Nat) : Int) = 0 := by rw [cn]; rfl
          rw [if_pos hp0, if_pos (by omega)]
          refine step _ (fun h => ⟨cn, by simpa using h⟩) (fun h _ => by simpa using h)
        · have hpl : pre.length ≠ 0 := fun e => cn (List.length_eq_zero_iff.1 e)
          rw [if_neg (by omega)]
          exact step false (fun h => by cases h) (fun _ h => absurd h cn)
    · rw [if_neg cp, joinEnd_not l (joinB l) w hm (by unfold goodW; simp [cp])]
theorem ref_join (l : List ByteArray) (hs : sumS l + l.length ≤ 1099511627776) (k : Nat) (hk : sumS l + 3 * l.length + 1 < k) : armisticeref02_Join.f k l = token_Join.f l := by
  have hj := joinB_size l.length l rfl
  unfold armisticeref02_Join.f token_Join.f
  rw [if_pos ⟨by omega, by omega⟩]
  by_cases hne : l = []
  · subst hne
    obtain ⟨k, rfl⟩ : ∃ m, k = m + 1 := ⟨k - 1, by omega⟩
    rw [armisticeref02_Join.l0]
    rfl
  · rw [if_neg (by simpa using hne)]
    exact ref_join_aux l hs hne l [] k rfl (fun _ h => by cases h) (fun h => absurd rfl h) (by omega)
theorem sameTexts_aux (l : List ByteArray) (hl : l.length < 4611686018427387904) : ∀ (d i k : Nat), i + d = l.length → d < k → armisticekit_SameTexts.l0 k l l i = some true
  | 0, i, k, hi, hk => by
    obtain ⟨k, rfl⟩ : ∃ m, k = m + 1 := ⟨k - 1, by omega⟩
    rw [armisticekit_SameTexts.l0, if_neg (by omega)]
  | d + 1, i, k, hi, hk => by
    obtain ⟨k, rfl⟩ : ∃ m, k = m + 1 := ⟨k - 1, by omega⟩
    have ew : wrap64 ((i : Int) + 1) = ((i + 1 : Nat) : Int) := by unfold wrap64; omega
    rw [armisticekit_SameTexts.l0, if_pos (by omega), if_pos (by omega), if_pos (by omega), if_pos rfl, ew]
    exact sameTexts_aux l hl d (i + 1) k (by omega) (by omega)
theorem sameTexts_refl (l : List ByteArray) (hl : l.length < 4611686018427387904) (k : Nat) (hk : l.length < k) : armisticekit_SameTexts.f k l l = some true := by
  unfold armisticekit_SameTexts.f
  rw [if_pos rfl]
  exact sameTexts_aux l hl l.length 0 k (by omega) hk
end Go.Proofs.YthhdjbpmkfnhjaaDoor.P
