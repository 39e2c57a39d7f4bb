/- Plain laws of operation.Text: the document's text is the program's. -/
import Derived.Test.YtoenklncjbcgiaaDoorMTells
import Derived.Test.YtoenklncjbcgiaaDoorMPutR
namespace Go.Proofs.YtoenklncjbcgiaaDoor.P
open Go.RowKit Go.Proofs.YtoenklncjbcgiaaDoorW.PrintWords Go.Proofs.YtoenklncjbcgiaaDoorW.PrintLast
set_option linter.unusedVariables false
set_option linter.unusedSimpArgs false

theorem refput (a : Int) (ha : isI64 a) (g : Nat) (hg : 21 ≤ g) : armisticeref01_Put.f g a = some (putStr a) := by
  obtain ⟨f, rfl⟩ : ∃ f, g = f + 1 := ⟨g - 1, by omega⟩
  exact putRev_strOf a ha f (by omega)
theorem ba_ext {a b : ByteArray} (h : a.data.toList = b.data.toList) : a = b := ByteArray.ext (Array.toList_inj.1 h)
theorem told_size (rk rn : Int) : (toldB rk rn).size ≤ 21 := by
  unfold toldB
  split
  · decide
  · split
    · decide
    · exact putStr_size rn
theorem text_end (g : Nat) (hg : 21 ≤ g) (out : ByteArray) (L : List Int) (i k a b rk rn typ args ret : Int) (word : ByteArray) (hn : isI64 rn) (hi : ¬ i < args) (hs : out.size ≤ 100) (hr : rk = 0 ∨ rk = 1 ∨ rk = 2) :
    armisticeref04_Text.l0 (g + 1) out L i k a b rk rn typ args ret word = some (out ++ (⟨#[32, 45, 62, 32]⟩ : ByteArray) ++ toldB rk rn, 0) := by
  have hz := putStr_size rn
  have e4 : (out ++ (⟨#[32, 45, 62, 32]⟩ : ByteArray)).size = out.size + 4 := by rw [ByteArray.size_append]; rfl
  rw [armisticeref04_Text.l0, if_neg hi, if_pos (by omega)]
  rcases hr with rfl | rfl | rfl
  · rw [if_pos rfl, if_pos (by omega)]
    rfl
  · rw [if_neg (by decide), if_pos rfl, if_pos (by omega)]
    rfl
  · rw [if_neg (by decide), if_neg (by decide), refput rn hn g hg, Option.bind_some, if_pos (by omega)]
    rfl
theorem text_step (g : Nat) (hg : 21 ≤ g) (out : ByteArray) (L : List Int) (i k a b rk rn typ args ret : Int) (word : ByteArray) (hi : i < args) (h0 : 0 ≤ i) (hl : i < (L.length : Int)) (hL : isI64 (rd L i)) (hs : out.size ≤ 100) :
    armisticeref04_Text.l0 (g + 1) out L i k a b rk rn typ args ret word = armisticeref04_Text.l0 g (out ++ (⟨#[32]⟩ : ByteArray) ++ putStr (rd L i)) L (wrap64 (i + 1)) k a b rk rn typ args ret word := by
  have hz := putStr_size (rd L i)
  have e1 : (out ++ (⟨#[32]⟩ : ByteArray)).size = out.size + 1 := by rw [ByteArray.size_append]; rfl
  rw [armisticeref04_Text.l0, if_pos hi, if_pos (by omega), if_pos h0, if_pos hl, refput _ hL g hg, Option.bind_some, if_pos (by omega)]
theorem of_kd (n : Int) (h : 1 ≤ n ∧ n ≤ 15) : ∃ typ ret, armisticeref04_of.f n = some (typ, (kdOf n).args, ret, (kdOf n).word, true) := by
  rcases cases15 n h with rfl | rfl | rfl | rfl | rfl | rfl | rfl | rfl | rfl | rfl | rfl | rfl | rfl | rfl | rfl
  · exact ⟨_, _, of1⟩
  · exact ⟨_, _, of2⟩
  · exact ⟨_, _, of3⟩
  · exact ⟨_, _, of4⟩
  · exact ⟨_, _, of5⟩
  · exact ⟨_, _, of6⟩
  · exact ⟨_, _, of7⟩
  · exact ⟨_, _, of8⟩
  · exact ⟨_, _, of9⟩
  · exact ⟨_, _, of10⟩
  · exact ⟨_, _, of11⟩
  · exact ⟨_, _, of12⟩
  · exact ⟨_, _, of13⟩
  · exact ⟨_, _, of14⟩
  · exact ⟨_, _, of15⟩
attribute [local irreducible] putStr toldB
theorem text_eq (n a b rk rn : Int) (ha : isI64 a) (hb : isI64 b) (hn : isI64 rn) : armisticeref04_Text.f 30 n a b rk rn = operation_Text.f n a b rk rn := by
  unfold armisticeref04_Text.f operation_Text.f
  rw [if_pos ⟨ha, hb, hn⟩, check_eq n a b rk rn 28]
  obtain ⟨e, he⟩ : ∃ e, operation_Check.f n a b rk rn = some e := by
    unfold operation_Check.f
    exact ⟨_, rfl⟩
  rw [he]
  simp only [Option.bind_some]
  by_cases c : e = 0
  · subst c
    rw [if_pos rfl, if_pos rfl]
    obtain ⟨hk, _, hr⟩ := check_zero he
    have hrk := ret_kind _ _ _ hr
    obtain ⟨typ, ret, ho⟩ := of_kd n hk
    have h3 : (kdOf n).args = 0 ∨ (kdOf n).args = 1 ∨ (kdOf n).args = 2 := by
      unfold kdOf
      rw [if_pos hk]
      exact kinds_args3 _ (kdOf_mem n hk)
    have h8 : (kdOf n).word.size ≤ 8 := by
      unfold kdOf
      rw [if_pos hk]
      exact kinds_word8 _ (kdOf_mem n hk)
    rw [ho]
    simp only [Option.bind_some]
    generalize kdOf n = x at h3 h8
    obtain ⟨xn, xt, word, args, xr, xa, xd, xm⟩ := x
    simp only at h3 h8
    have ha21 := putStr_size a
    have hb21 := putStr_size b
    have s1 : (word ++ (⟨#[32]⟩ : ByteArray) ++ putStr a).size = word.size + 1 + (putStr a).size := by rw [ByteArray.size_append, ByteArray.size_append]; rfl
    have s2 : (word ++ (⟨#[32]⟩ : ByteArray) ++ putStr a ++ (⟨#[32]⟩ : ByteArray) ++ putStr b).size = word.size + 1 + (putStr a).size + 1 + (putStr b).size := by rw [ByteArray.size_append, ByteArray.size_append, s1]; rfl
    have w1 : wrap64 (0 + 1) = 1 := by unfold wrap64; omega
    have w2 : wrap64 (1 + 1) = 2 := by unfold wrap64; omega
    rcases h3 with rfl | rfl | rfl
    · rw [text_end 29 (by omega) word _ 0 n a b rk rn typ 0 ret word hn (by omega) (by omega) hrk]
      refine congrArg (fun z => some (z, (0 : Int))) (ba_ext ?_)
      simp [joinB, textWords, Lib.join, List.intercalate, List.intersperse, ByteArray.data_append]
    · rw [text_step 29 (by omega) word [a, b] 0 n a b rk rn typ 1 ret word (by omega) (by omega) (by simp) (show isI64 (rd [a, b] 0) from ha) (by omega), w1,
        text_end 28 (by omega) _ _ 1 n a b rk rn typ 1 ret word hn (by omega) (by show (word ++ (⟨#[32]⟩ : ByteArray) ++ putStr a).size ≤ 100; omega) hrk]
      refine congrArg (fun z => some (z, (0 : Int))) (ba_ext ?_)
      simp [joinB, textWords, Lib.join, List.intercalate, List.intersperse, ByteArray.data_append, rd]
    · rw [text_step 29 (by omega) word [a, b] 0 n a b rk rn typ 2 ret word (by omega) (by omega) (by simp) (show isI64 (rd [a, b] 0) from ha) (by omega), w1,
        text_step 28 (by omega) _ [a, b] 1 n a b rk rn typ 2 ret word (by omega) (by omega) (by simp) (show isI64 (rd [a, b] 1) from hb) (by show (word ++ (⟨#[32]⟩ : ByteArray) ++ putStr a).size ≤ 100; omega), w2,
        text_end 27 (by omega) _ _ 2 n a b rk rn typ 2 ret word hn (by omega) (by show (word ++ (⟨#[32]⟩ : ByteArray) ++ putStr a ++ (⟨#[32]⟩ : ByteArray) ++ putStr b).size ≤ 100; omega) hrk]
      refine congrArg (fun z => some (z, (0 : Int))) (ba_ext ?_)
      simp [joinB, textWords, Lib.join, List.intercalate, List.intersperse, ByteArray.data_append, rd]
  · rw [if_neg c, if_neg c]
end Go.Proofs.YtoenklncjbcgiaaDoor.P
