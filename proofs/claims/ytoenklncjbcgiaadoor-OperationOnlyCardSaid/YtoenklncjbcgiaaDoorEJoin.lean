/- token.Join at words that make a line. -/
import Derived.Test.YtoenklncjbcgiaaDoorEText
import Derived.Test.YtoenklncjbcgiaaDoorShelfCP
import Derived.WalkMore
import Derived.Laws.RangeString
namespace Go.Proofs.YtoenklncjbcgiaaDoor.P
open Go.RowKit Go.Proofs.YtoenklncjbcgiaaDoorW.PrintWords Go.Proofs.YtoenklncjbcgiaaDoorW.PrintLast Go.Proofs.YtoenklncjbcgiaaDoorW.PrintMore
set_option linter.unusedVariables false
set_option linter.unusedSimpArgs false

/-- Are a word's bytes such as may be in a word? -/
def plainW (s : ByteArray) : Bool := s.data.toList.all fun c => decide (33 ≤ c.toNat) && decide (c.toNat ≤ 126)
def badR (x : Nat) : Bool := decide (x < 33) || decide (126 < x)
/-- Told where words make a line, and there alone. -/
def token_Join.f (l : List ByteArray) : Option (ByteArray × Int) :=
  if l.length ≠ 0 ∧ l.length ≤ 1000 ∧ (l.all fun s => decide (s.size ≠ 0) && plainW s) = true ∧ (joinB l).size ≤ 65536 ∧ 0 < (joinB l).size ∧ bt (joinB l) 0 ≠ 35 then some (joinB l, 0) else none
set_option maxRecDepth 100000 in
theorem join1_calls (x : Nat) (hx : x ≤ 1114111) (w : World) : Calls Tryd.prog 45 #[.int .i32 x] w fun e w' => e = .returned (.bool (badR x)) ∧ Below w.heap.size w w' := by
  by_cases c : x < 33
  · have f1 : decide ((x : Int) < 33) = true := decide_eq_true (by omega)
    go_enter Tryd.func45, Tryd.ntmps45
    go_wp2
    refine bodyPost_ret (results_tmp rfl _ _ _) rfl ?_
    refine ⟨?_, Below.refl _ _⟩
    unfold badR
    simp [c]
  · have f1 : decide ((x : Int) < 33) = false := decide_eq_false (by omega)
    go_enter Tryd.func45, Tryd.ntmps45
    go_wp2
    all_goals refine bodyPost_ret (results_tmp rfl _ _ _) rfl ?_
    all_goals refine ⟨?_, Below.refl _ _⟩
    all_goals unfold badR
    all_goals simp [c]
    all_goals omega
theorem idx_plain (s : ByteArray) (h : plainW s = true) : Lib.idxFunc badR true s = -1 := by
  have hb : ∀ (pos : Nat) (hp : pos < s.size), 33 ≤ (s[pos]'hp).toNat ∧ (s[pos]'hp).toNat ≤ 126 := by
    intro pos hp
    unfold plainW at h
    have hm : (s[pos]'hp) ∈ s.data.toList := by
      show s.data[pos] ∈ s.data.toList
      exact Array.mem_toList_iff.2 (Array.getElem_mem _)
    have := List.all_eq_true.1 h _ hm
    simpa using this
  have key : ∀ f pos, Lib.idxFuncFrom badR true s f pos = -1 := by
    intro f
    induction f with
    | zero => intro pos; rfl
    | succ f ih =>
      intro pos
      unfold Lib.idxFuncFrom
      by_cases c : pos < s.size
      · have h1 := hb pos c
        have h2 : Utf8.decode s pos = ((s[pos]'c).toNat, 1) := decode_ascii s pos c (by omega)
        rw [if_pos c, h2]
        have h3 : badR (s[pos]'c).toNat = false := by
          unfold badR
          simp
          omega
        rw [if_neg (by simp [h3])]
        exact ih _
      · rw [if_neg c]
  exact key _ _
theorem contains_plain (s : ByteArray) (h : plainW s = true) (w : World) : Calls Tryd.prog 44 #[.string s, .func (.func 45) #[] #[]] w fun e w' => e = .returned (.bool false) ∧ Below w.heap.size w w' := by
  have hc := Tryd.strings_ContainsFunc_grows 45 #[] (enters_of Tryd.func45 (by kernel_rfl) rfl) badR s w (fun W x hx _ => join1_calls x hx W)
  rw [idx_plain s h] at hc
  exact hc
set_option maxHeartbeats 2000000 in
set_option maxRecDepth 100000 in
theorem join_walk (g o c0 : Nat) (l : List ByteArray) (hl : 0 < l.length) (hl2 : l.length ≤ 1000) (hc0 : l.length ≤ c0) (w : World) (had : g < w.heap.size)
    (hcell : ∀ i : Int, 0 ≤ i → i < l.length → w.cell? ⟨g, o + i.toNat, none⟩ = some (.string (rdOf ByteArray.empty l i)))
    (hall : ∀ s ∈ l, s.size ≠ 0 ∧ plainW s = true) (J : ByteArray) (hJ : joinB l = J) (hs : J.size ≤ 65536) (h0 : 0 < J.size) (h35 : bt J 0 ≠ 35) :
    Calls Tryd.prog 25 #[.slice (some ⟨g, o, none⟩) l.length c0] w fun e w' => e = .returned (.tuple #[.string J, .int .i64 0]) ∧ Below w.heap.size w w' := by
  have hj : Calls Tryd.prog 41 #[.slice (some ⟨g, o, none⟩) l.length c0, .string ⟨#[32]⟩] w fun e w' => e = .returned (.string J) ∧ Below w.heap.size w w' := by
    rw [← hJ] at hs ⊢
    refine Tryd.strings_Join g o c0 l ⟨#[32]⟩ w ?_ had (by omega) hc0 ?_
    · intro j x hx
      have hj : j < l.length := (List.getElem?_eq_some_iff.1 hx).1
      have := hcell j (by omega) (by omega)
      rw [Int.toNat_natCast] at this
      rw [this]
      simp [rdOf, List.getD, hx]
    · have : (joinB l).size = (Lib.join (l.map (·.data.toList)) [32]).length := by
        unfold joinB
        rw [← toList_len']
      show (Lib.join (l.map (·.data.toList)) [32]).length ≤ 140737488355328
      omega
  have HJ := Aside0.mk hj
  have HC := Aside0.mk hcell
  have HA := Aside0.mk hall
  have x35 : ((J[0]'h0).toNat : Int) = bt J 0 := bt_at J 0 h0
  have y35 : (((J[0]'h0).toNat : Int) == 35) = false := by rw [x35]; exact beq_eq_false_iff_ne.2 h35
  have z1 : decide (65536 < (J.size : Int)) = false := decide_eq_false (by omega)
  have z2 : ((l.length : Int) == 0) = false := beq_eq_false_iff_ne.2 (by omega)
  have z3 : (0 : Int) < (J.size : Int) := by omega
  have HL := Aside0.mk hl
  have HL2 := Aside0.mk hl2
  clear hj hcell hall hl hl2 x35 hs h35 hJ
  go_enter Tryd.func25, Tryd.ntmps25
  go_wp2_with fail
  refine HJ.out.mono ?_
  rintro e w2 ⟨rfl, hb2⟩
  have HB := Aside0.mk hb2
  clear hb2
  go_wp2_with fail
  go_loopg [11] (l.length + 1) (fun gk v11 wr => ∃ k : Nat, v11 = .int .i64 k ∧ Aside0 (k + gk = l.length + 1 ∧ k ≤ l.length) ∧ Aside0 (Below w.heap.size w wr))
  case atStart => exact ⟨0, rfl, ⟨by omega⟩, HB⟩
  case round =>
    obtain ⟨k, rfl, hk, hB⟩ := hrel
    by_cases ck : k < l.length
    · have e1 : decide ((k : Int) < (l.length : Int)) = true := decide_eq_true (by omega)
      have p1 : (k : Int) < (l.length : Int) := by omega
      have p2 : (0 : Int) ≤ (k : Int) := by omega
      have q1 := eq_true p1
      have q2 := eq_true p2
      have hcw : wr.cell? ⟨g, o + k, none⟩ = some (.string (rdOf ByteArray.empty l k)) := by
        have h := HC.out k (by omega) (by omega)
        rw [Int.toNat_natCast] at h
        exact (hB.out.cell (p := ⟨g, o + k, none⟩) had).trans h
      have hm : rdOf ByteArray.empty l k ∈ l := by
        have : rdOf ByteArray.empty l (k : Int) = l[k] := by simp [rdOf, ck]
        rw [this]
        exact List.getElem_mem ck
      obtain ⟨hz, hp⟩ := HA.out _ hm
      generalize rdOf ByteArray.empty l k = S at hcw hz hp
      have hne : ¬ S.toList = [] := by
        intro e
        rw [ByteArray.toList_eq] at e
        exact hz (by rw [← toList_len', e]; rfl)
      have hne2 : (S.toList == []) = false := beq_eq_false_iff_ne.2 hne
      have HCP := Aside0.mk (fun W => contains_plain S hp W)
      clear hz hp hm
      go_wp2_with fail
      refine (HCP.out _).mono ?_
      rintro e w3 ⟨rfl, hb3⟩
      have HB3 := Aside0.mk (hB.out.trans (hb3.mono hB.out.size))
      clear hb3 hcw hne hne2 HCP
      go_wp2_with fail
      go_roundg (gk - 1)
      case measure => have := hk.out; omega
      case rel => exact ⟨k + 1, by (have := hk.out; have := HL2.out; first | (go_num; done) | (congr 1; omega) | (congr 1; unfold wrap64; omega)), ⟨by have := hk.out; omega⟩, HB3⟩
    · have e1 : decide ((k : Int) < (l.length : Int)) = false := decide_eq_false (by omega)
      go_wp2
      refine bodyPost_ret (results_tmp2 rfl _ _ _) rfl ?_
      exact ⟨rfl, hB.out⟩
theorem token_Join.calls (A0 : Option Addr) (c0 : Nat) (l0 : List ByteArray) (r1 : ByteArray) (r2 : Int) (w : World) (hr0 : Kd.C Kd.string w A0 l0.length l0) (hc0 : l0.length ≤ c0) (h : token_Join.f l0 = some (r1, r2)) :
    Calls Tryd.prog 25 #[.slice A0 l0.length c0] w fun e w' => e = .returned (.tuple #[.string r1, .int .i64 r2]) ∧ Below w.heap.size w w' := by
  unfold token_Join.f at h
  split at h
  · rename_i hc
    obtain ⟨h1, h2, h3, h4, h5, h6⟩ := hc
    simp only [Option.some.injEq, Prod.mk.injEq] at h
    obtain ⟨rfl, rfl⟩ := h
    obtain ⟨ad, rfl, h0⟩ := Kd.at_string hr0 0 (by omega) (by omega)
    have had : ad.block < w.heap.size := World.block_lt_of_cell? w (ad.add (0 : Int).toNat) h0
    obtain ⟨g, o, spot⟩ := ad
    have hspot : spot = none := by simpa [Addr.add] using World.cell?_spot h0
    subst hspot
    refine join_walk g o c0 l0 (by omega) h2 hc0 w had (fun i hi1 hi2 => ?_) (fun s hm => ?_) _ rfl h4 h5 h6
    · obtain ⟨ad', e, hc⟩ := Kd.at_string hr0 i hi1 hi2
      cases e
      have e' : (⟨g, o, none⟩ : Addr).add i.toNat = ⟨g, o + i.toNat, none⟩ := by
        unfold Addr.add
        split <;> simp_all
      rw [e'] at hc
      exact hc
    · have := List.all_eq_true.1 h3 s hm
      simpa using this
  · cases h
end Go.Proofs.YtoenklncjbcgiaaDoor.P
