/- token.Join, whatever the words. -/
import Derived.Test.YthhdjbpmkfnhjaaDoorEJoinB
import Derived.Test.YthhdjbpmkfnhjaaDoorShelfP
import Derived.Test.YthhdjbpmkfnhjaaDoorPx0
import Derived.WalkMore
import Derived.Laws.RangeString
import Derived.Laws.EntriesVeiled
import Derived.Deep.QuietTactic
import Derived.BigQuiet
namespace Go.Proofs.YthhdjbpmkfnhjaaDoor.P
open Go.RowKit Go.Proofs.YthhdjbpmkfnhjaaDoorW.PrintWords Go.Proofs.YthhdjbpmkfnhjaaDoorW.PrintLast Go.Proofs.YthhdjbpmkfnhjaaDoorW.PrintMore
set_option linter.unusedVariables false
set_option linter.unusedSimpArgs false

/-- Are a word's bytes such as may be in a word? -/
def plainW (s : ByteArray) : Bool := s.data.toList.all fun c => decide (33 ≤ c.toNat) && decide (c.toNat ≤ 126)
def badR (x : Nat) : Bool := decide (x < 33) || decide (126 < x)
set_option maxRecDepth 100000 in
theorem join1_calls (x : Nat) (hx : x ≤ 1114111) (w : World) : Calls Tryd.prog 27 #[.int .i32 x] w fun e w' => e = .returned (.bool (badR x)) ∧ Below w.heap.size w w' := by
  by_cases c : x < 33
  · have f1 : decide ((x : Int) < 33) = true := decide_eq_true (by omega)
    go_enter Tryd.func27, Tryd.ntmps27
    go_wp2
    refine bodyPost_ret (results_tmp rfl _ _ _) rfl ?_
    refine ⟨?_, Below.refl _ _⟩
    unfold badR
    simp [c]
  · have f1 : decide ((x : Int) < 33) = false := decide_eq_false (by omega)
    go_enter Tryd.func27, Tryd.ntmps27
    go_wp2
    all_goals refine bodyPost_ret (results_tmp rfl _ _ _) rfl ?_
    all_goals refine ⟨?_, Below.refl _ _⟩
    all_goals unfold badR
    all_goals simp [c]
    all_goals omega
theorem idx_plain (s : ByteArray) (h : plainW s = true) : Lib.idxFunc badR true s = -1 := by
  have hb : ∀ (pos : Nat) (hp : pos < s.size), 33 ≤ (s[pos]'hp).toNat ∧ (s[pos]'hp).toNat ≤ 126 := by
    intro pos hp
    unfold plainW at h
    have hm : (s[pos]'hp) ∈ s.data.toList := by
      show s.data[pos] ∈ s.data.toList
      exact Array.mem_toList_iff.2 (Array.getElem_mem _)
    have := List.all_eq_true.1 h _ hm
    simpa using this
  have key : ∀ f pos, Lib.idxFuncFrom badR true s f pos = -1 := by
    intro f
    induction f with
    | zero => intro pos; rfl
    | succ f ih =>
      intro pos
      unfold Lib.idxFuncFrom
      by_cases c : pos < s.size
      · have h1 := hb pos c
        have h2 : Utf8.decode s pos = ((s[pos]'c).toNat, 1) := decode_ascii s pos c (by omega)
        rw [if_pos c, h2]
        have h3 : badR (s[pos]'c).toNat = false := by
          unfold badR
          simp
          omega
        rw [if_neg (by simp [h3])]
        exact ih _
      · rw [if_neg c]
  exact key _ _
theorem contains_plain (s : ByteArray) (h : plainW s = true) (w : World) : Calls Tryd.prog 26 #[.string s, .func (.func 27) #[] #[]] w fun e w' => e = .returned (.bool false) ∧ Below w.heap.size w w' := by
  have hc := Tryd.strings_ContainsFunc_grows 27 #[] (enters_of Tryd.func27 (by kernel_rfl) rfl) badR s w (fun W x hx _ => join1_calls x hx W)
  rw [idx_plain s h] at hc
  exact hc
theorem decode_big (s : ByteArray) (i : Nat) (h : 128 ≤ (s.get! i).toNat) : 128 ≤ (Utf8.decode s i).1 := by
  unfold Utf8.decode
  simp only [Nat.add_zero]
  rw [if_neg (by omega)]
  repeat' split
  all_goals first
    | (simp only [Utf8.runeError]; omega)
    | (rename_i hc; simp only [ge_iff_le, Bool.and_eq_true, decide_eq_true_eq] at hc; omega)
    | omega
theorem idx_bad (s : ByteArray) : ∀ (f pos : Nat), s.size ≤ pos + f → (∃ q, pos ≤ q ∧ ∃ hq : q < s.size, ¬ (33 ≤ (s[q]'hq).toNat ∧ (s[q]'hq).toNat ≤ 126)) → 0 ≤ Lib.idxFuncFrom badR true s f pos := by
  intro f
  induction f with
  | zero =>
    intro pos h ⟨q, h1, h2, _⟩
    omega
  | succ f ih =>
    intro pos h ⟨q, h1, h2, h3⟩
    unfold Lib.idxFuncFrom
    have c : pos < s.size := by omega
    rw [if_pos c]
    by_cases d : 33 ≤ (s[pos]'c).toNat ∧ (s[pos]'c).toNat ≤ 126
    · have e : Utf8.decode s pos = ((s[pos]'c).toNat, 1) := decode_ascii s pos c (by omega)
      have e3 : badR (s[pos]'c).toNat = false := by
        unfold badR
        simp
        omega
      rw [e, if_neg (by simp [e3])]
      refine ih (pos + 1) (by omega) ⟨q, ?_, h2, h3⟩
      by_cases e4 : pos = q
      · subst e4
        exact absurd d h3
      · omega
    · have e3 : badR (Utf8.decode s pos).1 = true := by
        by_cases e : (s[pos]'c).toNat < 128
        · rw [decode_ascii s pos c e]
          unfold badR
          simp
          omega
        · have hg : s.get! pos = s[pos]'c := by
            simp [ByteArray.get!, getElem!_pos, c]
            rfl
          have := decode_big s pos (by rw [hg]; omega)
          unfold badR
          simp
          omega
      rw [if_pos e3]
      omega
theorem contains_bad (s : ByteArray) (h : plainW s = false) (w : World) : Calls Tryd.prog 26 #[.string s, .func (.func 27) #[] #[]] w fun e w' => e = .returned (.bool true) ∧ Below w.heap.size w w' := by
  have hc := Tryd.strings_ContainsFunc_grows 27 #[] (enters_of Tryd.func27 (by kernel_rfl) rfl) badR s w (fun W x hx _ => join1_calls x hx W)
  have hi : 0 ≤ Lib.idxFunc badR true s := by
    refine idx_bad s s.size 0 (by omega) ?_
    unfold plainW at h
    obtain ⟨c, hm, hc⟩ := List.all_eq_false.1 h
    obtain ⟨q, hq, rfl⟩ := List.getElem_of_mem hm
    refine ⟨q, Nat.zero_le _, hq, ?_⟩
    have : ¬ (33 ≤ (s.data.toList[q]).toNat ∧ (s.data.toList[q]).toNat ≤ 126) := by simpa using hc
    exact this
  rw [decide_eq_true hi] at hc
  exact hc
def goodW (s : ByteArray) : Bool := decide (s.size ≠ 0) && plainW s
/-- What Join tells of at least one word, J their line. -/
def joinEnd (l : List ByteArray) (J : ByteArray) : ByteArray × Int :=
  if (l.all goodW) = true then (if bt J 0 = 35 then (⟨#[]⟩, 5) else if 65536 < J.size then (⟨#[]⟩, 4) else (J, 0)) else (⟨#[]⟩, 5)
theorem joinEnd_bad (l : List ByteArray) (J : ByteArray) (k : Nat) (hk : k < l.length) (h : goodW (rdOf ByteArray.empty l (k : Int)) = false) : joinEnd l J = (⟨#[]⟩, 5) := by
  unfold joinEnd
  rw [if_neg]
  intro hall
  have hm : rdOf ByteArray.empty l (k : Int) ∈ l := by
    have : rdOf ByteArray.empty l (k : Int) = l[k] := by simp [rdOf, hk]
    rw [this]
    exact List.getElem_mem hk
  rw [List.all_eq_true.1 hall _ hm] at h
  cases h
theorem joinEnd_good (l : List ByteArray) (J : ByteArray) (hJ : joinB l = J) (h : ∀ j : Nat, j < l.length → goodW (rdOf ByteArray.empty l j) = true) (hl : 0 < l.length) : 0 < J.size ∧ joinEnd l J = (if bt J 0 = 35 then (⟨#[]⟩, 5) else if 65536 < J.size then (⟨#[]⟩, 4) else (J, 0)) := by
  have hall : (l.all goodW) = true := by
    refine List.all_eq_true.2 (fun s hm => ?_)
    obtain ⟨q, hq, rfl⟩ := List.getElem_of_mem hm
    have := h q hq
    have e : rdOf ByteArray.empty l (q : Int) = l[q] := by simp [rdOf, hq]
    rwa [e] at this
  constructor
  · subst hJ
    match l, hl with
    | x :: r, _ =>
      have hx := List.all_eq_true.1 hall x List.mem_cons_self
      unfold goodW at hx
      simp only [Bool.and_eq_true, decide_eq_true_eq] at hx
      have h1 : 0 < x.data.toList.length := by rw [toList_len']; omega
      have h2 : x.data.toList.length ≤ (Lib.join ((x :: r).map (·.data.toList)) [32]).length := by
        cases r with
        | nil => simp [Lib.join, List.intercalate, List.intersperse]
        | cons y r => simp [Lib.join, List.intercalate, List.intersperse]
      show 0 < (Lib.join ((x :: r).map (·.data.toList)) [32]).length
      omega
  · unfold joinEnd
    rw [if_pos hall]
set_option maxHeartbeats 2000000 in
set_option maxRecDepth 100000 in
theorem joinall_walk (g o c0 : Nat) (l : List ByteArray) (hl : 0 < l.length) (hl2 : l.length ≤ 4398046511104) (hc0 : l.length ≤ c0) (w : World) (had : g < w.heap.size)
    (hcell : ∀ i : Int, 0 ≤ i → i < l.length → w.cell? ⟨g, o + i.toNat, none⟩ = some (.string (rdOf ByteArray.empty l i)))
    (J : ByteArray) (hJ : joinB l = J) (hs : J.size ≤ 140737488355328) (r1 : ByteArray) (r2 : Int) (hr : joinEnd l J = (r1, r2)) :
    Calls Tryd.prog 15 #[.slice (some ⟨g, o, none⟩) l.length c0] w fun e w' => e = .returned (.tuple #[.string r1, .int .i64 r2]) ∧ Below w.heap.size w w' := by
  have hj : Calls Tryd.prog 25 #[.slice (some ⟨g, o, none⟩) l.length c0, .string ⟨#[32]⟩] w fun e w' => e = .returned (.string J) ∧ Below w.heap.size w w' := by
    rw [← hJ] at hs ⊢
    refine Tryd.strings_Join g o c0 l ⟨#[32]⟩ w ?_ had (by omega) hc0 ?_
    · intro j x hx
      have hj : j < l.length := (List.getElem?_eq_some_iff.1 hx).1
      have := hcell j (by omega) (by omega)
      rw [Int.toNat_natCast] at this
      rw [this]
      simp [rdOf, List.getD, hx]
    · have : (joinB l).size = (Lib.join (l.map (·.data.toList)) [32]).length := by
        unfold joinB
        rw [← toList_len']
      show (Lib.join (l.map (·.data.toList)) [32]).length ≤ 140737488355328
      omega
  have HJ := Aside0.mk hj
  have HC := Aside0.mk hcell
  have HR := Aside0.mk hr
  have z2 : ((l.length : Int) == 0) = false := beq_eq_false_iff_ne.2 (by omega)
  have HL := Aside0.mk hl
  have HJJ := Aside0.mk hJ
  have HL2 := Aside0.mk hl2
  clear hj hcell hl hl2 hs hJ hr
  go_enter Tryd.func15, Tryd.ntmps15
  go_wp2_with fail
  refine HJ.out.mono ?_
  rintro e w2 ⟨rfl, hb2⟩
  have HB := Aside0.mk hb2
  clear hb2
  go_wp2_with fail
  go_loopg [11] (l.length + 1) (fun gk v11 wr => ∃ k : Nat, v11 = .int .i64 k ∧ Aside0 (k + gk = l.length + 1 ∧ k ≤ l.length) ∧ Aside0 (∀ j : Nat, j < k → goodW (rdOf ByteArray.empty l j) = true) ∧ Aside0 (Below w.heap.size w wr))
  case atStart => exact ⟨0, rfl, ⟨by omega⟩, ⟨fun j h => by omega⟩, HB⟩
  case round =>
    obtain ⟨k, rfl, hk, hgd, hB⟩ := hrel
    by_cases ck : k < l.length
    · have e1 : decide ((k : Int) < (l.length : Int)) = true := decide_eq_true (by omega)
      have p1 : (k : Int) < (l.length : Int) := by omega
      have p2 : (0 : Int) ≤ (k : Int) := by omega
      have q1 := eq_true p1
      have q2 := eq_true p2
      have hcw : wr.cell? ⟨g, o + k, none⟩ = some (.string (rdOf ByteArray.empty l k)) := by
        have h := HC.out k (by omega) (by omega)
        rw [Int.toNat_natCast] at h
        exact (hB.out.cell (p := ⟨g, o + k, none⟩) had).trans h
      obtain ⟨S, hS⟩ : ∃ S, Aside0 (rdOf ByteArray.empty l (k : Int) = S) := ⟨_, ⟨rfl⟩⟩
      rw [hS.out] at hcw
      by_cases hz : S.size = 0
      · have hne : S.toList = [] := by
          rw [ByteArray.toList_eq]
          exact List.eq_nil_of_length_eq_zero hz
        have hne2 : (S.toList == []) = true := beq_iff_eq.2 hne
        have hR := HR.out
        rw [joinEnd_bad l J k ck (by rw [hS.out]; unfold goodW; simp [hz])] at hR
        simp only [Prod.mk.injEq] at hR
        obtain ⟨rfl, rfl⟩ := hR
        clear hz
        go_wp2
        refine bodyPost_ret (results_tmp2 rfl _ _ _) rfl ?_
        exact ⟨rfl, hB.out⟩
      · have hne : ¬ S.toList = [] := by
          intro e
          rw [ByteArray.toList_eq] at e
          exact hz (by rw [← toList_len', e]; rfl)
        have hne2 : (S.toList == []) = false := beq_eq_false_iff_ne.2 hne
        have HZ := Aside0.mk hz
        clear hz
        by_cases hp : plainW S = true
        · have HCP := Aside0.mk (fun W => contains_plain S hp W)
          have HP := Aside0.mk hp
          clear hp
          go_wp2_with fail
          refine (HCP.out _).mono ?_
          rintro e w3 ⟨rfl, hb3⟩
          have HB3 := Aside0.mk (hB.out.trans (hb3.mono hB.out.size))
          clear hb3 hcw hne hne2 HCP
          go_wp2_with fail
          go_roundg (gk - 1)
          case measure => have := hk.out; omega
          case rel => exact ⟨k + 1, by (have := hk.out; have := HL2.out; first | (go_num; done) | (congr 1; omega) | (congr 1; unfold wrap64; omega)), ⟨by have := hk.out; omega⟩, ⟨fun j hj => by
            by_cases e : j = k
            · subst e
              rw [hS.out]
              unfold goodW
              simp [HP.out, HZ.out]
            · exact hgd.out j (by omega)⟩, HB3⟩
        · have hp' : plainW S = false := by simpa using hp
          have HCP := Aside0.mk (fun W => contains_bad S hp' W)
          have hR := HR.out
          rw [joinEnd_bad l J k ck (by rw [hS.out]; unfold goodW; simp [hp'])] at hR
          simp only [Prod.mk.injEq] at hR
          obtain ⟨rfl, rfl⟩ := hR
          clear hp hp'
          go_wp2_with fail
          refine (HCP.out _).mono ?_
          rintro e w3 ⟨rfl, hb3⟩
          have HB3 := Aside0.mk (hB.out.trans (hb3.mono hB.out.size))
          clear hb3
          go_wp2
          refine bodyPost_ret (results_tmp2 rfl _ _ _) rfl ?_
          exact ⟨rfl, HB3.out⟩
    · have e1 : decide ((k : Int) < (l.length : Int)) = false := decide_eq_false (by omega)
      have hkl : k = l.length := by have := hk.out; omega
      obtain ⟨h0, hR⟩ := joinEnd_good l J HJJ.out (fun j hj => hgd.out j (by omega)) HL.out
      rw [HR.out] at hR
      clear hkl
      have z3 : (0 : Int) < (J.size : Int) := by omega
      by_cases c35 : bt J 0 = 35
      · rw [if_pos c35] at hR
        simp only [Prod.mk.injEq] at hR
        obtain ⟨rfl, rfl⟩ := hR
        have y35 : (((J[0]'h0).toNat : Int) == 35) = true := by rw [show ((J[0]'h0).toNat : Int) = bt J 0 from bt_at J 0 h0]; exact beq_iff_eq.2 c35
        clear c35
        go_wp2
        refine bodyPost_ret (results_tmp2 rfl _ _ _) rfl ?_
        exact ⟨rfl, hB.out⟩
      · rw [if_neg c35] at hR
        have y35 : (((J[0]'h0).toNat : Int) == 35) = false := by rw [show ((J[0]'h0).toNat : Int) = bt J 0 from bt_at J 0 h0]; exact beq_eq_false_iff_ne.2 c35
        clear c35
        by_cases cl : 65536 < J.size
        · rw [if_pos cl] at hR
          simp only [Prod.mk.injEq] at hR
          obtain ⟨rfl, rfl⟩ := hR
          have z1 : decide (65536 < (J.size : Int)) = true := decide_eq_true (by omega)
          clear cl
          go_wp2
          refine bodyPost_ret (results_tmp2 rfl _ _ _) rfl ?_
          exact ⟨rfl, hB.out⟩
        · rw [if_neg cl] at hR
          simp only [Prod.mk.injEq] at hR
          have z1 : decide (65536 < (J.size : Int)) = false := decide_eq_false (by omega)
          clear cl
          obtain ⟨hr1, rfl⟩ := hR
          have HR1 := Aside0.mk hr1
          clear hr1
          go_wp2
          refine bodyPost_ret (results_tmp2 rfl _ _ _) rfl ?_
          exact ⟨by rw [HR1.out]; rfl, hB.out⟩
/-- What Join tells. -/
def token_Join.f (l : List ByteArray) : Option (ByteArray × Int) :=
  if l.length ≤ 4398046511104 ∧ (joinB l).size ≤ 140737488355328 then some (if l.isEmpty then (⟨#[]⟩, 5) else joinEnd l (joinB l)) else none
set_option maxHeartbeats 2000000 in
set_option maxRecDepth 100000 in
theorem joinnone_walk (A : Option Addr) (c0 : Nat) (w : World) :
    Calls Tryd.prog 15 #[.slice A 0 c0] w fun e w' => e = .returned (.tuple #[.string ⟨#[]⟩, .int .i64 5]) ∧ Below w.heap.size w w' := by
  have HJ := Aside0.mk (Tryd.strings_Join_none A c0 ⟨#[32]⟩ w)
  go_enter Tryd.func15, Tryd.ntmps15
  go_wp2_with fail
  refine HJ.out.mono ?_
  rintro e w2 ⟨rfl, rfl⟩
  go_wp2_with fail
  go_loopg [11] 1 (fun gk v11 wr => v11 = .int .i64 0 ∧ Aside0 (gk = 1) ∧ Aside0 (Below w2.heap.size w2 wr))
  case atStart => exact ⟨rfl, ⟨rfl⟩, ⟨Below.refl _ _⟩⟩
  case round =>
    obtain ⟨rfl, hk, hB⟩ := hrel
    go_wp2
    refine bodyPost_ret (results_tmp2 rfl _ _ _) rfl ?_
    exact ⟨rfl, hB.out⟩
theorem token_Join.calls (A0 : Option Addr) (c0 : Nat) (l0 : List ByteArray) (r1 : ByteArray) (r2 : Int) (w : World) (hr0 : Kd.C Kd.string w A0 l0.length l0) (hc0 : l0.length ≤ c0) (h : token_Join.f l0 = some (r1, r2)) :
    Calls Tryd.prog 15 #[.slice A0 l0.length c0] w fun e w' => e = .returned (.tuple #[.string r1, .int .i64 r2]) ∧ Below w.heap.size w w' := by
  unfold token_Join.f at h
  split at h
  · rename_i hc
    obtain ⟨h2, h4⟩ := hc
    replace h := Option.some.inj h
    by_cases hz : l0 = []
    · subst hz
      simp only [List.isEmpty_nil, if_true, Prod.mk.injEq] at h
      obtain ⟨rfl, rfl⟩ := h
      exact joinnone_walk A0 c0 w
    · rw [if_neg (by simpa using hz)] at h
      have h1 : 0 < l0.length := List.length_pos_iff.2 hz
      obtain ⟨ad, rfl, h0⟩ := Kd.at_string hr0 0 (by omega) (by omega)
      have had : ad.block < w.heap.size := World.block_lt_of_cell? w (ad.add (0 : Int).toNat) h0
      obtain ⟨g, o, spot⟩ := ad
      have hspot : spot = none := by simpa [Addr.add] using World.cell?_spot h0
      subst hspot
      refine joinall_walk g o c0 l0 h1 h2 hc0 w had (fun i hi1 hi2 => ?_) _ rfl h4 r1 r2 h
      obtain ⟨ad', e, hc⟩ := Kd.at_string hr0 i hi1 hi2
      cases e
      have e' : (⟨g, o, none⟩ : Addr).add i.toNat = ⟨g, o + i.toNat, none⟩ := by
        unfold Addr.add
        split <;> simp_all
      rw [e'] at hc
      exact hc
  · cases h
end Go.Proofs.YthhdjbpmkfnhjaaDoor.P
