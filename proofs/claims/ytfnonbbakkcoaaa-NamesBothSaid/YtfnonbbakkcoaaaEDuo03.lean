/- The program's table beside the document's: what the two hold, and how both go on. -/
import Derived.Test.YtfnonbbakkcoaaaEAwake03
namespace Go.Proofs.Ytfnonbbakkcoaaa.P
open Go.RowKit Go.Proofs.YtfnonbbakkcoaaaW.PrintWords Go.Proofs.YtfnonbbakkcoaaaW.PrintLast Go.Proofs.YtfnonbbakkcoaaaW.PrintMore Go.Maps
set_option linter.unusedVariables false
set_option linter.unusedSimpArgs false
attribute [local go_sem ↓] Go.wp_at_zero Go.wp_at_succ
theorem RName_calls (p : Nat) (S : Nat → Prop) (l : List ByteArray) (x : Int) (w : World) (h : RtO w p S l) :
    Calls Try.prog 19 #[.pointer (some ⟨p, 0, none⟩), .int .i64 x] w fun e w' => e = .returned (nameV l x) ∧ Drawn0 w w' := by
  obtain ⟨v, h1, _, h3⟩ := h
  obtain ⟨A, c, rfl, hc, hC⟩ := Kd.R_reads h3
  have q0 := (blk_cell h1 0).trans rfl
  clear h1 h3
  by_cases c1 : x < 0
  · have H := Aside0.mk (show nameV l x = .tuple #[.string ⟨#[]⟩, .int .i64 3] from if_neg (by omega))
    have d1 := decide_eq_true c1
    clear c1 hC hc
    go_enter Try.func19, Try.ntmps19
    go_wp2
    go_ret2
    exact ⟨by rw [H.out]; rfl, by repeat (first | exact Drawn0.refl _ | apply Drawn0.step)⟩
  · have d1 := decide_eq_false c1
    by_cases c2 : x < (l.length : Int)
    · have H := Aside0.mk (show nameV l x = .tuple #[.string (rdOf ByteArray.empty l x), .int .i64 0] from if_pos ⟨by omega, c2⟩)
      have d2 : decide ((l.length : Int) ≤ x) = false := decide_eq_false (by omega)
      obtain ⟨ad, rfl, hcell⟩ := Kd.at_string hC x (by omega) c2
      have b1 : (0 : Int) ≤ x := by omega
      have b2 : x < (l.length : Int) := c2
      clear hC hc c1
      go_enter Try.func19, Try.ntmps19
      go_wp2
      go_ret2
      exact ⟨by rw [H.out]; rfl, by repeat (first | exact Drawn0.refl _ | apply Drawn0.step)⟩
    · have H := Aside0.mk (show nameV l x = .tuple #[.string ⟨#[]⟩, .int .i64 3] from if_neg (by omega))
      have d2 : decide ((l.length : Int) ≤ x) = true := decide_eq_true (by omega)
      clear c1 c2 hC hc
      go_enter Try.func19, Try.ntmps19
      go_wp2
      go_ret2
      exact ⟨by rw [H.out]; rfl, by repeat (first | exact Drawn0.refl _ | apply Drawn0.step)⟩
/-- Block p is a table of l1, block q a document's table of l2; both came after w0; neither has a block of F. -/
structure Duo3 (w0 w : World) (p q : Nat) (l1 l2 : List ByteArray) (F : Nat → Prop) : Prop where
  bel : Below w0.heap.size w0 w
  ex : ∃ S1 S2, TbO w p S1 l1 ∧ RtO w q S2 l2 ∧ (∀ k, S1 k → w0.heap.size ≤ k ∧ ¬ S2 k ∧ ¬ F k) ∧ (∀ k, S2 k → w0.heap.size ≤ k ∧ ¬ F k)
section
variable {w0 w w' : World} {p q : Nat} {l1 l2 : List ByteArray} {F F' : Nat → Prop}
theorem Duo3.tb (h : Duo3 w0 w p q l1 l2 F) : ∃ S, TbO w p S l1 := by
  obtain ⟨S1, _, h1, _⟩ := h.ex
  exact ⟨S1, h1⟩
theorem Duo3.rt (h : Duo3 w0 w p q l1 l2 F) : ∃ S, RtO w q S l2 := by
  obtain ⟨_, S2, _, h2, _⟩ := h.ex
  exact ⟨S2, h2⟩
theorem Duo3.below' (h : Duo3 w0 w p q l1 l2 F) (hb : Below w.heap.size w w') : Duo3 w0 w' p q l1 l2 F := by
  obtain ⟨S1, S2, h1, h2, h3, h4⟩ := h.ex
  exact ⟨h.bel.trans (hb.mono h.bel.size), S1, S2, h1.below hb, h2.below hb, h3, h4⟩
/-- New blocks set aside. -/
theorem Duo3.aside (h : Duo3 w0 w p q l1 l2 F) (hb : Below w.heap.size w w') (hF : ∀ k, F' k → w.heap.size ≤ k) : Duo3 w0 w' p q l1 l2 F' := by
  obtain ⟨S1, S2, h1, h2, h3, h4⟩ := h.ex
  exact ⟨h.bel.trans (hb.mono h.bel.size), _, _, h1.bound.below hb, h2.bound.below hb, fun k hk => ⟨(h3 k hk.1).1, fun h => (h3 k hk.1).2.1 h.1, fun h => absurd (hF k h) (by omega)⟩, fun k hk => ⟨(h4 k hk.1).1, fun h => absurd (hF k h) (by omega)⟩⟩
/-- What was set aside is written over. -/
theorem Duo3.over (h : Duo3 w0 w p q l1 l2 F) (hk : Kept w w' F) (hb : Below w0.heap.size w0 w') : Duo3 w0 w' p q l1 l2 F := by
  obtain ⟨S1, S2, h1, h2, h3, h4⟩ := h.ex
  exact ⟨hb, S1, S2, h1.step (fun k hs hl => hk.2 k hl (h3 k hs).2.2), h2.step (fun k hs hl => hk.2 k hl (h4 k hs).2), h3, h4⟩
theorem Duo3.add (h : Duo3 w0 w p q l1 l2 (fun _ => False)) (s : ByteArray) (hs : s.size ≤ 140737488351232) (hl : l1.length < 5000) :
    Calls Try.prog 12 #[.pointer (some ⟨p, 0, none⟩), .string s] w fun e w' => e = .returned (addV l1 s) ∧ Duo3 w0 w' p q (addN l1 s) l2 (fun _ => False) := by
  obtain ⟨S1, S2, h1, h2, h3, h4⟩ := h.ex
  refine (Add_calls p _ l1 s hs hl w h1).mono ?_
  rintro e w' ⟨rfl, hT, hC⟩
  have hz := h.bel.size
  refine ⟨rfl, h.bel.trans (hC.below hz (fun k hk => (h3 k hk).1)), _, _, hT, h2.bound.chg hC (fun k hk hk2 => (h3 k hk2).2.1 hk.1), fun k hk => ⟨?_, ?_, fun h => h⟩, fun k hk => ⟨(h4 k hk.1).1, fun h => h⟩⟩
  · rcases hk with hk | hk
    · exact (h3 k hk).1
    · omega
  · rintro ⟨h5, h6⟩
    rcases hk with hk | hk
    · exact (h3 k hk).2.1 h5
    · omega
theorem Duo3.radd (h : Duo3 w0 w p q l1 l2 (fun _ => False)) (s : ByteArray) (hs : s.size ≤ 140737488351232) (hl : l2.length < 5000) :
    Calls Try.prog 13 #[.pointer (some ⟨q, 0, none⟩), .string s] w fun e w' => e = .returned (addV l2 s) ∧ Duo3 w0 w' p q l1 (addN l2 s) (fun _ => False) := by
  obtain ⟨S1, S2, h1, h2, h3, h4⟩ := h.ex
  refine (RAdd_calls q _ l2 s hs hl w h2).mono ?_
  rintro e w' ⟨rfl, hT, hC⟩
  have hz := h.bel.size
  refine ⟨rfl, h.bel.trans (hC.below hz (fun k hk => (h4 k hk).1)), _, _, h1.bound.chg hC (fun k hk hk2 => (h3 k hk.1).2.1 hk2), hT, fun k hk => ⟨(h3 k hk.1).1, ?_, fun h => h⟩, fun k hk => ⟨?_, fun h => h⟩⟩
  · obtain ⟨h5, h6⟩ := hk
    rintro (hk | hk)
    · exact (h3 k h5).2.1 hk
    · omega
  · rcases hk with hk | hk
    · exact (h4 k hk).1
    · omega
end
/-- What Name answers, in two. -/
def nameR (l : List ByteArray) (n : Int) : ByteArray × Int := if 0 ≤ n ∧ n < (l.length : Int) then (rdOf ByteArray.empty l n, 0) else (⟨#[]⟩, 3)
theorem nameV_R (l : List ByteArray) (n : Int) : nameV l n = .tuple #[.string (nameR l n).1, .int .i64 (nameR l n).2] := by
  unfold nameV nameR
  split <;> rfl
def ofR (l : List ByteArray) (s : ByteArray) : Int × Int := match nidx l s with | some i => ((i : Int), 0) | none => (0, 11)
theorem ofN_R (l : List ByteArray) (s : ByteArray) : ofN l s = .tuple #[.int .i64 (ofR l s).1, .int .i64 (ofR l s).2] := by
  unfold ofN ofR
  cases nidx l s <;> rfl
def addR (l : List ByteArray) (s : ByteArray) : Int × Int := if nameB s = true then (match nidx l s with | some _ => (0, 10) | none => ((l.length : Int), 0)) else (0, 7)
theorem addV_R (l : List ByteArray) (s : ByteArray) : addV l s = .tuple #[.int .i64 (addR l s).1, .int .i64 (addR l s).2] := by
  unfold addV addR
  split
  · cases nidx l s <;> rfl
  · rfl
end Go.Proofs.Ytfnonbbakkcoaaa.P
