/- armisticelaw24.StoreScript: what a store answers, put by put, and who stands in a bucket. -/
import Derived.Test.YtapnegdigghomaaERef24
import Derived.Test.YtapnegdigghomaaM24
namespace Go.Proofs.Ytapnegdigghomaa.P
open Go.RowKit Go.Proofs.YtapnegdigghomaaW.PrintWords Go.Proofs.YtapnegdigghomaaW.PrintLast Go.Proofs.YtapnegdigghomaaW.PrintMore Go.Maps
set_option linter.unusedVariables false
set_option linter.unusedSimpArgs false
theorem over_from (d : Nat) : ∀ (k i : Nat) (l : List Int), l.length ≤ 140737488355328 → l.length - i = d → i ≤ l.length → d < k → ∃ r, armisticekit_OverBytes.l0 k l (i : Int) = some r ∧ r.length = l.length := by
  induction d with
  | zero =>
    intro k i l hl hd hi hk
    obtain ⟨k, rfl⟩ : ∃ m, k = m + 1 := ⟨k - 1, by omega⟩
    exact ⟨l, by rw [armisticekit_OverBytes.l0, if_neg (by omega)], rfl⟩
  | succ d ih =>
    intro k i l hl hd hi hk
    obtain ⟨k, rfl⟩ : ∃ m, k = m + 1 := ⟨k - 1, by omega⟩
    obtain ⟨r, hr, hr2⟩ := ih k (i + 1) (l.set i (Go.bits .xor .u8 (rd l (i : Int)) 165)) (by simpa using hl) (by simp; omega) (by simp; omega) (by omega)
    have e2 : wrap64 ((i : Int) + 1) = ((i + 1 : Nat) : Int) := by unfold wrap64; omega
    refine ⟨r, ?_, by simpa using hr2⟩
    rw [armisticekit_OverBytes.l0, if_pos (by omega), if_pos (by omega), e2]
    exact hr
theorem over_f (l : List Int) (hl : l.length ≤ 140737488355328) : ∃ r, armisticekit_OverBytes.f (l.length + 1) l = some r ∧ r.length = l.length := over_from l.length (l.length + 1) 0 l hl rfl (Nat.zero_le _) (by omega)
/-- Bytes of the call's own (in blocks F) are written over: all else stays. -/
theorem Over_calls (F : Nat → Prop) (v : Value) (x : List Int) (w0 w : World) (hl : x.length ≤ 140737488355328) (hB : Below w0.heap.size w0 w) (hR : Kd.R (Kd.int .u8) 5 w w0.heap.size F v x) :
    Calls Try.prog 22 #[v] w fun e w' => e = .returned (.tuple #[]) ∧ Below w0.heap.size w0 w' ∧ Kept w w' F := by
  obtain ⟨r, hr, _⟩ := over_f x hl
  exact (armisticekit_OverBytes.calls (x.length + 1) F v x r w0 w hB hR hr).mono fun e w' ⟨h1, _, h3, h4⟩ => ⟨h1, h3, h4⟩
theorem same_from (l : List (List Int)) (hl : l.length ≤ 140737488355328) (d : Nat) : ∀ (k i : Nat), l.length - i = d → i ≤ l.length → d < k → armisticelaw24_sameLists.l0 k l l true (i : Int) = some true := by
  induction d with
  | zero =>
    intro k i hd hi hk
    obtain ⟨k, rfl⟩ : ∃ m, k = m + 1 := ⟨k - 1, by omega⟩
    rw [armisticelaw24_sameLists.l0]
    simp only [if_true]
    rw [if_neg (by simp; omega)]
  | succ d ih =>
    intro k i hd hi hk
    obtain ⟨k, rfl⟩ : ∃ m, k = m + 1 := ⟨k - 1, by omega⟩
    have e2 : wrap64 ((i : Int) + 1) = ((i + 1 : Nat) : Int) := by unfold wrap64; omega
    rw [armisticelaw24_sameLists.l0]
    simp only [if_true]
    rw [if_pos (by simp; omega), if_pos (by omega), if_pos (by omega), e2]
    unfold armisticekit_SameBytes.f
    simp only [Option.bind_some, beq_self_eq_true]
    exact ih k (i + 1) (by omega) (by omega) (by omega)
theorem same_f (l : List (List Int)) (hl : l.length ≤ 140737488355328) : armisticelaw24_sameLists.f (l.length + 1) l l = some true := by
  unfold armisticelaw24_sameLists.f
  rw [beq_self_eq_true]
  exact same_from l hl l.length (l.length + 1) 0 rfl (Nat.zero_le _) (by omega)
/-- A store and the document's one beside it, all made since w; blocks F are others'. -/
def Duo (w wr : World) (p q : Nat) (sd bk : Int) (L1 L2 : List (List Int)) (F : Nat → Prop) : Prop :=
  ∃ S1 S2 : Nat → Prop, StO wr p sd bk S1 L1 ∧ RfO wr q sd bk S2 L2 ∧ (∀ k, S1 k → ¬ S2 k) ∧ (∀ k, S1 k ∨ S2 k → w.heap.size ≤ k ∧ k < wr.heap.size ∧ ¬ F k) ∧ (∀ k, F k → k < wr.heap.size) ∧ Below w.heap.size w wr
section
variable {w wr w' : World} {p q : Nat} {sd bk : Int} {L1 L2 : List (List Int)} {F F' : Nat → Prop}
theorem Duo.bel (h : Duo w wr p q sd bk L1 L2 F) : Below w.heap.size w wr := by
  obtain ⟨S1, S2, _, _, _, _, _, hb⟩ := h
  exact hb
theorem Duo.sto (h : Duo w wr p q sd bk L1 L2 F) : ∃ S, StO wr p sd bk S L1 := by
  obtain ⟨S1, S2, h1, _⟩ := h
  exact ⟨S1, h1⟩
theorem Duo.rfo (h : Duo w wr p q sd bk L1 L2 F) : ∃ S, RfO wr q sd bk S L2 := by
  obtain ⟨S1, S2, _, h2, _⟩ := h
  exact ⟨S2, h2⟩
/-- New blocks may become others'. -/
theorem Duo.below (h : Duo w wr p q sd bk L1 L2 F) (hb' : Below wr.heap.size wr w') (hF : ∀ k, F' k → (F k ∨ wr.heap.size ≤ k) ∧ k < w'.heap.size) : Duo w w' p q sd bk L1 L2 F' := by
  obtain ⟨S1, S2, h1, h2, d, hk, hf, hb⟩ := h
  refine ⟨S1, S2, h1.below hb', h2.below hb', d, fun k hS => ?_, fun k hk' => (hF k hk').2, hb.trans (hb'.mono hb.size)⟩
  have := hk k hS
  have hz := hb'.size
  exact ⟨this.1, by omega, fun hf' => (hF k hf').1.elim this.2.2 (fun h5 => by omega)⟩
theorem Duo.below' (h : Duo w wr p q sd bk L1 L2 F) (hb' : Below wr.heap.size wr w') : Duo w w' p q sd bk L1 L2 F := by
  have hf : ∀ k, F k → k < wr.heap.size := by
    obtain ⟨S1, S2, _, _, _, _, hf, _⟩ := h
    exact hf
  exact h.below hb' (fun k hk => ⟨.inl hk, Nat.lt_of_lt_of_le (hf k hk) hb'.size⟩)
/-- What is others' is written over. -/
theorem Duo.over (h : Duo w wr p q sd bk L1 L2 F) (hk' : Kept wr w' F) (hb' : Below w.heap.size w w') : Duo w w' p q sd bk L1 L2 F := by
  obtain ⟨S1, S2, h1, h2, d, hk, hf, hb⟩ := h
  have st : ∀ k, S1 k ∨ S2 k → k < wr.heap.size → w'.heap[k]? = wr.heap[k]? := fun k hS hl => hk'.2 k hl (hk k hS).2.2
  exact ⟨S1, S2, (by obtain ⟨m, hm⟩ := h1; exact ⟨m, hm.step (fun k hS hl => st k (.inl hS) hl)⟩), h2.step (fun k hS hl => st k (.inr hS) hl), d, fun k hS => ⟨(hk k hS).1, Nat.lt_of_lt_of_le (hk k hS).2.1 hk'.1, (hk k hS).2.2⟩, fun k hF => Nat.lt_of_lt_of_le (hf k hF) hk'.1, hb'⟩
theorem Duo.put (h : Duo w wr p q sd bk L1 L2 F) (hb0 : 1 ≤ bk) (hb1 : bk ≤ 65536) (hll : L1.length ≤ 1000000) (A0 : Option Addr) (c0 : Nat) (bs : List Int) (hc0 : bs.length ≤ c0) (hl : bs.length ≤ 1000000)
    (hr : ∀ w', Chg (fun k => ¬ F k) wr w' → Below w.heap.size w w' → Kd.C (Kd.int .u8) w' A0 bs.length bs) (hub : isU8 bs = true) :
    Calls Try.prog 20 #[.pointer (some ⟨p, 0, none⟩), .slice A0 bs.length c0] wr fun e w' => e = .returned (.tuple #[.bool (!hasB L1 bs), .int .i64 0]) ∧ Duo w w' p q sd bk (putL L1 bs) L2 F ∧ Chg (fun k => ¬ F k) wr w' := by
  obtain ⟨S1, S2, h1, h2, d, hk, hf, hb⟩ := h
  have hS1 : ∀ k, S1 k → w.heap.size ≤ k := fun k hS => (hk k (.inl hS)).1
  refine (Put_calls p sd bk S1 L1 wr h1 hb0 hb1 hll A0 c0 bs hc0 (by omega) (fun w2 hc => hr w2 (hc.mono (fun k hS => (hk k (.inl hS)).2.2)) (hb.trans (hc.below hb.size hS1))) hub).mono ?_
  rintro e w' ⟨rfl, hs, hc⟩
  have hz := hc.size
  refine ⟨rfl, ⟨_, S2, hs.bound, h2.chg hc (fun k h2 h1 => d k h1 h2), fun k h4 h5 => h4.1.elim (fun h6 => d k h6 h5) (fun h6 => by have := (hk k (.inr h5)).2; omega), fun k h4 => ?_, fun k hF => Nat.lt_of_lt_of_le (hf k hF) hz, hb.trans (hc.below hb.size hS1)⟩, hc.mono (fun k hS => (hk k (.inl hS)).2.2)⟩
  rcases h4 with h4 | h4
  · refine ⟨h4.1.elim (fun h6 => (hk k (.inl h6)).1) (fun h6 => Nat.le_trans hb.size h6), h4.2, fun hF => ?_⟩
    rcases h4.1 with h6 | h6
    · exact (hk k (.inl h6)).2.2 hF
    · have := hf k hF; omega
  · have := hk k (.inr h4)
    exact ⟨this.1, by omega, this.2.2⟩
theorem Duo.rput (h : Duo w wr p q sd bk L1 L2 F) (hll : L2.length ≤ 1000000) (A0 : Option Addr) (c0 : Nat) (bs : List Int) (hc0 : bs.length ≤ c0) (hl : bs.length ≤ 1000000)
    (hr : Kd.C (Kd.int .u8) w A0 bs.length bs) (hub : isU8 bs = true) :
    Calls Try.prog 21 #[.pointer (some ⟨q, 0, none⟩), .slice A0 bs.length c0] wr fun e w' => e = .returned (.tuple #[.bool (!hasB L2 bs), .int .i64 0]) ∧ Duo w w' p q sd bk L1 (putL L2 bs) F ∧ Chg (fun k => ¬ F k) wr w' := by
  obtain ⟨S1, S2, h1, h2, d, hk, hf, hb⟩ := h
  have hS2 : ∀ k, S2 k → w.heap.size ≤ k := fun k hS => (hk k (.inr hS)).1
  refine (RPut_calls q sd bk S2 L2 wr h2 hll A0 c0 bs hc0 hl (Kd.C_below hr hb) hub).mono ?_
  rintro e w' ⟨rfl, hs, hc⟩
  have hz := hc.size
  refine ⟨rfl, ⟨S1, _, h1.chg hc d, hs.bound, fun k h5 h4 => h4.1.elim (fun h6 => d k h5 h6) (fun h6 => by have := (hk k (.inl h5)).2; omega), fun k h4 => ?_, fun k hF => Nat.lt_of_lt_of_le (hf k hF) hz, hb.trans (hc.below hb.size hS2)⟩, hc.mono (fun k hS => (hk k (.inr hS)).2.2)⟩
  rcases h4 with h4 | h4
  · have := hk k (.inl h4)
    exact ⟨this.1, by omega, this.2.2⟩
  · refine ⟨h4.1.elim (fun h6 => (hk k (.inr h6)).1) (fun h6 => Nat.le_trans hb.size h6), h4.2, fun hF => ?_⟩
    rcases h4.1 with h6 | h6
    · exact (hk k (.inr h6)).2.2 hF
    · have := hf k hF; omega
end
theorem Duo.made {w w1 w2 : World} {p q : Nat} {sd bk : Int} (hs : StO w1 p sd bk (fun k => w.heap.size ≤ k) []) (hb1 : Below w.heap.size w w1) (hr : RfO w2 q sd bk (fun k => w1.heap.size ≤ k) []) (hb2 : Below w1.heap.size w1 w2) : Duo w w2 p q sd bk [] [] (fun _ => False) := by
  have z1 := hb1.size
  have z2 := hb2.size
  refine ⟨_, _, hs.bound.below hb2, hr.bound, fun k h1 h2 => ?_, fun k hk => ?_, fun _ h => h.elim, hb1.trans (hb2.mono z1)⟩
  · have := h1.2; have := h2.1; omega
  · refine ⟨?_, ?_, fun h => h⟩
    · rcases hk with h | h
      · exact h.1
      · have := h.1; omega
    · rcases hk with h | h
      · have := h.2; omega
      · exact h.2
end Go.Proofs.Ytapnegdigghomaa.P
