/- armisticelaw24.StoreSame: three stores side by side answer the same. -/
import Derived.Test.YtapnegdigghomaaEKnown24
import Derived.Test.YtapnegdigghomaaM24
namespace Go.Proofs.Ytapnegdigghomaa.P
open Go.RowKit Go.Proofs.YtapnegdigghomaaW.PrintWords Go.Proofs.YtapnegdigghomaaW.PrintLast Go.Proofs.YtapnegdigghomaaW.PrintMore Go.Maps
set_option linter.unusedVariables false
set_option linter.unusedSimpArgs false
structure Ob where
  p : Nat
  sd : Int
  bk : Int
/-- Three stores side by side, all made since w; what w holds stays. -/
def Tri (w wr : World) (a b c : Ob) (L1 L2 L3 : List (List Int)) : Prop :=
  ∃ S1 S2 S3 : Nat → Prop, (StO wr a.p a.sd a.bk S1 L1 ∧ StO wr b.p b.sd b.bk S2 L2 ∧ StO wr c.p c.sd c.bk S3 L3) ∧ (1 ≤ a.bk ∧ a.bk ≤ 65536) ∧ (1 ≤ b.bk ∧ b.bk ≤ 65536) ∧ (1 ≤ c.bk ∧ c.bk ≤ 65536) ∧
    ((∀ k, S1 k → ¬ S2 k) ∧ (∀ k, S2 k → ¬ S3 k) ∧ (∀ k, S3 k → ¬ S1 k)) ∧ (∀ k, S1 k ∨ S2 k ∨ S3 k → w.heap.size ≤ k ∧ k < wr.heap.size) ∧ Below w.heap.size w wr
section
variable {w wr w' : World} {a b c : Ob} {L1 L2 L3 : List (List Int)}
theorem Tri.rot (h : Tri w wr a b c L1 L2 L3) : Tri w wr b c a L2 L3 L1 := by
  obtain ⟨S1, S2, S3, ⟨h1, h2, h3⟩, k1, k2, k3, ⟨d1, d2, d3⟩, hk, hb⟩ := h
  exact ⟨S2, S3, S1, ⟨h2, h3, h1⟩, k2, k3, k1, ⟨d2, d3, d1⟩, fun k h => hk k (by rcases h with h | h | h <;> simp [h]), hb⟩
theorem Tri.bel (h : Tri w wr a b c L1 L2 L3) : Below w.heap.size w wr := by
  obtain ⟨S1, S2, S3, _, _, _, _, _, _, hb⟩ := h
  exact hb
theorem Tri.sto (h : Tri w wr a b c L1 L2 L3) : ∃ S, StO wr a.p a.sd a.bk S L1 := by
  obtain ⟨S1, S2, S3, ⟨h1, _⟩, _⟩ := h
  exact ⟨S1, h1⟩
theorem Tri.bk (h : Tri w wr a b c L1 L2 L3) : 1 ≤ a.bk ∧ a.bk ≤ 65536 := by
  obtain ⟨S1, S2, S3, _, k1, _⟩ := h
  exact k1
theorem Tri.below (h : Tri w wr a b c L1 L2 L3) (hb' : Below wr.heap.size wr w') : Tri w w' a b c L1 L2 L3 := by
  obtain ⟨S1, S2, S3, ⟨h1, h2, h3⟩, k1, k2, k3, d, hk, hb⟩ := h
  exact ⟨S1, S2, S3, ⟨h1.below hb', h2.below hb', h3.below hb'⟩, k1, k2, k3, d, fun k h => ⟨(hk k h).1, Nat.lt_of_lt_of_le (hk k h).2 hb'.size⟩, hb.trans (hb'.mono hb.size)⟩
theorem Tri.has (h : Tri w wr a b c L1 L2 L3) (hll : L1.length ≤ 1000000) (A0 : Option Addr) (c0 : Nat) (bs : List Int) (hc0 : bs.length ≤ c0) (hl : bs.length ≤ 1000000) (hr : Kd.C (Kd.int .u8) w A0 bs.length bs) (hub : isU8 bs = true) :
    Calls Try.prog 18 #[.pointer (some ⟨a.p, 0, none⟩), .slice A0 bs.length c0] wr fun e w' => e = .returned (.bool (hasB L1 bs)) ∧ Tri w w' a b c L1 L2 L3 := by
  obtain ⟨S, hs⟩ := h.sto
  have hk := h.bk
  refine (Has_calls a.p a.sd a.bk S L1 wr hs hk.1 hk.2 hll A0 c0 bs hc0 (by omega) (Kd.C_below hr h.bel) hub).mono ?_
  rintro e w' ⟨rfl, hb⟩
  exact ⟨rfl, h.below hb⟩
theorem Tri.put (h : Tri w wr a b c L1 L2 L3) (hll : L1.length ≤ 1000000) (A0 : Option Addr) (c0 : Nat) (bs : List Int) (hc0 : bs.length ≤ c0) (hl : bs.length ≤ 1000000) (hr : Kd.C (Kd.int .u8) w A0 bs.length bs) (hub : isU8 bs = true) :
    Calls Try.prog 20 #[.pointer (some ⟨a.p, 0, none⟩), .slice A0 bs.length c0] wr fun e w' => e = .returned (.tuple #[.bool (!hasB L1 bs), .int .i64 0]) ∧ Tri w w' a b c (putL L1 bs) L2 L3 := by
  obtain ⟨S1, S2, S3, ⟨h1, h2, h3⟩, k1, k2, k3, ⟨d1, d2, d3⟩, hk, hb⟩ := h
  refine (Put_calls a.p a.sd a.bk S1 L1 wr h1 k1.1 k1.2 hll A0 c0 bs hc0 (by omega) (fun w2 hc => Kd.C_below hr (hb.trans (hc.below hb.size (fun k hk' => (hk k (.inl hk')).1)))) hub).mono ?_
  rintro e w' ⟨rfl, hs, hc⟩
  have hz := hc.size
  refine ⟨rfl, _, S2, S3, ⟨hs.bound, h2.chg hc (fun k h2 h1 => d1 k h1 h2), h3.chg hc d3⟩, k1, k2, k3, ⟨fun k h4 h5 => h4.1.elim (fun h6 => d1 k h6 h5) (fun h6 => by have := (hk k (.inr (.inl h5))).2; omega), d2, fun k h4 h5 => h5.1.elim (fun h6 => d3 k h4 h6) (fun h6 => by have := (hk k (.inr (.inr h4))).2; omega)⟩, fun k h4 => ?_, hb.trans (hc.below hb.size (fun k hk' => (hk k (.inl hk')).1))⟩
  rcases h4 with h4 | h4 | h4
  · exact ⟨h4.1.elim (fun h6 => (hk k (.inl h6)).1) (fun h6 => Nat.le_trans hb.size h6), h4.2⟩
  · have := hk k (.inr (.inl h4)); omega
  · have := hk k (.inr (.inr h4)); omega
theorem Tri.len (h : Tri w wr a b c L1 L2 L3) : Calls Try.prog 26 #[.pointer (some ⟨a.p, 0, none⟩)] wr fun e w' => e = .returned (.int .i64 (L1.length : Int)) ∧ w' = wr := by
  obtain ⟨S, hs⟩ := h.sto
  exact Len_calls a.p a.sd a.bk S L1 wr hs (by have := h.bk; omega)
end
theorem Tri.made {w w1 w2 w3 : World} {a b c : Ob} (hb0 : Below w.heap.size w w1) (h1 : StO w1 a.p a.sd a.bk (fun k => w.heap.size ≤ k) []) (h2 : StO w2 b.p b.sd b.bk (fun k => w1.heap.size ≤ k) []) (hb2 : Below w1.heap.size w1 w2) (h3 : StO w3 c.p c.sd c.bk (fun k => w2.heap.size ≤ k) []) (hb3 : Below w2.heap.size w2 w3)
    (k1 : 1 ≤ a.bk ∧ a.bk ≤ 65536) (k2 : 1 ≤ b.bk ∧ b.bk ≤ 65536) (k3 : 1 ≤ c.bk ∧ c.bk ≤ 65536) : Tri w w3 a b c [] [] [] := by
  have z0 := hb0.size
  have z2 := hb2.size
  have z3 := hb3.size
  refine ⟨_, _, _, ⟨(h1.bound.below hb2).below hb3, h2.bound.below hb3, h3.bound⟩, k1, k2, k3, ⟨?_, ?_, ?_⟩, ?_, (hb0.trans (hb2.mono z0)).trans (hb3.mono (by omega))⟩
  · rintro k ⟨_, h⟩ ⟨h', _⟩; omega
  · rintro k ⟨_, h⟩ ⟨h', _⟩; omega
  · rintro k ⟨h, _⟩ ⟨_, h'⟩; omega
  · rintro k (⟨h, h'⟩ | ⟨h, h'⟩ | ⟨h, h'⟩) <;> omega
set_option maxHeartbeats 8000000 in
set_option maxRecDepth 100000 in
theorem Same_calls (A : Option Addr) (c : Nat) (l : List (List Int)) (one two few more : Int) (w : World) (hr : kB.C w A l.length l) (hc : l.length ≤ c) (hu : ∀ x ∈ l, isU8 x = true) (hl : l.length ≤ 140737488355232) :
    Calls Try.prog 7 #[.slice A l.length c, .int .i64 one, .int .i64 two, .int .i64 few, .int .i64 more] w fun e w' => e = .returned (.bool true) ∧ Below w.heap.size w w' := by
  obtain ⟨r, hr1, hr2⟩ := long_f l (by omega)
  obtain ⟨n1, hn1, n1a, n1b⟩ := pick_f few 50 (by decide) (by decide)
  obtain ⟨n2, hn2, n2a, n2b⟩ := pick_f more 50 (by decide) (by decide)
  have HL := Aside0.mk (fun w' (hb : Below w.heap.size w w') => armisticelaw24_long.calls 200 A c l r w' (Kd.C_below hr hb) hc hr1)
  have HP1 := Aside0.mk (fun w' => armisticekit_Pick.calls few 50 n1 w' hn1)
  have HP2 := Aside0.mk (fun w' => armisticekit_Pick.calls more 50 n2 w' hn2)
  have HR := Aside0.mk hr
  have HU := Aside0.mk hu
  have HR2 := Aside0.mk hr2
  clear hr hu hr1 hr2 hn1 hn2 hl hc
  go_enter Try.func7, Try.ntmps7
  go_wp2_with fail
  refine (Known_calls w).mono ?_
  rintro e w1 ⟨rfl, hb⟩
  have HB1 := Aside0.mk hb
  clear hb
  go_wp2_with fail
  refine (HL.out w1 HB1.out).mono ?_
  rintro e w2 ⟨rfl, hd⟩
  have HB2 := Aside0.mk (HB1.out.trans (hd.below.mono HB1.out.size))
  clear hd HB1
  cases r with
  | true =>
    go_wp2
    go_ret
    exact ⟨rfl, HB2.out⟩
  | false =>
    obtain ⟨hlen, hsz⟩ := HR2.out rfl
    have HSZ := Aside0.mk hsz
    clear hsz HR2 HL
    go_wp2_with fail
    refine (HP1.out w2).mono ?_
    rintro e w3 ⟨rfl, hd⟩
    have HB3 := Aside0.mk (HB2.out.trans (hd.below.mono HB2.out.size))
    clear hd HB2
    go_wp2_with fail
    refine (New_yes one (1 + n1) w3 (by omega) (by omega)).mono ?_
    rintro e w4 ⟨rfl, hS, hb⟩
    have HS1 := Aside0.mk hS
    have HB4 := Aside0.mk hb
    clear hS hb
    go_wp2_with fail
    refine (HP2.out w4).mono ?_
    rintro e w5 ⟨rfl, hd⟩
    have HB5 := Aside0.mk (HB4.out.trans (hd.below.mono HB4.out.size))
    have HS1' := Aside0.mk (HS1.out.below hd.below)
    clear hd HS1
    go_wp2_with fail
    refine (New_yes two (1 + n2) w5 (by omega) (by omega)).mono ?_
    rintro e w6 ⟨rfl, hS, hb⟩
    have HS2 := Aside0.mk hS
    have HB6 := Aside0.mk hb
    clear hS hb
    go_wp2_with fail
    refine (New_yes one 1 w6 (by omega) (by omega)).mono ?_
    rintro e w7 ⟨rfl, hS, hb⟩
    have HS3 := Aside0.mk hS
    have HB7 := Aside0.mk hb
    clear hS hb
    have hT : Tri w w7 ⟨w3.heap.size, one, 1 + n1⟩ ⟨w5.heap.size, two, 1 + n2⟩ ⟨w6.heap.size, one, 1⟩ [] [] [] :=
      Tri.made (w1 := w5) (HB3.out.trans (HB5.out.mono HB3.out.size)) (HS1'.out.mono (fun k hk => Nat.le_trans HB3.out.size hk)) HS2.out HB6.out HS3.out HB7.out ⟨by dsimp only; omega, by dsimp only; omega⟩ ⟨by dsimp only; omega, by dsimp only; omega⟩ ⟨by dsimp only; omega, by dsimp only; omega⟩
    generalize w3.heap.size = p1 at *
    generalize w5.heap.size = p2 at *
    generalize w6.heap.size = p3 at *
    have HT := Aside0.mk hT
    clear hT HS1' HS2 HS3 HB3 HB4 HB5 HB6 HB7 HP1 HP2
    go_wp2
    go_loopg [18] (l.length + 1) (fun g v18 wr => ∃ (k : Nat) (L : List (List Int)), k ≤ l.length ∧ Aside0 (k + g = l.length + 1) ∧ v18 = .int .i64 k ∧ Aside0 (Tri w wr ⟨p1, one, 1 + n1⟩ ⟨p2, two, 1 + n2⟩ ⟨p3, one, 1⟩ L L L) ∧ Aside0 (L.length ≤ k ∧ ∀ x ∈ L, x ∈ l))
    case atStart => exact ⟨0, [], by omega, ⟨by omega⟩, rfl, HT, ⟨Nat.le_refl _, fun x hx => by cases hx⟩⟩
    case round =>
      clear HT
      obtain ⟨k, L, hk, hg, rfl, T, hL⟩ := hrel
      have hL1 := hL.out.1
      by_cases c1 : k < l.length
      · obtain ⟨ad, A0, c0, ea, hcell, hcl, hcr⟩ := at_L2 HR.out (k : Int) (by omega) (by omega)
        cases ea
        simp only [Int.toNat_natCast] at hcell
        have hxk : rd_L2 l (k : Int) = l[k] := by simp [rd_L2, List.getD, c1]
        have hxl := HSZ.out _ (List.getElem_mem c1)
        have hxu := HU.out _ (List.getElem_mem c1)
        have hxm := List.getElem_mem c1
        obtain ⟨x, hxx⟩ : ∃ x, Aside0 (l[k] = x) := ⟨_, ⟨rfl⟩⟩
        rw [hxx.out] at hxk hxl hxu hxm
        rw [hxk] at hcell hcl hcr
        have HM := Aside0.mk hxm
        have HXU := Aside0.mk hxu
        have HCR := Aside0.mk hcr
        have HCE := Aside0.mk (fun W' (hb : Below w.heap.size w W') => (hb.cell (World.block_lt_of_cell? w _ hcell)).trans hcell)
        have hpl := Aside0.mk (hasB_put L x)
        have hpn := Aside0.mk (putL_len L x)
        have hb63 : x.length ≤ 1000000 := by omega
        have hL63 : L.length ≤ 1000000 := by omega
        have hL64 : (putL L x).length ≤ 1000000 := by have := hpn.out; omega
        have b0 := decide_eq_true (show ((k : Nat) : Int) < (l.length : Int) by omega)
        clear hxk hxu hxm hcr hcell
        have hc0 := HCE.out wr T.out.bel
        obtain ⟨h, hh⟩ : ∃ h, Aside0 (hasB L x = h) := ⟨_, ⟨rfl⟩⟩
        cases h with
        | false =>
          go_wp2_with fail
          refine (T.out.has hL63 A0 c0 x hcl hb63 HCR.out HXU.out).mono ?_
          rintro e w1 ⟨he, hT⟩
          obtain rfl : e = .returned (.bool false) := he.trans (by rw [hh.out])
          have T1 := Aside0.mk hT
          have hc1 := HCE.out w1 T1.out.bel
          clear he hT hc0
          go_wp2_with fail
          refine (T1.out.put hL63 A0 c0 x hcl hb63 HCR.out HXU.out).mono ?_
          rintro e w2 ⟨he, hT⟩
          obtain rfl : e = .returned (.tuple #[.bool true, .int .i64 0]) := he.trans (by rw [hh.out]; rfl)
          have T2 := Aside0.mk hT.rot
          have hc2 := HCE.out w2 T2.out.bel
          clear he hT hc1
          go_wp2_with fail
          refine (T2.out.put hL63 A0 c0 x hcl hb63 HCR.out HXU.out).mono ?_
          rintro e w3 ⟨he, hT⟩
          obtain rfl : e = .returned (.tuple #[.bool true, .int .i64 0]) := he.trans (by rw [hh.out]; rfl)
          have T3 := Aside0.mk hT.rot
          have hc3 := HCE.out w3 T3.out.bel
          clear he hT hc2
          go_wp2_with fail
          refine (T3.out.put hL63 A0 c0 x hcl hb63 HCR.out HXU.out).mono ?_
          rintro e w4 ⟨he, hT⟩
          obtain rfl : e = .returned (.tuple #[.bool true, .int .i64 0]) := he.trans (by rw [hh.out]; rfl)
          have T4 := Aside0.mk hT.rot
          have hc4 := HCE.out w4 T4.out.bel
          clear he hT hc3
          go_wp2_with fail
          refine (T4.out.has hL64 A0 c0 x hcl hb63 HCR.out HXU.out).mono ?_
          rintro e w5 ⟨he, hT⟩
          obtain rfl : e = .returned (.bool true) := he.trans (by rw [hpl.out])
          have T5 := Aside0.mk hT.rot
          have hc5 := HCE.out w5 T5.out.bel
          clear he hT hc4
          go_wp2_with fail
          refine (T5.out.has hL64 A0 c0 x hcl hb63 HCR.out HXU.out).mono ?_
          rintro e w6 ⟨he, hT⟩
          obtain rfl : e = .returned (.bool true) := he.trans (by rw [hpl.out])
          have T6 := Aside0.mk hT.rot
          have hc6 := HCE.out w6 T6.out.bel
          clear he hT hc5
          go_wp2_with fail
          refine (T6.out.has hL64 A0 c0 x hcl hb63 HCR.out HXU.out).mono ?_
          rintro e w7 ⟨he, hT⟩
          obtain rfl : e = .returned (.bool true) := he.trans (by rw [hpl.out])
          have T7 := Aside0.mk hT.rot
          have hc7 := HCE.out w7 T7.out.bel
          clear he hT hc6
          go_wp2_with fail
          refine (T7.out.len).mono ?_
          rintro e w7 ⟨rfl, rfl⟩
          go_wp2_with fail
          refine (T7.out.rot.len).mono ?_
          rintro e w7 ⟨rfl, rfl⟩
          go_wp2_with fail
          refine (T7.out.len).mono ?_
          rintro e w7 ⟨rfl, rfl⟩
          go_wp2_with fail
          refine (T7.out.rot.rot.len).mono ?_
          rintro e w7 ⟨rfl, rfl⟩
          go_wp2
          go_roundg (gk - 1)
          case measure => have := hg.out; omega
          case rel => exact ⟨k + 1, putL L x, by omega, ⟨by have := hg.out; omega⟩, by go_num, T7, ⟨by have := hpn.out; omega, fun y hy => by
            unfold putL at hy
            split at hy
            · exact hL.out.2 y hy
            · rcases List.mem_append.1 hy with hy | hy
              · exact hL.out.2 y hy
              · rw [List.mem_singleton.1 hy]; exact HM.out⟩⟩
        | true =>
          go_wp2_with fail
          refine (T.out.has hL63 A0 c0 x hcl hb63 HCR.out HXU.out).mono ?_
          rintro e w1 ⟨he, hT⟩
          obtain rfl : e = .returned (.bool true) := he.trans (by rw [hh.out])
          have T1 := Aside0.mk hT
          have hc1 := HCE.out w1 T1.out.bel
          clear he hT hc0
          go_wp2_with fail
          refine (T1.out.put hL63 A0 c0 x hcl hb63 HCR.out HXU.out).mono ?_
          rintro e w2 ⟨he, hT⟩
          obtain rfl : e = .returned (.tuple #[.bool false, .int .i64 0]) := he.trans (by rw [hh.out]; rfl)
          have T2 := Aside0.mk hT.rot
          have hc2 := HCE.out w2 T2.out.bel
          clear he hT hc1
          go_wp2_with fail
          refine (T2.out.put hL63 A0 c0 x hcl hb63 HCR.out HXU.out).mono ?_
          rintro e w3 ⟨he, hT⟩
          obtain rfl : e = .returned (.tuple #[.bool false, .int .i64 0]) := he.trans (by rw [hh.out]; rfl)
          have T3 := Aside0.mk hT.rot
          have hc3 := HCE.out w3 T3.out.bel
          clear he hT hc2
          go_wp2_with fail
          refine (T3.out.put hL63 A0 c0 x hcl hb63 HCR.out HXU.out).mono ?_
          rintro e w4 ⟨he, hT⟩
          obtain rfl : e = .returned (.tuple #[.bool false, .int .i64 0]) := he.trans (by rw [hh.out]; rfl)
          have T4 := Aside0.mk hT.rot
          have hc4 := HCE.out w4 T4.out.bel
          clear he hT hc3
          go_wp2_with fail
          refine (T4.out.has hL64 A0 c0 x hcl hb63 HCR.out HXU.out).mono ?_
          rintro e w5 ⟨he, hT⟩
          obtain rfl : e = .returned (.bool true) := he.trans (by rw [hpl.out])
          have T5 := Aside0.mk hT.rot
          have hc5 := HCE.out w5 T5.out.bel
          clear he hT hc4
          go_wp2_with fail
          refine (T5.out.has hL64 A0 c0 x hcl hb63 HCR.out HXU.out).mono ?_
          rintro e w6 ⟨he, hT⟩
          obtain rfl : e = .returned (.bool true) := he.trans (by rw [hpl.out])
          have T6 := Aside0.mk hT.rot
          have hc6 := HCE.out w6 T6.out.bel
          clear he hT hc5
          go_wp2_with fail
          refine (T6.out.has hL64 A0 c0 x hcl hb63 HCR.out HXU.out).mono ?_
          rintro e w7 ⟨he, hT⟩
          obtain rfl : e = .returned (.bool true) := he.trans (by rw [hpl.out])
          have T7 := Aside0.mk hT.rot
          have hc7 := HCE.out w7 T7.out.bel
          clear he hT hc6
          go_wp2_with fail
          refine (T7.out.len).mono ?_
          rintro e w7 ⟨rfl, rfl⟩
          go_wp2_with fail
          refine (T7.out.rot.len).mono ?_
          rintro e w7 ⟨rfl, rfl⟩
          go_wp2_with fail
          refine (T7.out.len).mono ?_
          rintro e w7 ⟨rfl, rfl⟩
          go_wp2_with fail
          refine (T7.out.rot.rot.len).mono ?_
          rintro e w7 ⟨rfl, rfl⟩
          go_wp2
          go_roundg (gk - 1)
          case measure => have := hg.out; omega
          case rel => exact ⟨k + 1, putL L x, by omega, ⟨by have := hg.out; omega⟩, by go_num, T7, ⟨by have := hpn.out; omega, fun y hy => by
            unfold putL at hy
            split at hy
            · exact hL.out.2 y hy
            · rcases List.mem_append.1 hy with hy | hy
              · exact hL.out.2 y hy
              · rw [List.mem_singleton.1 hy]; exact HM.out⟩⟩
      · have b0 := decide_eq_false (show ¬ ((k : Nat) : Int) < (l.length : Int) by omega)
        have hS := T.out.rot.rot
        obtain ⟨S, hs⟩ := hS.sto
        have HBk := Aside0.mk (Bucket_yes p3 one 1 S L wr hs (by decide) (by omega) (fun y hy => by have := HSZ.out y (hL.out.2 y hy); omega) 0 (by decide) (by decide))
        rw [rows_one] at HBk
        clear hS hs
        go_wp2_with fail
        refine HBk.out.mono ?_
        rintro e w2 ⟨v, rfl, hS, hb⟩
        obtain ⟨A3, c3, rfl⟩ := Kd.S_slice hS
        have T2 := Aside0.mk (T.out.below hb)
        clear hS hb
        go_wp2_with fail
        refine (T2.out.rot.rot.len).mono ?_
        rintro e w2 ⟨rfl, rfl⟩
        go_wp2
        go_ret
        exact ⟨rfl, T2.out.bel⟩
end Go.Proofs.Ytapnegdigghomaa.P
