/- operation.Text: an operation's text. -/
import Derived.Test.YtkjnbfjbdlcehaaGreatDoorECheck
import Derived.Test.YtkjnbfjbdlcehaaGreatDoorEPut
import Derived.Test.YtkjnbfjbdlcehaaGreatDoorShelfP
import Derived.LoopN
namespace Go.Proofs.YtkjnbfjbdlcehaaGreatDoor.P
open Go.RowKit Go.Proofs.YtkjnbfjbdlcehaaGreatDoorW.PrintWords Go.Proofs.YtkjnbfjbdlcehaaGreatDoorW.PrintLast Go.Proofs.YtkjnbfjbdlcehaaGreatDoorW.PrintMore
set_option linter.unusedVariables false
set_option linter.unusedSimpArgs false

def putStr (a : Int) : ByteArray := strOfNums (putRev a).reverse
def toldB (rk rn : Int) : ByteArray := if rk = 0 then ⟨#[111, 107]⟩ else if rk = 1 then ⟨#[110, 111, 110, 101]⟩ else putStr rn
def textWords (x : Kd1) (a b rk rn : Int) : List ByteArray := x.word :: ((if x.args = 0 then [] else if x.args = 1 then [putStr a] else [putStr a, putStr b]) ++ [⟨#[45, 62]⟩, toldB rk rn])
def joinB (xs : List ByteArray) : ByteArray := ⟨(Lib.join (xs.map (·.data.toList)) [32]).toArray⟩
def operation_Text.f (k a b rk rn : Int) : Option (ByteArray × Int) :=
  if isI64 a ∧ isI64 b ∧ isI64 rn then (operation_Check.f k a b rk rn).bind fun e => if e = 0 then some (joinB (textWords (kdOf k) a b rk rn), 0) else some (⟨#[]⟩, e) else none
theorem put_at (a : Int) (ha : isI64 a) (w : World) : Calls Tryz.prog 59 #[.int .i64 a] w fun e w' => e = .returned (.string (putStr a)) ∧ Below w.heap.size w w' := callsIn_wide.1 (put_in a ha w)
theorem kinds_args3 : ∀ x ∈ kinds15, x.args = 0 ∨ x.args = 1 ∨ x.args = 2 := by decide
theorem kinds_word8 : ∀ x ∈ kinds15, x.word.size ≤ 8 := by decide
theorem toList_len' (s : ByteArray) : s.data.toList.length = s.size := rfl
theorem putStr_size (a : Int) : (putStr a).size ≤ 21 := by
  have h := digs_length 20 a.natAbs
  have : (putStr a).size = (putRev a).length := by
    rw [← toList_len', putStr, strOfNums]
    simp
  rw [this]
  unfold putRev
  split <;> simp <;> omega
theorem infoS : (Tryz.prog.info? 9).map (fun i => (i.zero, i.size, i.bytes)) = some (some (.string ⟨#[]⟩), 1, 16) := by kernel_rfl
theorem world3 (w w3 : World) (K Wd I : Obj) (h : w.heap.size < w3.heap.size) (HB : Below w.heap.size w w3) {o : Obj} (hz : w3.heap[w.heap.size]? = some o) :
    (((w3.alloc K).alloc Wd).alloc I).heap[w.heap.size]? = some o ∧ (((w3.alloc K).alloc Wd).alloc I).heap[w3.heap.size + 1]? = some Wd ∧ (((w3.alloc K).alloc Wd).alloc I).heap[w3.heap.size + 1 + 1]? = some I ∧ Below w.heap.size w (((w3.alloc K).alloc Wd).alloc I) ∧ w.heap.size + 1 ≤ w3.heap.size + 1 ∧ w.heap.size + 1 ≤ w3.heap.size + 1 + 1 ∧ w3.heap.size + 1 ≠ w3.heap.size + 1 + 1 := by
  have e1 := blk_new (w3.alloc K) Wd
  have e2 := blk_new ((w3.alloc K).alloc Wd) I
  simp only [World.size_alloc] at e1 e2
  refine ⟨?_, ?_, e2, ?_, by omega, by omega, by omega⟩
  · exact blk_below (blk_below (blk_below hz ((Below.refl _ _).alloc (Nat.le_refl _) _)) ((Below.refl _ _).alloc (Nat.le_refl _) _)) ((Below.refl _ _).alloc (Nat.le_refl _) _)
  · exact blk_below e1 ((Below.refl _ _).alloc (Nat.le_refl _) _)
  · exact ((HB.alloc (by omega) _).alloc (by simp; omega) _).alloc (by simp; omega) _
theorem own_below_row {W w' : World} {base : Nat} {e : TypeId} {size n : Nat} {v : Value} {xs : List Value} (h : W.ownsRow base e size v n xs) (hb : Below W.heap.size W w') : w'.ownsRow base e size v n xs := by
  refine own_move h (fun k hk => ?_)
  obtain ⟨cells, hc⟩ := own_typed h k hk
  exact hb.block k (Array.getElem?_eq_some_iff.1 hc).1
theorem cells_two (W : World) (o : Obj) (x y : Value) (t : TypeId) : ∀ (j : Nat) (u : Value), [x, y][j]? = some u → ((W.alloc o).alloc (.cells #[x, y] t)).cell? ((⟨W.heap.size + 1, 0, none⟩ : Addr).add j) = some u := by
  intro j u hu
  have hb := blk_new (W.alloc o) (.cells #[x, y] t)
  rw [World.size_alloc] at hb
  have : (⟨W.heap.size + 1, 0, none⟩ : Addr).add j = ⟨W.heap.size + 1, j, none⟩ := by
    simp [Addr.add]
    exact fun h => h.symm
  rw [this, blk_cell hb, List.getElem?_toArray]
  exact hu
theorem join_own (base g c : Nat) (xs : List ByteArray) (W : World) (hown : W.ownsRow base 9 1 (.slice (some ⟨g, 0, none⟩) xs.length c) xs.length (xs.map Value.string)) (hN : xs.length ≤ 140737488355328) (hl : (Lib.join (xs.map (·.data.toList)) [32]).length ≤ 140737488355328) :
    Calls Tryz.prog 37 #[.slice (some ⟨g, 0, none⟩) xs.length c, .string ⟨#[32]⟩] W fun e w' => e = .returned (.string (joinB xs)) ∧ Below W.heap.size W w' := by
  rcases hown.2 with ⟨h, _⟩ | ⟨g', cap, cur, h, hb, hh, hn, hm, hs, ht⟩
  · cases h
  · simp only [Value.slice.injEq, Option.some.injEq, Addr.mk.injEq, and_true, true_and] at h
    obtain ⟨rfl, rfl⟩ := h
    refine Tryz.strings_Join g 0 c xs ⟨#[32]⟩ W ?_ (blk_lt hh) hN hn hl
    intro j x hx
    have hj : j < xs.length := (List.getElem?_eq_some_iff.1 hx).1
    have := hown.cellAt j (by omega)
    rw [Nat.zero_add, this, List.getElem?_map, hx]
    rfl
attribute [local irreducible] putStr
set_option maxHeartbeats 4000000 in
set_option maxRecDepth 100000 in
theorem text_0_0 (n typ : Int) (word : ByteArray) (ret arg : Nat) (done nothing : Bool) (hw : word.size ≤ 8) (k a b rn : Int) (ha : isI64 a) (hb : isI64 b) (hn : isI64 rn) (w : World)
    (hc : ∀ W, Calls Tryz.prog 42 #[.agg #[.int .i64 k, .int .i64 a, .int .i64 b, .int .i64 0, .int .i64 rn]] W fun e w' => e = .returned (.int .i64 0) ∧ Below W.heap.size W w')
    (hby : ∀ W, Calls Tryz.prog 60 #[.int .i64 k] W fun e w' => e = .returned (.tuple #[.agg #[.int .i64 n, .int .i64 typ, .string word, .int .i64 0, .func (.func ret) #[] #[], .func (.func arg) #[] #[], .bool done, .bool nothing], .int .i64 0]) ∧ Below W.heap.size W w') :
    Calls Tryz.prog 36 #[.agg #[.int .i64 k, .int .i64 a, .int .i64 b, .int .i64 0, .int .i64 rn]] w fun e w' => e = .returned (.tuple #[.string (joinB (textWords ⟨n, typ, word, 0, ret, arg, done, nothing⟩ a b 0 rn)), .int .i64 0]) ∧ Below w.heap.size w w' := by
  obtain ⟨i0, hi0, hz0, hz1, hz2⟩ := info_parts infoS
  have HC := Aside0.mk hc
  have HY := Aside0.mk hby
  have HPA := Aside0.mk (put_at a ha)
  have HPB := Aside0.mk (put_at b hb)
  have HPN := Aside0.mk (put_at rn hn)
  have LA := putStr_size a
  have LB := putStr_size b
  have LN := putStr_size rn
  clear hc hby ha hb hn
  go_enter Tryz.func36, Tryz.ntmps36
  go_wp2_with fail
  refine (HC.out _).mono ?_
  rintro e w2 ⟨rfl, hb2⟩
  have hz := blk_below (blk_new w _) hb2
  have HB2 := Aside0.mk (((Below.refl _ w).alloc (Nat.le_refl _) _).trans (hb2.mono (by simp)))
  have hBW : w.heap.size < w2.heap.size := Nat.lt_of_lt_of_le (by simp) hb2.size
  clear hb2
  have c0 := (blk_cell hz 0).trans rfl
  have c1 := (blk_cell hz 1).trans rfl
  have c2 := (blk_cell hz 2).trans rfl
  have c3 := (blk_cell hz 3).trans rfl
  have c4 := (blk_cell hz 4).trans rfl
  have HZ2 := Aside0.mk hz
  clear hz
  go_wp2_with fail
  refine (HY.out _).mono ?_
  rintro e w3 ⟨rfl, hb3⟩
  clear c0 c1 c2 c3 c4
  have hz := blk_below HZ2.out hb3
  have HB3 := Aside0.mk (HB2.out.trans (hb3.mono HB2.out.size))
  have hBW3 : w.heap.size < w3.heap.size := Nat.lt_of_lt_of_le hBW hb3.size
  clear hb3 hBW
  have c0 := (blk_cell hz 0).trans rfl
  have c1 := (blk_cell hz 1).trans rfl
  have c2 := (blk_cell hz 2).trans rfl
  have c3 := (blk_cell hz 3).trans rfl
  have c4 := (blk_cell hz 4).trans rfl
  have HZ3 := Aside0.mk hz
  clear hz
  have hBW4 : w.heap.size < w3.heap.size + 1 := by omega
  have hBW5 : w.heap.size < w3.heap.size + 1 + 1 := by omega
  go_wp2_with fail
  refine wp_loop_rounds 1 ?_
  rw [rounds_succ]
  clear c0 c1 c2 c3 c4
  have HF := world3 w w3 (.cells #[.int .i64 n, .int .i64 typ, .string word, .int .i64 0, .func (.func ret) #[] #[], .func (.func arg) #[] #[], .bool done, .bool nothing] 101) (.cells #[.string word] 9) (.cells #[.int .i64 a, .int .i64 b] 3) hBW3 HB3.out HZ3.out
  generalize ((w3.alloc (.cells #[.int .i64 n, .int .i64 typ, .string word, .int .i64 0, .func (.func ret) #[] #[], .func (.func arg) #[] #[], .bool done, .bool nothing] 101)).alloc (.cells #[.string word] 9)).alloc (.cells #[.int .i64 a, .int .i64 b] 3) = W at HF ⊢
  clear hBW3 hBW4 hBW5 HB3 HZ3 HZ2 HB2
  generalize hgi : w3.heap.size + 1 + 1 = gi at HF ⊢
  generalize hgw : w3.heap.size + 1 = gw at HF hgi ⊢
  obtain ⟨hz, hwd, hin, HB, l1, l2, l3⟩ := HF
  have HO : W.ownsRow (w.heap.size + 1) 9 1 (.slice (some ⟨gw, 0, none⟩) 1 1) 1 [.string word] := ⟨rfl, .inr ⟨gw, 1, #[.string word], rfl, l1, hwd, by decide, by decide, rfl, rfl⟩⟩
  have HO := Aside0.mk HO
  have HZ := Aside0.mk hz
  have HI := Aside0.mk hin
  have HB := Aside0.mk HB
  have HG := Aside0.mk hgi
  clear hz hwd hin hgi hgw
  have c0 := (blk_cell HZ.out 0).trans rfl
  have c1 := (blk_cell HZ.out 1).trans rfl
  have c2 := (blk_cell HZ.out 2).trans rfl
  have c3 := (blk_cell HZ.out 3).trans rfl
  have c4 := (blk_cell HZ.out 4).trans rfl
  have s1 : w.heap.size < W.heap.size := blk_lt HZ.out
  have s2 : w.heap.size < W.heap.size + 1 := by omega
  have s3 : w.heap.size < W.heap.size + 1 + 1 := by omega
  go_wp2_with fail
  refine (HPN.out _).mono ?_
  rintro e w4 ⟨rfl, hb⟩
  clear c0 c1 c2 c3 c4 s1 s2 s3
  have HO' := Aside0.mk (own_below_row HO.out hb)
  have HZ' := Aside0.mk (blk_below HZ.out hb)
  have HI' := Aside0.mk (blk_below HI.out hb)
  have HB' := Aside0.mk (HB.out.trans (hb.mono HB.out.size))
  clear hb HO HZ HI HB
  have HO := HO'
  have HZ := HZ'
  have HI := HI'
  have HB := HB'
  clear HO' HZ' HI' HB'
  have c0 := (blk_cell HZ.out 0).trans rfl
  have c1 := (blk_cell HZ.out 1).trans rfl
  have c2 := (blk_cell HZ.out 2).trans rfl
  have c3 := (blk_cell HZ.out 3).trans rfl
  have c4 := (blk_cell HZ.out 4).trans rfl
  have s1 : w.heap.size < w4.heap.size := blk_lt HZ.out
  have s2 : w.heap.size < w4.heap.size + 1 := by omega
  have s3 : w.heap.size < w4.heap.size + 1 + 1 := by omega
  go_wp2_with (at_builtin; refine wpList_append_own_at _ rfl _ _ 50 rfl (w.heap.size + 1) 9 i0 (.string ⟨#[]⟩) 1 16 Tryz.underlying50 hi0 hz0 hz1 hz2 rfl (by decide) (.slice (some ⟨gw, 0, none⟩) 1 1) 1 [.string word] rfl ((HO.out.alloc _).alloc _) ⟨w4.heap.size + 1, 0, none⟩ 2 2 [.string ⟨#[45, 62]⟩, .string ⟨#[111, 107]⟩] rfl rfl ?news (by simp [Value.oneCell']) (by simp [maxLen]) (by simp) (by simp; omega) ?_; (case news => exact cells_two _ _ _ _ _); intro v' w5 hown' hgrow _ _; obtain ⟨g9, cap9, rfl⟩ := ownsRow_succ hown')
  have hgB : w.heap.size + 1 ≤ gw := own_base HO.out _ rfl
  have HB9 := Aside0.mk (((HB.out.alloc HB.out.size _).alloc (by have := HB.out.size; simp; omega) _).grown hgrow (by have := HB.out.size; simp; omega) (fun k hk => by simp only [Value.ownBlock, Option.some.injEq] at hk; omega))
  have HJ := Aside0.mk (join_own _ g9 cap9 [word, ⟨#[45, 62]⟩, ⟨#[111, 107]⟩] w5 hown' (by simp) (by simp [Lib.join, List.intercalate, List.intersperse] <;> omega))
  clear hown' hgrow hgB HO HZ HI HB c0 c1 c2 c3 c4 s1 s2 s3
  refine HJ.out.mono ?_
  rintro e w9 ⟨rfl, hb9⟩
  have HB10 := Aside0.mk (HB9.out.trans (hb9.mono HB9.out.size))
  clear hb9
  go_wp2
  refine bodyPost_ret (results_tmp2 rfl _ _ _) rfl ?_
  exact ⟨rfl, HB10.out⟩
set_option maxHeartbeats 4000000 in
set_option maxRecDepth 100000 in
theorem text_0_1 (n typ : Int) (word : ByteArray) (ret arg : Nat) (done nothing : Bool) (hw : word.size ≤ 8) (k a b rn : Int) (ha : isI64 a) (hb : isI64 b) (hn : isI64 rn) (w : World)
    (hc : ∀ W, Calls Tryz.prog 42 #[.agg #[.int .i64 k, .int .i64 a, .int .i64 b, .int .i64 1, .int .i64 rn]] W fun e w' => e = .returned (.int .i64 0) ∧ Below W.heap.size W w')
    (hby : ∀ W, Calls Tryz.prog 60 #[.int .i64 k] W fun e w' => e = .returned (.tuple #[.agg #[.int .i64 n, .int .i64 typ, .string word, .int .i64 0, .func (.func ret) #[] #[], .func (.func arg) #[] #[], .bool done, .bool nothing], .int .i64 0]) ∧ Below W.heap.size W w') :
    Calls Tryz.prog 36 #[.agg #[.int .i64 k, .int .i64 a, .int .i64 b, .int .i64 1, .int .i64 rn]] w fun e w' => e = .returned (.tuple #[.string (joinB (textWords ⟨n, typ, word, 0, ret, arg, done, nothing⟩ a b 1 rn)), .int .i64 0]) ∧ Below w.heap.size w w' := by
  obtain ⟨i0, hi0, hz0, hz1, hz2⟩ := info_parts infoS
  have HC := Aside0.mk hc
  have HY := Aside0.mk hby
  have HPA := Aside0.mk (put_at a ha)
  have HPB := Aside0.mk (put_at b hb)
  have HPN := Aside0.mk (put_at rn hn)
  have LA := putStr_size a
  have LB := putStr_size b
  have LN := putStr_size rn
  clear hc hby ha hb hn
  go_enter Tryz.func36, Tryz.ntmps36
  go_wp2_with fail
  refine (HC.out _).mono ?_
  rintro e w2 ⟨rfl, hb2⟩
  have hz := blk_below (blk_new w _) hb2
  have HB2 := Aside0.mk (((Below.refl _ w).alloc (Nat.le_refl _) _).trans (hb2.mono (by simp)))
  have hBW : w.heap.size < w2.heap.size := Nat.lt_of_lt_of_le (by simp) hb2.size
  clear hb2
  have c0 := (blk_cell hz 0).trans rfl
  have c1 := (blk_cell hz 1).trans rfl
  have c2 := (blk_cell hz 2).trans rfl
  have c3 := (blk_cell hz 3).trans rfl
  have c4 := (blk_cell hz 4).trans rfl
  have HZ2 := Aside0.mk hz
  clear hz
  go_wp2_with fail
  refine (HY.out _).mono ?_
  rintro e w3 ⟨rfl, hb3⟩
  clear c0 c1 c2 c3 c4
  have hz := blk_below HZ2.out hb3
  have HB3 := Aside0.mk (HB2.out.trans (hb3.mono HB2.out.size))
  have hBW3 : w.heap.size < w3.heap.size := Nat.lt_of_lt_of_le hBW hb3.size
  clear hb3 hBW
  have c0 := (blk_cell hz 0).trans rfl
  have c1 := (blk_cell hz 1).trans rfl
  have c2 := (blk_cell hz 2).trans rfl
  have c3 := (blk_cell hz 3).trans rfl
  have c4 := (blk_cell hz 4).trans rfl
  have HZ3 := Aside0.mk hz
  clear hz
  have hBW4 : w.heap.size < w3.heap.size + 1 := by omega
  have hBW5 : w.heap.size < w3.heap.size + 1 + 1 := by omega
  go_wp2_with fail
  refine wp_loop_rounds 1 ?_
  rw [rounds_succ]
  clear c0 c1 c2 c3 c4
  have HF := world3 w w3 (.cells #[.int .i64 n, .int .i64 typ, .string word, .int .i64 0, .func (.func ret) #[] #[], .func (.func arg) #[] #[], .bool done, .bool nothing] 101) (.cells #[.string word] 9) (.cells #[.int .i64 a, .int .i64 b] 3) hBW3 HB3.out HZ3.out
  generalize ((w3.alloc (.cells #[.int .i64 n, .int .i64 typ, .string word, .int .i64 0, .func (.func ret) #[] #[], .func (.func arg) #[] #[], .bool done, .bool nothing] 101)).alloc (.cells #[.string word] 9)).alloc (.cells #[.int .i64 a, .int .i64 b] 3) = W at HF ⊢
  clear hBW3 hBW4 hBW5 HB3 HZ3 HZ2 HB2
  generalize hgi : w3.heap.size + 1 + 1 = gi at HF ⊢
  generalize hgw : w3.heap.size + 1 = gw at HF hgi ⊢
  obtain ⟨hz, hwd, hin, HB, l1, l2, l3⟩ := HF
  have HO : W.ownsRow (w.heap.size + 1) 9 1 (.slice (some ⟨gw, 0, none⟩) 1 1) 1 [.string word] := ⟨rfl, .inr ⟨gw, 1, #[.string word], rfl, l1, hwd, by decide, by decide, rfl, rfl⟩⟩
  have HO := Aside0.mk HO
  have HZ := Aside0.mk hz
  have HI := Aside0.mk hin
  have HB := Aside0.mk HB
  have HG := Aside0.mk hgi
  clear hz hwd hin hgi hgw
  have c0 := (blk_cell HZ.out 0).trans rfl
  have c1 := (blk_cell HZ.out 1).trans rfl
  have c2 := (blk_cell HZ.out 2).trans rfl
  have c3 := (blk_cell HZ.out 3).trans rfl
  have c4 := (blk_cell HZ.out 4).trans rfl
  have s1 : w.heap.size < W.heap.size := blk_lt HZ.out
  have s2 : w.heap.size < W.heap.size + 1 := by omega
  have s3 : w.heap.size < W.heap.size + 1 + 1 := by omega
  go_wp2_with fail
  refine (HPN.out _).mono ?_
  rintro e w4 ⟨rfl, hb⟩
  clear c0 c1 c2 c3 c4 s1 s2 s3
  have HO' := Aside0.mk (own_below_row HO.out hb)
  have HZ' := Aside0.mk (blk_below HZ.out hb)
  have HI' := Aside0.mk (blk_below HI.out hb)
  have HB' := Aside0.mk (HB.out.trans (hb.mono HB.out.size))
  clear hb HO HZ HI HB
  have HO := HO'
  have HZ := HZ'
  have HI := HI'
  have HB := HB'
  clear HO' HZ' HI' HB'
  have c0 := (blk_cell HZ.out 0).trans rfl
  have c1 := (blk_cell HZ.out 1).trans rfl
  have c2 := (blk_cell HZ.out 2).trans rfl
  have c3 := (blk_cell HZ.out 3).trans rfl
  have c4 := (blk_cell HZ.out 4).trans rfl
  have s1 : w.heap.size < w4.heap.size := blk_lt HZ.out
  have s2 : w.heap.size < w4.heap.size + 1 := by omega
  have s3 : w.heap.size < w4.heap.size + 1 + 1 := by omega
  go_wp2_with (at_builtin; refine wpList_append_own_at _ rfl _ _ 50 rfl (w.heap.size + 1) 9 i0 (.string ⟨#[]⟩) 1 16 Tryz.underlying50 hi0 hz0 hz1 hz2 rfl (by decide) (.slice (some ⟨gw, 0, none⟩) 1 1) 1 [.string word] rfl ((HO.out.alloc _).alloc _) ⟨w4.heap.size + 1, 0, none⟩ 2 2 [.string ⟨#[45, 62]⟩, .string ⟨#[110, 111, 110, 101]⟩] rfl rfl ?news (by simp [Value.oneCell']) (by simp [maxLen]) (by simp) (by simp; omega) ?_; (case news => exact cells_two _ _ _ _ _); intro v' w5 hown' hgrow _ _; obtain ⟨g9, cap9, rfl⟩ := ownsRow_succ hown')
  have hgB : w.heap.size + 1 ≤ gw := own_base HO.out _ rfl
  have HB9 := Aside0.mk (((HB.out.alloc HB.out.size _).alloc (by have := HB.out.size; simp; omega) _).grown hgrow (by have := HB.out.size; simp; omega) (fun k hk => by simp only [Value.ownBlock, Option.some.injEq] at hk; omega))
  have HJ := Aside0.mk (join_own _ g9 cap9 [word, ⟨#[45, 62]⟩, ⟨#[110, 111, 110, 101]⟩] w5 hown' (by simp) (by simp [Lib.join, List.intercalate, List.intersperse] <;> omega))
  clear hown' hgrow hgB HO HZ HI HB c0 c1 c2 c3 c4 s1 s2 s3
  refine HJ.out.mono ?_
  rintro e w9 ⟨rfl, hb9⟩
  have HB10 := Aside0.mk (HB9.out.trans (hb9.mono HB9.out.size))
  clear hb9
  go_wp2
  refine bodyPost_ret (results_tmp2 rfl _ _ _) rfl ?_
  exact ⟨rfl, HB10.out⟩
set_option maxHeartbeats 4000000 in
set_option maxRecDepth 100000 in
theorem text_0_2 (n typ : Int) (word : ByteArray) (ret arg : Nat) (done nothing : Bool) (hw : word.size ≤ 8) (k a b rn : Int) (ha : isI64 a) (hb : isI64 b) (hn : isI64 rn) (w : World)
    (hc : ∀ W, Calls Tryz.prog 42 #[.agg #[.int .i64 k, .int .i64 a, .int .i64 b, .int .i64 2, .int .i64 rn]] W fun e w' => e = .returned (.int .i64 0) ∧ Below W.heap.size W w')
    (hby : ∀ W, Calls Tryz.prog 60 #[.int .i64 k] W fun e w' => e = .returned (.tuple #[.agg #[.int .i64 n, .int .i64 typ, .string word, .int .i64 0, .func (.func ret) #[] #[], .func (.func arg) #[] #[], .bool done, .bool nothing], .int .i64 0]) ∧ Below W.heap.size W w') :
    Calls Tryz.prog 36 #[.agg #[.int .i64 k, .int .i64 a, .int .i64 b, .int .i64 2, .int .i64 rn]] w fun e w' => e = .returned (.tuple #[.string (joinB (textWords ⟨n, typ, word, 0, ret, arg, done, nothing⟩ a b 2 rn)), .int .i64 0]) ∧ Below w.heap.size w w' := by
  obtain ⟨i0, hi0, hz0, hz1, hz2⟩ := info_parts infoS
  have HC := Aside0.mk hc
  have HY := Aside0.mk hby
  have HPA := Aside0.mk (put_at a ha)
  have HPB := Aside0.mk (put_at b hb)
  have HPN := Aside0.mk (put_at rn hn)
  have LA := putStr_size a
  have LB := putStr_size b
  have LN := putStr_size rn
  clear hc hby ha hb hn
  go_enter Tryz.func36, Tryz.ntmps36
  go_wp2_with fail
  refine (HC.out _).mono ?_
  rintro e w2 ⟨rfl, hb2⟩
  have hz := blk_below (blk_new w _) hb2
  have HB2 := Aside0.mk (((Below.refl _ w).alloc (Nat.le_refl _) _).trans (hb2.mono (by simp)))
  have hBW : w.heap.size < w2.heap.size := Nat.lt_of_lt_of_le (by simp) hb2.size
  clear hb2
  have c0 := (blk_cell hz 0).trans rfl
  have c1 := (blk_cell hz 1).trans rfl
  have c2 := (blk_cell hz 2).trans rfl
  have c3 := (blk_cell hz 3).trans rfl
  have c4 := (blk_cell hz 4).trans rfl
  have HZ2 := Aside0.mk hz
  clear hz
  go_wp2_with fail
  refine (HY.out _).mono ?_
  rintro e w3 ⟨rfl, hb3⟩
  clear c0 c1 c2 c3 c4
  have hz := blk_below HZ2.out hb3
  have HB3 := Aside0.mk (HB2.out.trans (hb3.mono HB2.out.size))
  have hBW3 : w.heap.size < w3.heap.size := Nat.lt_of_lt_of_le hBW hb3.size
  clear hb3 hBW
  have c0 := (blk_cell hz 0).trans rfl
  have c1 := (blk_cell hz 1).trans rfl
  have c2 := (blk_cell hz 2).trans rfl
  have c3 := (blk_cell hz 3).trans rfl
  have c4 := (blk_cell hz 4).trans rfl
  have HZ3 := Aside0.mk hz
  clear hz
  have hBW4 : w.heap.size < w3.heap.size + 1 := by omega
  have hBW5 : w.heap.size < w3.heap.size + 1 + 1 := by omega
  go_wp2_with fail
  refine wp_loop_rounds 1 ?_
  rw [rounds_succ]
  clear c0 c1 c2 c3 c4
  have HF := world3 w w3 (.cells #[.int .i64 n, .int .i64 typ, .string word, .int .i64 0, .func (.func ret) #[] #[], .func (.func arg) #[] #[], .bool done, .bool nothing] 101) (.cells #[.string word] 9) (.cells #[.int .i64 a, .int .i64 b] 3) hBW3 HB3.out HZ3.out
  generalize ((w3.alloc (.cells #[.int .i64 n, .int .i64 typ, .string word, .int .i64 0, .func (.func ret) #[] #[], .func (.func arg) #[] #[], .bool done, .bool nothing] 101)).alloc (.cells #[.string word] 9)).alloc (.cells #[.int .i64 a, .int .i64 b] 3) = W at HF ⊢
  clear hBW3 hBW4 hBW5 HB3 HZ3 HZ2 HB2
  generalize hgi : w3.heap.size + 1 + 1 = gi at HF ⊢
  generalize hgw : w3.heap.size + 1 = gw at HF hgi ⊢
  obtain ⟨hz, hwd, hin, HB, l1, l2, l3⟩ := HF
  have HO : W.ownsRow (w.heap.size + 1) 9 1 (.slice (some ⟨gw, 0, none⟩) 1 1) 1 [.string word] := ⟨rfl, .inr ⟨gw, 1, #[.string word], rfl, l1, hwd, by decide, by decide, rfl, rfl⟩⟩
  have HO := Aside0.mk HO
  have HZ := Aside0.mk hz
  have HI := Aside0.mk hin
  have HB := Aside0.mk HB
  have HG := Aside0.mk hgi
  clear hz hwd hin hgi hgw
  have c0 := (blk_cell HZ.out 0).trans rfl
  have c1 := (blk_cell HZ.out 1).trans rfl
  have c2 := (blk_cell HZ.out 2).trans rfl
  have c3 := (blk_cell HZ.out 3).trans rfl
  have c4 := (blk_cell HZ.out 4).trans rfl
  have s1 : w.heap.size < W.heap.size := blk_lt HZ.out
  have s2 : w.heap.size < W.heap.size + 1 := by omega
  have s3 : w.heap.size < W.heap.size + 1 + 1 := by omega
  go_wp2_with fail
  refine (HPN.out _).mono ?_
  rintro e w4 ⟨rfl, hb⟩
  clear c0 c1 c2 c3 c4 s1 s2 s3
  have HO' := Aside0.mk (own_below_row HO.out hb)
  have HZ' := Aside0.mk (blk_below HZ.out hb)
  have HI' := Aside0.mk (blk_below HI.out hb)
  have HB' := Aside0.mk (HB.out.trans (hb.mono HB.out.size))
  clear hb HO HZ HI HB
  have HO := HO'
  have HZ := HZ'
  have HI := HI'
  have HB := HB'
  clear HO' HZ' HI' HB'
  have c0 := (blk_cell HZ.out 0).trans rfl
  have c1 := (blk_cell HZ.out 1).trans rfl
  have c2 := (blk_cell HZ.out 2).trans rfl
  have c3 := (blk_cell HZ.out 3).trans rfl
  have c4 := (blk_cell HZ.out 4).trans rfl
  have s1 : w.heap.size < w4.heap.size := blk_lt HZ.out
  have s2 : w.heap.size < w4.heap.size + 1 := by omega
  have s3 : w.heap.size < w4.heap.size + 1 + 1 := by omega
  go_wp2_with (at_builtin; refine wpList_append_own_at _ rfl _ _ 50 rfl (w.heap.size + 1) 9 i0 (.string ⟨#[]⟩) 1 16 Tryz.underlying50 hi0 hz0 hz1 hz2 rfl (by decide) (.slice (some ⟨gw, 0, none⟩) 1 1) 1 [.string word] rfl ((HO.out.alloc _).alloc _) ⟨w4.heap.size + 1, 0, none⟩ 2 2 [.string ⟨#[45, 62]⟩, .string (putStr rn)] rfl rfl ?news (by simp [Value.oneCell']) (by simp [maxLen]) (by simp) (by simp; omega) ?_; (case news => exact cells_two _ _ _ _ _); intro v' w5 hown' hgrow _ _; obtain ⟨g9, cap9, rfl⟩ := ownsRow_succ hown')
  have hgB : w.heap.size + 1 ≤ gw := own_base HO.out _ rfl
  have HB9 := Aside0.mk (((HB.out.alloc HB.out.size _).alloc (by have := HB.out.size; simp; omega) _).grown hgrow (by have := HB.out.size; simp; omega) (fun k hk => by simp only [Value.ownBlock, Option.some.injEq] at hk; omega))
  have HJ := Aside0.mk (join_own _ g9 cap9 [word, ⟨#[45, 62]⟩, (putStr rn)] w5 hown' (by simp) (by simp [Lib.join, List.intercalate, List.intersperse] <;> omega))
  clear hown' hgrow hgB HO HZ HI HB c0 c1 c2 c3 c4 s1 s2 s3
  refine HJ.out.mono ?_
  rintro e w9 ⟨rfl, hb9⟩
  have HB10 := Aside0.mk (HB9.out.trans (hb9.mono HB9.out.size))
  clear hb9
  go_wp2
  refine bodyPost_ret (results_tmp2 rfl _ _ _) rfl ?_
  exact ⟨rfl, HB10.out⟩
set_option maxHeartbeats 4000000 in
set_option maxRecDepth 100000 in
theorem text_1_0 (n typ : Int) (word : ByteArray) (ret arg : Nat) (done nothing : Bool) (hw : word.size ≤ 8) (k a b rn : Int) (ha : isI64 a) (hb : isI64 b) (hn : isI64 rn) (w : World)
    (hc : ∀ W, Calls Tryz.prog 42 #[.agg #[.int .i64 k, .int .i64 a, .int .i64 b, .int .i64 0, .int .i64 rn]] W fun e w' => e = .returned (.int .i64 0) ∧ Below W.heap.size W w')
    (hby : ∀ W, Calls Tryz.prog 60 #[.int .i64 k] W fun e w' => e = .returned (.tuple #[.agg #[.int .i64 n, .int .i64 typ, .string word, .int .i64 1, .func (.func ret) #[] #[], .func (.func arg) #[] #[], .bool done, .bool nothing], .int .i64 0]) ∧ Below W.heap.size W w') :
    Calls Tryz.prog 36 #[.agg #[.int .i64 k, .int .i64 a, .int .i64 b, .int .i64 0, .int .i64 rn]] w fun e w' => e = .returned (.tuple #[.string (joinB (textWords ⟨n, typ, word, 1, ret, arg, done, nothing⟩ a b 0 rn)), .int .i64 0]) ∧ Below w.heap.size w w' := by
  obtain ⟨i0, hi0, hz0, hz1, hz2⟩ := info_parts infoS
  have HC := Aside0.mk hc
  have HY := Aside0.mk hby
  have HPA := Aside0.mk (put_at a ha)
  have HPB := Aside0.mk (put_at b hb)
  have HPN := Aside0.mk (put_at rn hn)
  have LA := putStr_size a
  have LB := putStr_size b
  have LN := putStr_size rn
  clear hc hby ha hb hn
  go_enter Tryz.func36, Tryz.ntmps36
  go_wp2_with fail
  refine (HC.out _).mono ?_
  rintro e w2 ⟨rfl, hb2⟩
  have hz := blk_below (blk_new w _) hb2
  have HB2 := Aside0.mk (((Below.refl _ w).alloc (Nat.le_refl _) _).trans (hb2.mono (by simp)))
  have hBW : w.heap.size < w2.heap.size := Nat.lt_of_lt_of_le (by simp) hb2.size
  clear hb2
  have c0 := (blk_cell hz 0).trans rfl
  have c1 := (blk_cell hz 1).trans rfl
  have c2 := (blk_cell hz 2).trans rfl
  have c3 := (blk_cell hz 3).trans rfl
  have c4 := (blk_cell hz 4).trans rfl
  have HZ2 := Aside0.mk hz
  clear hz
  go_wp2_with fail
  refine (HY.out _).mono ?_
  rintro e w3 ⟨rfl, hb3⟩
  clear c0 c1 c2 c3 c4
  have hz := blk_below HZ2.out hb3
  have HB3 := Aside0.mk (HB2.out.trans (hb3.mono HB2.out.size))
  have hBW3 : w.heap.size < w3.heap.size := Nat.lt_of_lt_of_le hBW hb3.size
  clear hb3 hBW
  have c0 := (blk_cell hz 0).trans rfl
  have c1 := (blk_cell hz 1).trans rfl
  have c2 := (blk_cell hz 2).trans rfl
  have c3 := (blk_cell hz 3).trans rfl
  have c4 := (blk_cell hz 4).trans rfl
  have HZ3 := Aside0.mk hz
  clear hz
  have hBW4 : w.heap.size < w3.heap.size + 1 := by omega
  have hBW5 : w.heap.size < w3.heap.size + 1 + 1 := by omega
  go_wp2_with fail
  refine wp_loop_rounds 2 ?_
  rw [rounds_succ]
  clear c0 c1 c2 c3 c4
  have HF := world3 w w3 (.cells #[.int .i64 n, .int .i64 typ, .string word, .int .i64 1, .func (.func ret) #[] #[], .func (.func arg) #[] #[], .bool done, .bool nothing] 101) (.cells #[.string word] 9) (.cells #[.int .i64 a, .int .i64 b] 3) hBW3 HB3.out HZ3.out
  generalize ((w3.alloc (.cells #[.int .i64 n, .int .i64 typ, .string word, .int .i64 1, .func (.func ret) #[] #[], .func (.func arg) #[] #[], .bool done, .bool nothing] 101)).alloc (.cells #[.string word] 9)).alloc (.cells #[.int .i64 a, .int .i64 b] 3) = W at HF ⊢
  clear hBW3 hBW4 hBW5 HB3 HZ3 HZ2 HB2
  generalize hgi : w3.heap.size + 1 + 1 = gi at HF ⊢
  generalize hgw : w3.heap.size + 1 = gw at HF hgi ⊢
  obtain ⟨hz, hwd, hin, HB, l1, l2, l3⟩ := HF
  have HO : W.ownsRow (w.heap.size + 1) 9 1 (.slice (some ⟨gw, 0, none⟩) 1 1) 1 [.string word] := ⟨rfl, .inr ⟨gw, 1, #[.string word], rfl, l1, hwd, by decide, by decide, rfl, rfl⟩⟩
  have HO := Aside0.mk HO
  have HZ := Aside0.mk hz
  have HI := Aside0.mk hin
  have HB := Aside0.mk HB
  have HG := Aside0.mk hgi
  clear hz hwd hin hgi hgw
  have c0 := (blk_cell HZ.out 0).trans rfl
  have c1 := (blk_cell HZ.out 1).trans rfl
  have c2 := (blk_cell HZ.out 2).trans rfl
  have c3 := (blk_cell HZ.out 3).trans rfl
  have c4 := (blk_cell HZ.out 4).trans rfl
  have s1 : w.heap.size < W.heap.size := blk_lt HZ.out
  have s2 : w.heap.size < W.heap.size + 1 := by omega
  have s3 : w.heap.size < W.heap.size + 1 + 1 := by omega
  have i0c := (blk_cell HI.out 0).trans rfl
  have i1c := (blk_cell HI.out 1).trans rfl
  have t1 : gi < W.heap.size := blk_lt HI.out
  have t2 : gi < W.heap.size + 1 := by omega
  go_wp2_with fail
  refine (HPA.out _).mono ?_
  rintro e w4 ⟨rfl, hb⟩
  clear c0 c1 c2 c3 c4 s1 s2 s3 i0c i1c t1 t2
  have HO' := Aside0.mk (own_below_row HO.out hb)
  have HZ' := Aside0.mk (blk_below HZ.out hb)
  have HI' := Aside0.mk (blk_below HI.out hb)
  have HB' := Aside0.mk (HB.out.trans (hb.mono HB.out.size))
  clear hb HO HZ HI HB
  have HO := HO'
  have HZ := HZ'
  have HI := HI'
  have HB := HB'
  clear HO' HZ' HI' HB'
  have c0 := (blk_cell HZ.out 0).trans rfl
  have c1 := (blk_cell HZ.out 1).trans rfl
  have c2 := (blk_cell HZ.out 2).trans rfl
  have c3 := (blk_cell HZ.out 3).trans rfl
  have c4 := (blk_cell HZ.out 4).trans rfl
  have s1 : w.heap.size < w4.heap.size := blk_lt HZ.out
  have s2 : w.heap.size < w4.heap.size + 1 := by omega
  have s3 : w.heap.size < w4.heap.size + 1 + 1 := by omega
  have i0c := (blk_cell HI.out 0).trans rfl
  have i1c := (blk_cell HI.out 1).trans rfl
  have t1 : gi < w4.heap.size := blk_lt HI.out
  have t2 : gi < w4.heap.size + 1 := by omega
  go_wp2_with (at_builtin; refine wpList_append_own_at _ rfl _ _ 50 rfl (w.heap.size + 1) 9 i0 (.string ⟨#[]⟩) 1 16 Tryz.underlying50 hi0 hz0 hz1 hz2 rfl (by decide) (.slice (some ⟨gw, 0, none⟩) 1 1) 1 [.string word] rfl (HO.out.alloc _) ⟨w4.heap.size, 0, none⟩ 1 1 [.string (putStr a)] rfl rfl (cell_one_new _ _ _) (by simp [Value.oneCell']) (by simp [maxLen]) (by simp) (by simp; omega) ?_; intro v' w5 hown' hgrow _ hat; obtain ⟨g0, cap0, rfl⟩ := ownsRow_succ hown')
  clear c0 c1 c2 c3 c4 s1 s2 s3 i0c i1c t1 t2
  have hne : g0 ≠ gi := by (simp only [Value.ownBlock, Option.some.injEq, World.size_alloc] at hat; have := blk_lt HI.out; omega)
  have HO' := Aside0.mk hown'
  have hgB : w.heap.size + 1 ≤ gw := own_base HO.out _ rfl
  have HZ' := Aside0.mk ((hgrow.block _ (by simp; exact Nat.lt_succ_of_lt (blk_lt HZ.out)) (by (simp only [Value.ownBlock, ne_eq, Option.some.injEq]; omega))).trans (blk_below HZ.out ((Below.refl _ _).alloc (Nat.le_refl _) _)))
  have HI' := Aside0.mk ((hgrow.block _ (by simp; exact Nat.lt_succ_of_lt (blk_lt HI.out)) (by (simp only [Value.ownBlock, ne_eq, Option.some.injEq]; omega))).trans (blk_below HI.out ((Below.refl _ _).alloc (Nat.le_refl _) _)))
  have HB' := Aside0.mk ((HB.out.alloc HB.out.size _).grown hgrow (by have := HB.out.size; simp; omega) (fun k hk => by simp only [Value.ownBlock, Option.some.injEq] at hk; omega))
  clear hown' hgrow hat hgB HO HZ HI HB
  have HO := HO'
  have HZ := HZ'
  have HI := HI'
  have HB := HB'
  clear HO' HZ' HI' HB'
  rw [rounds_succ]
  have c0 := (blk_cell HZ.out 0).trans rfl
  have c1 := (blk_cell HZ.out 1).trans rfl
  have c2 := (blk_cell HZ.out 2).trans rfl
  have c3 := (blk_cell HZ.out 3).trans rfl
  have c4 := (blk_cell HZ.out 4).trans rfl
  have s1 : w.heap.size < w5.heap.size := blk_lt HZ.out
  have s2 : w.heap.size < w5.heap.size + 1 := by omega
  have s3 : w.heap.size < w5.heap.size + 1 + 1 := by omega
  have i0c := (blk_cell HI.out 0).trans rfl
  have i1c := (blk_cell HI.out 1).trans rfl
  have t1 : gi < w5.heap.size := blk_lt HI.out
  have t2 : gi < w5.heap.size + 1 := by omega
  go_wp2_with fail
  refine (HPN.out _).mono ?_
  rintro e w6 ⟨rfl, hb⟩
  clear c0 c1 c2 c3 c4 s1 s2 s3 i0c i1c t1 t2
  have HO' := Aside0.mk (own_below_row HO.out hb)
  have HZ' := Aside0.mk (blk_below HZ.out hb)
  have HI' := Aside0.mk (blk_below HI.out hb)
  have HB' := Aside0.mk (HB.out.trans (hb.mono HB.out.size))
  clear hb HO HZ HI HB
  have HO := HO'
  have HZ := HZ'
  have HI := HI'
  have HB := HB'
  clear HO' HZ' HI' HB'
  have c0 := (blk_cell HZ.out 0).trans rfl
  have c1 := (blk_cell HZ.out 1).trans rfl
  have c2 := (blk_cell HZ.out 2).trans rfl
  have c3 := (blk_cell HZ.out 3).trans rfl
  have c4 := (blk_cell HZ.out 4).trans rfl
  have s1 : w.heap.size < w6.heap.size := blk_lt HZ.out
  have s2 : w.heap.size < w6.heap.size + 1 := by omega
  have s3 : w.heap.size < w6.heap.size + 1 + 1 := by omega
  go_wp2_with (at_builtin; refine wpList_append_own_at _ rfl _ _ 50 rfl (w.heap.size + 1) 9 i0 (.string ⟨#[]⟩) 1 16 Tryz.underlying50 hi0 hz0 hz1 hz2 rfl (by decide) (.slice (some ⟨g0, 0, none⟩) 2 cap0) 2 [.string word, .string (putStr a)] rfl ((HO.out.alloc _).alloc _) ⟨w6.heap.size + 1, 0, none⟩ 2 2 [.string ⟨#[45, 62]⟩, .string ⟨#[111, 107]⟩] rfl rfl ?news (by simp [Value.oneCell']) (by simp [maxLen]) (by simp) (by simp; omega) ?_; (case news => exact cells_two _ _ _ _ _); intro v' w7 hown' hgrow _ _; obtain ⟨g9, cap9, rfl⟩ := ownsRow_succ hown')
  have hgB : w.heap.size + 1 ≤ g0 := own_base HO.out _ rfl
  have HB9 := Aside0.mk (((HB.out.alloc HB.out.size _).alloc (by have := HB.out.size; simp; omega) _).grown hgrow (by have := HB.out.size; simp; omega) (fun k hk => by simp only [Value.ownBlock, Option.some.injEq] at hk; omega))
  have HJ := Aside0.mk (join_own _ g9 cap9 [word, (putStr a), ⟨#[45, 62]⟩, ⟨#[111, 107]⟩] w7 hown' (by simp) (by simp [Lib.join, List.intercalate, List.intersperse] <;> omega))
  clear hown' hgrow hgB HO HZ HI HB c0 c1 c2 c3 c4 s1 s2 s3
  refine HJ.out.mono ?_
  rintro e w9 ⟨rfl, hb9⟩
  have HB10 := Aside0.mk (HB9.out.trans (hb9.mono HB9.out.size))
  clear hb9
  go_wp2
  refine bodyPost_ret (results_tmp2 rfl _ _ _) rfl ?_
  exact ⟨rfl, HB10.out⟩
set_option maxHeartbeats 4000000 in
set_option maxRecDepth 100000 in
theorem text_1_1 (n typ : Int) (word : ByteArray) (ret arg : Nat) (done nothing : Bool) (hw : word.size ≤ 8) (k a b rn : Int) (ha : isI64 a) (hb : isI64 b) (hn : isI64 rn) (w : World)
    (hc : ∀ W, Calls Tryz.prog 42 #[.agg #[.int .i64 k, .int .i64 a, .int .i64 b, .int .i64 1, .int .i64 rn]] W fun e w' => e = .returned (.int .i64 0) ∧ Below W.heap.size W w')
    (hby : ∀ W, Calls Tryz.prog 60 #[.int .i64 k] W fun e w' => e = .returned (.tuple #[.agg #[.int .i64 n, .int .i64 typ, .string word, .int .i64 1, .func (.func ret) #[] #[], .func (.func arg) #[] #[], .bool done, .bool nothing], .int .i64 0]) ∧ Below W.heap.size W w') :
    Calls Tryz.prog 36 #[.agg #[.int .i64 k, .int .i64 a, .int .i64 b, .int .i64 1, .int .i64 rn]] w fun e w' => e = .returned (.tuple #[.string (joinB (textWords ⟨n, typ, word, 1, ret, arg, done, nothing⟩ a b 1 rn)), .int .i64 0]) ∧ Below w.heap.size w w' := by
  obtain ⟨i0, hi0, hz0, hz1, hz2⟩ := info_parts infoS
  have HC := Aside0.mk hc
  have HY := Aside0.mk hby
  have HPA := Aside0.mk (put_at a ha)
  have HPB := Aside0.mk (put_at b hb)
  have HPN := Aside0.mk (put_at rn hn)
  have LA := putStr_size a
  have LB := putStr_size b
  have LN := putStr_size rn
  clear hc hby ha hb hn
  go_enter Tryz.func36, Tryz.ntmps36
  go_wp2_with fail
  refine (HC.out _).mono ?_
  rintro e w2 ⟨rfl, hb2⟩
  have hz := blk_below (blk_new w _) hb2
  have HB2 := Aside0.mk (((Below.refl _ w).alloc (Nat.le_refl _) _).trans (hb2.mono (by simp)))
  have hBW : w.heap.size < w2.heap.size := Nat.lt_of_lt_of_le (by simp) hb2.size
  clear hb2
  have c0 := (blk_cell hz 0).trans rfl
  have c1 := (blk_cell hz 1).trans rfl
  have c2 := (blk_cell hz 2).trans rfl
  have c3 := (blk_cell hz 3).trans rfl
  have c4 := (blk_cell hz 4).trans rfl
  have HZ2 := Aside0.mk hz
  clear hz
  go_wp2_with fail
  refine (HY.out _).mono ?_
  rintro e w3 ⟨rfl, hb3⟩
  clear c0 c1 c2 c3 c4
  have hz := blk_below HZ2.out hb3
  have HB3 := Aside0.mk (HB2.out.trans (hb3.mono HB2.out.size))
  have hBW3 : w.heap.size < w3.heap.size := Nat.lt_of_lt_of_le hBW hb3.size
  clear hb3 hBW
  have c0 := (blk_cell hz 0).trans rfl
  have c1 := (blk_cell hz 1).trans rfl
  have c2 := (blk_cell hz 2).trans rfl
  have c3 := (blk_cell hz 3).trans rfl
  have c4 := (blk_cell hz 4).trans rfl
  have HZ3 := Aside0.mk hz
  clear hz
  have hBW4 : w.heap.size < w3.heap.size + 1 := by omega
  have hBW5 : w.heap.size < w3.heap.size + 1 + 1 := by omega
  go_wp2_with fail
  refine wp_loop_rounds 2 ?_
  rw [rounds_succ]
  clear c0 c1 c2 c3 c4
  have HF := world3 w w3 (.cells #[.int .i64 n, .int .i64 typ, .string word, .int .i64 1, .func (.func ret) #[] #[], .func (.func arg) #[] #[], .bool done, .bool nothing] 101) (.cells #[.string word] 9) (.cells #[.int .i64 a, .int .i64 b] 3) hBW3 HB3.out HZ3.out
  generalize ((w3.alloc (.cells #[.int .i64 n, .int .i64 typ, .string word, .int .i64 1, .func (.func ret) #[] #[], .func (.func arg) #[] #[], .bool done, .bool nothing] 101)).alloc (.cells #[.string word] 9)).alloc (.cells #[.int .i64 a, .int .i64 b] 3) = W at HF ⊢
  clear hBW3 hBW4 hBW5 HB3 HZ3 HZ2 HB2
  generalize hgi : w3.heap.size + 1 + 1 = gi at HF ⊢
  generalize hgw : w3.heap.size + 1 = gw at HF hgi ⊢
  obtain ⟨hz, hwd, hin, HB, l1, l2, l3⟩ := HF
  have HO : W.ownsRow (w.heap.size + 1) 9 1 (.slice (some ⟨gw, 0, none⟩) 1 1) 1 [.string word] := ⟨rfl, .inr ⟨gw, 1, #[.string word], rfl, l1, hwd, by decide, by decide, rfl, rfl⟩⟩
  have HO := Aside0.mk HO
  have HZ := Aside0.mk hz
  have HI := Aside0.mk hin
  have HB := Aside0.mk HB
  have HG := Aside0.mk hgi
  clear hz hwd hin hgi hgw
  have c0 := (blk_cell HZ.out 0).trans rfl
  have c1 := (blk_cell HZ.out 1).trans rfl
  have c2 := (blk_cell HZ.out 2).trans rfl
  have c3 := (blk_cell HZ.out 3).trans rfl
  have c4 := (blk_cell HZ.out 4).trans rfl
  have s1 : w.heap.size < W.heap.size := blk_lt HZ.out
  have s2 : w.heap.size < W.heap.size + 1 := by omega
  have s3 : w.heap.size < W.heap.size + 1 + 1 := by omega
  have i0c := (blk_cell HI.out 0).trans rfl
  have i1c := (blk_cell HI.out 1).trans rfl
  have t1 : gi < W.heap.size := blk_lt HI.out
  have t2 : gi < W.heap.size + 1 := by omega
  go_wp2_with fail
  refine (HPA.out _).mono ?_
  rintro e w4 ⟨rfl, hb⟩
  clear c0 c1 c2 c3 c4 s1 s2 s3 i0c i1c t1 t2
  have HO' := Aside0.mk (own_below_row HO.out hb)
  have HZ' := Aside0.mk (blk_below HZ.out hb)
  have HI' := Aside0.mk (blk_below HI.out hb)
  have HB' := Aside0.mk (HB.out.trans (hb.mono HB.out.size))
  clear hb HO HZ HI HB
  have HO := HO'
  have HZ := HZ'
  have HI := HI'
  have HB := HB'
  clear HO' HZ' HI' HB'
  have c0 := (blk_cell HZ.out 0).trans rfl
  have c1 := (blk_cell HZ.out 1).trans rfl
  have c2 := (blk_cell HZ.out 2).trans rfl
  have c3 := (blk_cell HZ.out 3).trans rfl
  have c4 := (blk_cell HZ.out 4).trans rfl
  have s1 : w.heap.size < w4.heap.size := blk_lt HZ.out
  have s2 : w.heap.size < w4.heap.size + 1 := by omega
  have s3 : w.heap.size < w4.heap.size + 1 + 1 := by omega
  have i0c := (blk_cell HI.out 0).trans rfl
  have i1c := (blk_cell HI.out 1).trans rfl
  have t1 : gi < w4.heap.size := blk_lt HI.out
  have t2 : gi < w4.heap.size + 1 := by omega
  go_wp2_with (at_builtin; refine wpList_append_own_at _ rfl _ _ 50 rfl (w.heap.size + 1) 9 i0 (.string ⟨#[]⟩) 1 16 Tryz.underlying50 hi0 hz0 hz1 hz2 rfl (by decide) (.slice (some ⟨gw, 0, none⟩) 1 1) 1 [.string word] rfl (HO.out.alloc _) ⟨w4.heap.size, 0, none⟩ 1 1 [.string (putStr a)] rfl rfl (cell_one_new _ _ _) (by simp [Value.oneCell']) (by simp [maxLen]) (by simp) (by simp; omega) ?_; intro v' w5 hown' hgrow _ hat; obtain ⟨g0, cap0, rfl⟩ := ownsRow_succ hown')
  clear c0 c1 c2 c3 c4 s1 s2 s3 i0c i1c t1 t2
  have hne : g0 ≠ gi := by (simp only [Value.ownBlock, Option.some.injEq, World.size_alloc] at hat; have := blk_lt HI.out; omega)
  have HO' := Aside0.mk hown'
  have hgB : w.heap.size + 1 ≤ gw := own_base HO.out _ rfl
  have HZ' := Aside0.mk ((hgrow.block _ (by simp; exact Nat.lt_succ_of_lt (blk_lt HZ.out)) (by (simp only [Value.ownBlock, ne_eq, Option.some.injEq]; omega))).trans (blk_below HZ.out ((Below.refl _ _).alloc (Nat.le_refl _) _)))
  have HI' := Aside0.mk ((hgrow.block _ (by simp; exact Nat.lt_succ_of_lt (blk_lt HI.out)) (by (simp only [Value.ownBlock, ne_eq, Option.some.injEq]; omega))).trans (blk_below HI.out ((Below.refl _ _).alloc (Nat.le_refl _) _)))
  have HB' := Aside0.mk ((HB.out.alloc HB.out.size _).grown hgrow (by have := HB.out.size; simp; omega) (fun k hk => by simp only [Value.ownBlock, Option.some.injEq] at hk; omega))
  clear hown' hgrow hat hgB HO HZ HI HB
  have HO := HO'
  have HZ := HZ'
  have HI := HI'
  have HB := HB'
  clear HO' HZ' HI' HB'
  rw [rounds_succ]
  have c0 := (blk_cell HZ.out 0).trans rfl
  have c1 := (blk_cell HZ.out 1).trans rfl
  have c2 := (blk_cell HZ.out 2).trans rfl
  have c3 := (blk_cell HZ.out 3).trans rfl
  have c4 := (blk_cell HZ.out 4).trans rfl
  have s1 : w.heap.size < w5.heap.size := blk_lt HZ.out
  have s2 : w.heap.size < w5.heap.size + 1 := by omega
  have s3 : w.heap.size < w5.heap.size + 1 + 1 := by omega
  have i0c := (blk_cell HI.out 0).trans rfl
  have i1c := (blk_cell HI.out 1).trans rfl
  have t1 : gi < w5.heap.size := blk_lt HI.out
  have t2 : gi < w5.heap.size + 1 := by omega
  go_wp2_with fail
  refine (HPN.out _).mono ?_
  rintro e w6 ⟨rfl, hb⟩
  clear c0 c1 c2 c3 c4 s1 s2 s3 i0c i1c t1 t2
  have HO' := Aside0.mk (own_below_row HO.out hb)
  have HZ' := Aside0.mk (blk_below HZ.out hb)
  have HI' := Aside0.mk (blk_below HI.out hb)
  have HB' := Aside0.mk (HB.out.trans (hb.mono HB.out.size))
  clear hb HO HZ HI HB
  have HO := HO'
  have HZ := HZ'
  have HI := HI'
  have HB := HB'
  clear HO' HZ' HI' HB'
  have c0 := (blk_cell HZ.out 0).trans rfl
  have c1 := (blk_cell HZ.out 1).trans rfl
  have c2 := (blk_cell HZ.out 2).trans rfl
  have c3 := (blk_cell HZ.out 3).trans rfl
  have c4 := (blk_cell HZ.out 4).trans rfl
  have s1 : w.heap.size < w6.heap.size := blk_lt HZ.out
  have s2 : w.heap.size < w6.heap.size + 1 := by omega
  have s3 : w.heap.size < w6.heap.size + 1 + 1 := by omega
  go_wp2_with (at_builtin; refine wpList_append_own_at _ rfl _ _ 50 rfl (w.heap.size + 1) 9 i0 (.string ⟨#[]⟩) 1 16 Tryz.underlying50 hi0 hz0 hz1 hz2 rfl (by decide) (.slice (some ⟨g0, 0, none⟩) 2 cap0) 2 [.string word, .string (putStr a)] rfl ((HO.out.alloc _).alloc _) ⟨w6.heap.size + 1, 0, none⟩ 2 2 [.string ⟨#[45, 62]⟩, .string ⟨#[110, 111, 110, 101]⟩] rfl rfl ?news (by simp [Value.oneCell']) (by simp [maxLen]) (by simp) (by simp; omega) ?_; (case news => exact cells_two _ _ _ _ _); intro v' w7 hown' hgrow _ _; obtain ⟨g9, cap9, rfl⟩ := ownsRow_succ hown')
  have hgB : w.heap.size + 1 ≤ g0 := own_base HO.out _ rfl
  have HB9 := Aside0.mk (((HB.out.alloc HB.out.size _).alloc (by have := HB.out.size; simp; omega) _).grown hgrow (by have := HB.out.size; simp; omega) (fun k hk => by simp only [Value.ownBlock, Option.some.injEq] at hk; omega))
  have HJ := Aside0.mk (join_own _ g9 cap9 [word, (putStr a), ⟨#[45, 62]⟩, ⟨#[110, 111, 110, 101]⟩] w7 hown' (by simp) (by simp [Lib.join, List.intercalate, List.intersperse] <;> omega))
  clear hown' hgrow hgB HO HZ HI HB c0 c1 c2 c3 c4 s1 s2 s3
  refine HJ.out.mono ?_
  rintro e w9 ⟨rfl, hb9⟩
  have HB10 := Aside0.mk (HB9.out.trans (hb9.mono HB9.out.size))
  clear hb9
  go_wp2
  refine bodyPost_ret (results_tmp2 rfl _ _ _) rfl ?_
  exact ⟨rfl, HB10.out⟩
set_option maxHeartbeats 4000000 in
set_option maxRecDepth 100000 in
theorem text_1_2 (n typ : Int) (word : ByteArray) (ret arg : Nat) (done nothing : Bool) (hw : word.size ≤ 8) (k a b rn : Int) (ha : isI64 a) (hb : isI64 b) (hn : isI64 rn) (w : World)
    (hc : ∀ W, Calls Tryz.prog 42 #[.agg #[.int .i64 k, .int .i64 a, .int .i64 b, .int .i64 2, .int .i64 rn]] W fun e w' => e = .returned (.int .i64 0) ∧ Below W.heap.size W w')
    (hby : ∀ W, Calls Tryz.prog 60 #[.int .i64 k] W fun e w' => e = .returned (.tuple #[.agg #[.int .i64 n, .int .i64 typ, .string word, .int .i64 1, .func (.func ret) #[] #[], .func (.func arg) #[] #[], .bool done, .bool nothing], .int .i64 0]) ∧ Below W.heap.size W w') :
    Calls Tryz.prog 36 #[.agg #[.int .i64 k, .int .i64 a, .int .i64 b, .int .i64 2, .int .i64 rn]] w fun e w' => e = .returned (.tuple #[.string (joinB (textWords ⟨n, typ, word, 1, ret, arg, done, nothing⟩ a b 2 rn)), .int .i64 0]) ∧ Below w.heap.size w w' := by
  obtain ⟨i0, hi0, hz0, hz1, hz2⟩ := info_parts infoS
  have HC := Aside0.mk hc
  have HY := Aside0.mk hby
  have HPA := Aside0.mk (put_at a ha)
  have HPB := Aside0.mk (put_at b hb)
  have HPN := Aside0.mk (put_at rn hn)
  have LA := putStr_size a
  have LB := putStr_size b
  have LN := putStr_size rn
  clear hc hby ha hb hn
  go_enter Tryz.func36, Tryz.ntmps36
  go_wp2_with fail
  refine (HC.out _).mono ?_
  rintro e w2 ⟨rfl, hb2⟩
  have hz := blk_below (blk_new w _) hb2
  have HB2 := Aside0.mk (((Below.refl _ w).alloc (Nat.le_refl _) _).trans (hb2.mono (by simp)))
  have hBW : w.heap.size < w2.heap.size := Nat.lt_of_lt_of_le (by simp) hb2.size
  clear hb2
  have c0 := (blk_cell hz 0).trans rfl
  have c1 := (blk_cell hz 1).trans rfl
  have c2 := (blk_cell hz 2).trans rfl
  have c3 := (blk_cell hz 3).trans rfl
  have c4 := (blk_cell hz 4).trans rfl
  have HZ2 := Aside0.mk hz
  clear hz
  go_wp2_with fail
  refine (HY.out _).mono ?_
  rintro e w3 ⟨rfl, hb3⟩
  clear c0 c1 c2 c3 c4
  have hz := blk_below HZ2.out hb3
  have HB3 := Aside0.mk (HB2.out.trans (hb3.mono HB2.out.size))
  have hBW3 : w.heap.size < w3.heap.size := Nat.lt_of_lt_of_le hBW hb3.size
  clear hb3 hBW
  have c0 := (blk_cell hz 0).trans rfl
  have c1 := (blk_cell hz 1).trans rfl
  have c2 := (blk_cell hz 2).trans rfl
  have c3 := (blk_cell hz 3).trans rfl
  have c4 := (blk_cell hz 4).trans rfl
  have HZ3 := Aside0.mk hz
  clear hz
  have hBW4 : w.heap.size < w3.heap.size + 1 := by omega
  have hBW5 : w.heap.size < w3.heap.size + 1 + 1 := by omega
  go_wp2_with fail
  refine wp_loop_rounds 2 ?_
  rw [rounds_succ]
  clear c0 c1 c2 c3 c4
  have HF := world3 w w3 (.cells #[.int .i64 n, .int .i64 typ, .string word, .int .i64 1, .func (.func ret) #[] #[], .func (.func arg) #[] #[], .bool done, .bool nothing] 101) (.cells #[.string word] 9) (.cells #[.int .i64 a, .int .i64 b] 3) hBW3 HB3.out HZ3.out
  generalize ((w3.alloc (.cells #[.int .i64 n, .int .i64 typ, .string word, .int .i64 1, .func (.func ret) #[] #[], .func (.func arg) #[] #[], .bool done, .bool nothing] 101)).alloc (.cells #[.string word] 9)).alloc (.cells #[.int .i64 a, .int .i64 b] 3) = W at HF ⊢
  clear hBW3 hBW4 hBW5 HB3 HZ3 HZ2 HB2
  generalize hgi : w3.heap.size + 1 + 1 = gi at HF ⊢
  generalize hgw : w3.heap.size + 1 = gw at HF hgi ⊢
  obtain ⟨hz, hwd, hin, HB, l1, l2, l3⟩ := HF
  have HO : W.ownsRow (w.heap.size + 1) 9 1 (.slice (some ⟨gw, 0, none⟩) 1 1) 1 [.string word] := ⟨rfl, .inr ⟨gw, 1, #[.string word], rfl, l1, hwd, by decide, by decide, rfl, rfl⟩⟩
  have HO := Aside0.mk HO
  have HZ := Aside0.mk hz
  have HI := Aside0.mk hin
  have HB := Aside0.mk HB
  have HG := Aside0.mk hgi
  clear hz hwd hin hgi hgw
  have c0 := (blk_cell HZ.out 0).trans rfl
  have c1 := (blk_cell HZ.out 1).trans rfl
  have c2 := (blk_cell HZ.out 2).trans rfl
  have c3 := (blk_cell HZ.out 3).trans rfl
  have c4 := (blk_cell HZ.out 4).trans rfl
  have s1 : w.heap.size < W.heap.size := blk_lt HZ.out
  have s2 : w.heap.size < W.heap.size + 1 := by omega
  have s3 : w.heap.size < W.heap.size + 1 + 1 := by omega
  have i0c := (blk_cell HI.out 0).trans rfl
  have i1c := (blk_cell HI.out 1).trans rfl
  have t1 : gi < W.heap.size := blk_lt HI.out
  have t2 : gi < W.heap.size + 1 := by omega
  go_wp2_with fail
  refine (HPA.out _).mono ?_
  rintro e w4 ⟨rfl, hb⟩
  clear c0 c1 c2 c3 c4 s1 s2 s3 i0c i1c t1 t2
  have HO' := Aside0.mk (own_below_row HO.out hb)
  have HZ' := Aside0.mk (blk_below HZ.out hb)
  have HI' := Aside0.mk (blk_below HI.out hb)
  have HB' := Aside0.mk (HB.out.trans (hb.mono HB.out.size))
  clear hb HO HZ HI HB
  have HO := HO'
  have HZ := HZ'
  have HI := HI'
  have HB := HB'
  clear HO' HZ' HI' HB'
  have c0 := (blk_cell HZ.out 0).trans rfl
  have c1 := (blk_cell HZ.out 1).trans rfl
  have c2 := (blk_cell HZ.out 2).trans rfl
  have c3 := (blk_cell HZ.out 3).trans rfl
  have c4 := (blk_cell HZ.out 4).trans rfl
  have s1 : w.heap.size < w4.heap.size := blk_lt HZ.out
  have s2 : w.heap.size < w4.heap.size + 1 := by omega
  have s3 : w.heap.size < w4.heap.size + 1 + 1 := by omega
  have i0c := (blk_cell HI.out 0).trans rfl
  have i1c := (blk_cell HI.out 1).trans rfl
  have t1 : gi < w4.heap.size := blk_lt HI.out
  have t2 : gi < w4.heap.size + 1 := by omega
  go_wp2_with (at_builtin; refine wpList_append_own_at _ rfl _ _ 50 rfl (w.heap.size + 1) 9 i0 (.string ⟨#[]⟩) 1 16 Tryz.underlying50 hi0 hz0 hz1 hz2 rfl (by decide) (.slice (some ⟨gw, 0, none⟩) 1 1) 1 [.string word] rfl (HO.out.alloc _) ⟨w4.heap.size, 0, none⟩ 1 1 [.string (putStr a)] rfl rfl (cell_one_new _ _ _) (by simp [Value.oneCell']) (by simp [maxLen]) (by simp) (by simp; omega) ?_; intro v' w5 hown' hgrow _ hat; obtain ⟨g0, cap0, rfl⟩ := ownsRow_succ hown')
  clear c0 c1 c2 c3 c4 s1 s2 s3 i0c i1c t1 t2
  have hne : g0 ≠ gi := by (simp only [Value.ownBlock, Option.some.injEq, World.size_alloc] at hat; have := blk_lt HI.out; omega)
  have HO' := Aside0.mk hown'
  have hgB : w.heap.size + 1 ≤ gw := own_base HO.out _ rfl
  have HZ' := Aside0.mk ((hgrow.block _ (by simp; exact Nat.lt_succ_of_lt (blk_lt HZ.out)) (by (simp only [Value.ownBlock, ne_eq, Option.some.injEq]; omega))).trans (blk_below HZ.out ((Below.refl _ _).alloc (Nat.le_refl _) _)))
  have HI' := Aside0.mk ((hgrow.block _ (by simp; exact Nat.lt_succ_of_lt (blk_lt HI.out)) (by (simp only [Value.ownBlock, ne_eq, Option.some.injEq]; omega))).trans (blk_below HI.out ((Below.refl _ _).alloc (Nat.le_refl _) _)))
  have HB' := Aside0.mk ((HB.out.alloc HB.out.size _).grown hgrow (by have := HB.out.size; simp; omega) (fun k hk => by simp only [Value.ownBlock, Option.some.injEq] at hk; omega))
  clear hown' hgrow hat hgB HO HZ HI HB
  have HO := HO'
  have HZ := HZ'
  have HI := HI'
  have HB := HB'
  clear HO' HZ' HI' HB'
  rw [rounds_succ]
  have c0 := (blk_cell HZ.out 0).trans rfl
  have c1 := (blk_cell HZ.out 1).trans rfl
  have c2 := (blk_cell HZ.out 2).trans rfl
  have c3 := (blk_cell HZ.out 3).trans rfl
  have c4 := (blk_cell HZ.out 4).trans rfl
  have s1 : w.heap.size < w5.heap.size := blk_lt HZ.out
  have s2 : w.heap.size < w5.heap.size + 1 := by omega
  have s3 : w.heap.size < w5.heap.size + 1 + 1 := by omega
  have i0c := (blk_cell HI.out 0).trans rfl
  have i1c := (blk_cell HI.out 1).trans rfl
  have t1 : gi < w5.heap.size := blk_lt HI.out
  have t2 : gi < w5.heap.size + 1 := by omega
  go_wp2_with fail
  refine (HPN.out _).mono ?_
  rintro e w6 ⟨rfl, hb⟩
  clear c0 c1 c2 c3 c4 s1 s2 s3 i0c i1c t1 t2
  have HO' := Aside0.mk (own_below_row HO.out hb)
  have HZ' := Aside0.mk (blk_below HZ.out hb)
  have HI' := Aside0.mk (blk_below HI.out hb)
  have HB' := Aside0.mk (HB.out.trans (hb.mono HB.out.size))
  clear hb HO HZ HI HB
  have HO := HO'
  have HZ := HZ'
  have HI := HI'
  have HB := HB'
  clear HO' HZ' HI' HB'
  have c0 := (blk_cell HZ.out 0).trans rfl
  have c1 := (blk_cell HZ.out 1).trans rfl
  have c2 := (blk_cell HZ.out 2).trans rfl
  have c3 := (blk_cell HZ.out 3).trans rfl
  have c4 := (blk_cell HZ.out 4).trans rfl
  have s1 : w.heap.size < w6.heap.size := blk_lt HZ.out
  have s2 : w.heap.size < w6.heap.size + 1 := by omega
  have s3 : w.heap.size < w6.heap.size + 1 + 1 := by omega
  go_wp2_with (at_builtin; refine wpList_append_own_at _ rfl _ _ 50 rfl (w.heap.size + 1) 9 i0 (.string ⟨#[]⟩) 1 16 Tryz.underlying50 hi0 hz0 hz1 hz2 rfl (by decide) (.slice (some ⟨g0, 0, none⟩) 2 cap0) 2 [.string word, .string (putStr a)] rfl ((HO.out.alloc _).alloc _) ⟨w6.heap.size + 1, 0, none⟩ 2 2 [.string ⟨#[45, 62]⟩, .string (putStr rn)] rfl rfl ?news (by simp [Value.oneCell']) (by simp [maxLen]) (by simp) (by simp; omega) ?_; (case news => exact cells_two _ _ _ _ _); intro v' w7 hown' hgrow _ _; obtain ⟨g9, cap9, rfl⟩ := ownsRow_succ hown')
  have hgB : w.heap.size + 1 ≤ g0 := own_base HO.out _ rfl
  have HB9 := Aside0.mk (((HB.out.alloc HB.out.size _).alloc (by have := HB.out.size; simp; omega) _).grown hgrow (by have := HB.out.size; simp; omega) (fun k hk => by simp only [Value.ownBlock, Option.some.injEq] at hk; omega))
  have HJ := Aside0.mk (join_own _ g9 cap9 [word, (putStr a), ⟨#[45, 62]⟩, (putStr rn)] w7 hown' (by simp) (by simp [Lib.join, List.intercalate, List.intersperse] <;> omega))
  clear hown' hgrow hgB HO HZ HI HB c0 c1 c2 c3 c4 s1 s2 s3
  refine HJ.out.mono ?_
  rintro e w9 ⟨rfl, hb9⟩
  have HB10 := Aside0.mk (HB9.out.trans (hb9.mono HB9.out.size))
  clear hb9
  go_wp2
  refine bodyPost_ret (results_tmp2 rfl _ _ _) rfl ?_
  exact ⟨rfl, HB10.out⟩
set_option maxHeartbeats 4000000 in
set_option maxRecDepth 100000 in
theorem text_2_0 (n typ : Int) (word : ByteArray) (ret arg : Nat) (done nothing : Bool) (hw : word.size ≤ 8) (k a b rn : Int) (ha : isI64 a) (hb : isI64 b) (hn : isI64 rn) (w : World)
    (hc : ∀ W, Calls Tryz.prog 42 #[.agg #[.int .i64 k, .int .i64 a, .int .i64 b, .int .i64 0, .int .i64 rn]] W fun e w' => e = .returned (.int .i64 0) ∧ Below W.heap.size W w')
    (hby : ∀ W, Calls Tryz.prog 60 #[.int .i64 k] W fun e w' => e = .returned (.tuple #[.agg #[.int .i64 n, .int .i64 typ, .string word, .int .i64 2, .func (.func ret) #[] #[], .func (.func arg) #[] #[], .bool done, .bool nothing], .int .i64 0]) ∧ Below W.heap.size W w') :
    Calls Tryz.prog 36 #[.agg #[.int .i64 k, .int .i64 a, .int .i64 b, .int .i64 0, .int .i64 rn]] w fun e w' => e = .returned (.tuple #[.string (joinB (textWords ⟨n, typ, word, 2, ret, arg, done, nothing⟩ a b 0 rn)), .int .i64 0]) ∧ Below w.heap.size w w' := by
  obtain ⟨i0, hi0, hz0, hz1, hz2⟩ := info_parts infoS
  have HC := Aside0.mk hc
  have HY := Aside0.mk hby
  have HPA := Aside0.mk (put_at a ha)
  have HPB := Aside0.mk (put_at b hb)
  have HPN := Aside0.mk (put_at rn hn)
  have LA := putStr_size a
  have LB := putStr_size b
  have LN := putStr_size rn
  clear hc hby ha hb hn
  go_enter Tryz.func36, Tryz.ntmps36
  go_wp2_with fail
  refine (HC.out _).mono ?_
  rintro e w2 ⟨rfl, hb2⟩
  have hz := blk_below (blk_new w _) hb2
  have HB2 := Aside0.mk (((Below.refl _ w).alloc (Nat.le_refl _) _).trans (hb2.mono (by simp)))
  have hBW : w.heap.size < w2.heap.size := Nat.lt_of_lt_of_le (by simp) hb2.size
  clear hb2
  have c0 := (blk_cell hz 0).trans rfl
  have c1 := (blk_cell hz 1).trans rfl
  have c2 := (blk_cell hz 2).trans rfl
  have c3 := (blk_cell hz 3).trans rfl
  have c4 := (blk_cell hz 4).trans rfl
  have HZ2 := Aside0.mk hz
  clear hz
  go_wp2_with fail
  refine (HY.out _).mono ?_
  rintro e w3 ⟨rfl, hb3⟩
  clear c0 c1 c2 c3 c4
  have hz := blk_below HZ2.out hb3
  have HB3 := Aside0.mk (HB2.out.trans (hb3.mono HB2.out.size))
  have hBW3 : w.heap.size < w3.heap.size := Nat.lt_of_lt_of_le hBW hb3.size
  clear hb3 hBW
  have c0 := (blk_cell hz 0).trans rfl
  have c1 := (blk_cell hz 1).trans rfl
  have c2 := (blk_cell hz 2).trans rfl
  have c3 := (blk_cell hz 3).trans rfl
  have c4 := (blk_cell hz 4).trans rfl
  have HZ3 := Aside0.mk hz
  clear hz
  have hBW4 : w.heap.size < w3.heap.size + 1 := by omega
  have hBW5 : w.heap.size < w3.heap.size + 1 + 1 := by omega
  go_wp2_with fail
  refine wp_loop_rounds 3 ?_
  rw [rounds_succ]
  clear c0 c1 c2 c3 c4
  have HF := world3 w w3 (.cells #[.int .i64 n, .int .i64 typ, .string word, .int .i64 2, .func (.func ret) #[] #[], .func (.func arg) #[] #[], .bool done, .bool nothing] 101) (.cells #[.string word] 9) (.cells #[.int .i64 a, .int .i64 b] 3) hBW3 HB3.out HZ3.out
  generalize ((w3.alloc (.cells #[.int .i64 n, .int .i64 typ, .string word, .int .i64 2, .func (.func ret) #[] #[], .func (.func arg) #[] #[], .bool done, .bool nothing] 101)).alloc (.cells #[.string word] 9)).alloc (.cells #[.int .i64 a, .int .i64 b] 3) = W at HF ⊢
  clear hBW3 hBW4 hBW5 HB3 HZ3 HZ2 HB2
  generalize hgi : w3.heap.size + 1 + 1 = gi at HF ⊢
  generalize hgw : w3.heap.size + 1 = gw at HF hgi ⊢
  obtain ⟨hz, hwd, hin, HB, l1, l2, l3⟩ := HF
  have HO : W.ownsRow (w.heap.size + 1) 9 1 (.slice (some ⟨gw, 0, none⟩) 1 1) 1 [.string word] := ⟨rfl, .inr ⟨gw, 1, #[.string word], rfl, l1, hwd, by decide, by decide, rfl, rfl⟩⟩
  have HO := Aside0.mk HO
  have HZ := Aside0.mk hz
  have HI := Aside0.mk hin
  have HB := Aside0.mk HB
  have HG := Aside0.mk hgi
  clear hz hwd hin hgi hgw
  have c0 := (blk_cell HZ.out 0).trans rfl
  have c1 := (blk_cell HZ.out 1).trans rfl
  have c2 := (blk_cell HZ.out 2).trans rfl
  have c3 := (blk_cell HZ.out 3).trans rfl
  have c4 := (blk_cell HZ.out 4).trans rfl
  have s1 : w.heap.size < W.heap.size := blk_lt HZ.out
  have s2 : w.heap.size < W.heap.size + 1 := by omega
  have s3 : w.heap.size < W.heap.size + 1 + 1 := by omega
  have i0c := (blk_cell HI.out 0).trans rfl
  have i1c := (blk_cell HI.out 1).trans rfl
  have t1 : gi < W.heap.size := blk_lt HI.out
  have t2 : gi < W.heap.size + 1 := by omega
  go_wp2_with fail
  refine (HPA.out _).mono ?_
  rintro e w4 ⟨rfl, hb⟩
  clear c0 c1 c2 c3 c4 s1 s2 s3 i0c i1c t1 t2
  have HO' := Aside0.mk (own_below_row HO.out hb)
  have HZ' := Aside0.mk (blk_below HZ.out hb)
  have HI' := Aside0.mk (blk_below HI.out hb)
  have HB' := Aside0.mk (HB.out.trans (hb.mono HB.out.size))
  clear hb HO HZ HI HB
  have HO := HO'
  have HZ := HZ'
  have HI := HI'
  have HB := HB'
  clear HO' HZ' HI' HB'
  have c0 := (blk_cell HZ.out 0).trans rfl
  have c1 := (blk_cell HZ.out 1).trans rfl
  have c2 := (blk_cell HZ.out 2).trans rfl
  have c3 := (blk_cell HZ.out 3).trans rfl
  have c4 := (blk_cell HZ.out 4).trans rfl
  have s1 : w.heap.size < w4.heap.size := blk_lt HZ.out
  have s2 : w.heap.size < w4.heap.size + 1 := by omega
  have s3 : w.heap.size < w4.heap.size + 1 + 1 := by omega
  have i0c := (blk_cell HI.out 0).trans rfl
  have i1c := (blk_cell HI.out 1).trans rfl
  have t1 : gi < w4.heap.size := blk_lt HI.out
  have t2 : gi < w4.heap.size + 1 := by omega
  go_wp2_with (at_builtin; refine wpList_append_own_at _ rfl _ _ 50 rfl (w.heap.size + 1) 9 i0 (.string ⟨#[]⟩) 1 16 Tryz.underlying50 hi0 hz0 hz1 hz2 rfl (by decide) (.slice (some ⟨gw, 0, none⟩) 1 1) 1 [.string word] rfl (HO.out.alloc _) ⟨w4.heap.size, 0, none⟩ 1 1 [.string (putStr a)] rfl rfl (cell_one_new _ _ _) (by simp [Value.oneCell']) (by simp [maxLen]) (by simp) (by simp; omega) ?_; intro v' w5 hown' hgrow _ hat; obtain ⟨g0, cap0, rfl⟩ := ownsRow_succ hown')
  clear c0 c1 c2 c3 c4 s1 s2 s3 i0c i1c t1 t2
  have hne : g0 ≠ gi := by (simp only [Value.ownBlock, Option.some.injEq, World.size_alloc] at hat; have := blk_lt HI.out; omega)
  have HO' := Aside0.mk hown'
  have hgB : w.heap.size + 1 ≤ gw := own_base HO.out _ rfl
  have HZ' := Aside0.mk ((hgrow.block _ (by simp; exact Nat.lt_succ_of_lt (blk_lt HZ.out)) (by (simp only [Value.ownBlock, ne_eq, Option.some.injEq]; omega))).trans (blk_below HZ.out ((Below.refl _ _).alloc (Nat.le_refl _) _)))
  have HI' := Aside0.mk ((hgrow.block _ (by simp; exact Nat.lt_succ_of_lt (blk_lt HI.out)) (by (simp only [Value.ownBlock, ne_eq, Option.some.injEq]; omega))).trans (blk_below HI.out ((Below.refl _ _).alloc (Nat.le_refl _) _)))
  have HB' := Aside0.mk ((HB.out.alloc HB.out.size _).grown hgrow (by have := HB.out.size; simp; omega) (fun k hk => by simp only [Value.ownBlock, Option.some.injEq] at hk; omega))
  clear hown' hgrow hat hgB HO HZ HI HB
  have HO := HO'
  have HZ := HZ'
  have HI := HI'
  have HB := HB'
  clear HO' HZ' HI' HB'
  rw [rounds_succ]
  have c0 := (blk_cell HZ.out 0).trans rfl
  have c1 := (blk_cell HZ.out 1).trans rfl
  have c2 := (blk_cell HZ.out 2).trans rfl
  have c3 := (blk_cell HZ.out 3).trans rfl
  have c4 := (blk_cell HZ.out 4).trans rfl
  have s1 : w.heap.size < w5.heap.size := blk_lt HZ.out
  have s2 : w.heap.size < w5.heap.size + 1 := by omega
  have s3 : w.heap.size < w5.heap.size + 1 + 1 := by omega
  have i0c := (blk_cell HI.out 0).trans rfl
  have i1c := (blk_cell HI.out 1).trans rfl
  have t1 : gi < w5.heap.size := blk_lt HI.out
  have t2 : gi < w5.heap.size + 1 := by omega
  go_wp2_with fail
  refine (HPB.out _).mono ?_
  rintro e w6 ⟨rfl, hb⟩
  clear c0 c1 c2 c3 c4 s1 s2 s3 i0c i1c t1 t2
  have HO' := Aside0.mk (own_below_row HO.out hb)
  have HZ' := Aside0.mk (blk_below HZ.out hb)
  have HI' := Aside0.mk (blk_below HI.out hb)
  have HB' := Aside0.mk (HB.out.trans (hb.mono HB.out.size))
  clear hb HO HZ HI HB
  have HO := HO'
  have HZ := HZ'
  have HI := HI'
  have HB := HB'
  clear HO' HZ' HI' HB'
  have c0 := (blk_cell HZ.out 0).trans rfl
  have c1 := (blk_cell HZ.out 1).trans rfl
  have c2 := (blk_cell HZ.out 2).trans rfl
  have c3 := (blk_cell HZ.out 3).trans rfl
  have c4 := (blk_cell HZ.out 4).trans rfl
  have s1 : w.heap.size < w6.heap.size := blk_lt HZ.out
  have s2 : w.heap.size < w6.heap.size + 1 := by omega
  have s3 : w.heap.size < w6.heap.size + 1 + 1 := by omega
  have i0c := (blk_cell HI.out 0).trans rfl
  have i1c := (blk_cell HI.out 1).trans rfl
  have t1 : gi < w6.heap.size := blk_lt HI.out
  have t2 : gi < w6.heap.size + 1 := by omega
  go_wp2_with (at_builtin; refine wpList_append_own_at _ rfl _ _ 50 rfl (w.heap.size + 1) 9 i0 (.string ⟨#[]⟩) 1 16 Tryz.underlying50 hi0 hz0 hz1 hz2 rfl (by decide) (.slice (some ⟨g0, 0, none⟩) 2 cap0) 2 [.string word, .string (putStr a)] rfl (HO.out.alloc _) ⟨w6.heap.size, 0, none⟩ 1 1 [.string (putStr b)] rfl rfl (cell_one_new _ _ _) (by simp [Value.oneCell']) (by simp [maxLen]) (by simp) (by simp; omega) ?_; intro v' w7 hown' hgrow _ hat; obtain ⟨g1, cap1, rfl⟩ := ownsRow_succ hown')
  clear c0 c1 c2 c3 c4 s1 s2 s3 i0c i1c t1 t2
  have hne : g1 ≠ gi := by (simp only [Value.ownBlock, Option.some.injEq, World.size_alloc] at hat; have := blk_lt HI.out; omega)
  have HO' := Aside0.mk hown'
  have hgB : w.heap.size + 1 ≤ g0 := own_base HO.out _ rfl
  have HZ' := Aside0.mk ((hgrow.block _ (by simp; exact Nat.lt_succ_of_lt (blk_lt HZ.out)) (by (simp only [Value.ownBlock, ne_eq, Option.some.injEq]; omega))).trans (blk_below HZ.out ((Below.refl _ _).alloc (Nat.le_refl _) _)))
  have HI' := Aside0.mk ((hgrow.block _ (by simp; exact Nat.lt_succ_of_lt (blk_lt HI.out)) (by (simp only [Value.ownBlock, ne_eq, Option.some.injEq]; omega))).trans (blk_below HI.out ((Below.refl _ _).alloc (Nat.le_refl _) _)))
  have HB' := Aside0.mk ((HB.out.alloc HB.out.size _).grown hgrow (by have := HB.out.size; simp; omega) (fun k hk => by simp only [Value.ownBlock, Option.some.injEq] at hk; omega))
  clear hown' hgrow hat hgB HO HZ HI HB
  have HO := HO'
  have HZ := HZ'
  have HI := HI'
  have HB := HB'
  clear HO' HZ' HI' HB'
  rw [rounds_succ]
  have c0 := (blk_cell HZ.out 0).trans rfl
  have c1 := (blk_cell HZ.out 1).trans rfl
  have c2 := (blk_cell HZ.out 2).trans rfl
  have c3 := (blk_cell HZ.out 3).trans rfl
  have c4 := (blk_cell HZ.out 4).trans rfl
  have s1 : w.heap.size < w7.heap.size := blk_lt HZ.out
  have s2 : w.heap.size < w7.heap.size + 1 := by omega
  have s3 : w.heap.size < w7.heap.size + 1 + 1 := by omega
  have i0c := (blk_cell HI.out 0).trans rfl
  have i1c := (blk_cell HI.out 1).trans rfl
  have t1 : gi < w7.heap.size := blk_lt HI.out
  have t2 : gi < w7.heap.size + 1 := by omega
  go_wp2_with fail
  refine (HPN.out _).mono ?_
  rintro e w8 ⟨rfl, hb⟩
  clear c0 c1 c2 c3 c4 s1 s2 s3 i0c i1c t1 t2
  have HO' := Aside0.mk (own_below_row HO.out hb)
  have HZ' := Aside0.mk (blk_below HZ.out hb)
  have HI' := Aside0.mk (blk_below HI.out hb)
  have HB' := Aside0.mk (HB.out.trans (hb.mono HB.out.size))
  clear hb HO HZ HI HB
  have HO := HO'
  have HZ := HZ'
  have HI := HI'
  have HB := HB'
  clear HO' HZ' HI' HB'
  have c0 := (blk_cell HZ.out 0).trans rfl
  have c1 := (blk_cell HZ.out 1).trans rfl
  have c2 := (blk_cell HZ.out 2).trans rfl
  have c3 := (blk_cell HZ.out 3).trans rfl
  have c4 := (blk_cell HZ.out 4).trans rfl
  have s1 : w.heap.size < w8.heap.size := blk_lt HZ.out
  have s2 : w.heap.size < w8.heap.size + 1 := by omega
  have s3 : w.heap.size < w8.heap.size + 1 + 1 := by omega
  go_wp2_with (at_builtin; refine wpList_append_own_at _ rfl _ _ 50 rfl (w.heap.size + 1) 9 i0 (.string ⟨#[]⟩) 1 16 Tryz.underlying50 hi0 hz0 hz1 hz2 rfl (by decide) (.slice (some ⟨g1, 0, none⟩) 3 cap1) 3 [.string word, .string (putStr a), .string (putStr b)] rfl ((HO.out.alloc _).alloc _) ⟨w8.heap.size + 1, 0, none⟩ 2 2 [.string ⟨#[45, 62]⟩, .string ⟨#[111, 107]⟩] rfl rfl ?news (by simp [Value.oneCell']) (by simp [maxLen]) (by simp) (by simp; omega) ?_; (case news => exact cells_two _ _ _ _ _); intro v' w9 hown' hgrow _ _; obtain ⟨g9, cap9, rfl⟩ := ownsRow_succ hown')
  have hgB : w.heap.size + 1 ≤ g1 := own_base HO.out _ rfl
  have HB9 := Aside0.mk (((HB.out.alloc HB.out.size _).alloc (by have := HB.out.size; simp; omega) _).grown hgrow (by have := HB.out.size; simp; omega) (fun k hk => by simp only [Value.ownBlock, Option.some.injEq] at hk; omega))
  have HJ := Aside0.mk (join_own _ g9 cap9 [word, (putStr a), (putStr b), ⟨#[45, 62]⟩, ⟨#[111, 107]⟩] w9 hown' (by simp) (by simp [Lib.join, List.intercalate, List.intersperse] <;> omega))
  clear hown' hgrow hgB HO HZ HI HB c0 c1 c2 c3 c4 s1 s2 s3
  refine HJ.out.mono ?_
  rintro e w9 ⟨rfl, hb9⟩
  have HB10 := Aside0.mk (HB9.out.trans (hb9.mono HB9.out.size))
  clear hb9
  go_wp2
  refine bodyPost_ret (results_tmp2 rfl _ _ _) rfl ?_
  exact ⟨rfl, HB10.out⟩
set_option maxHeartbeats 4000000 in
set_option maxRecDepth 100000 in
theorem text_2_1 (n typ : Int) (word : ByteArray) (ret arg : Nat) (done nothing : Bool) (hw : word.size ≤ 8) (k a b rn : Int) (ha : isI64 a) (hb : isI64 b) (hn : isI64 rn) (w : World)
    (hc : ∀ W, Calls Tryz.prog 42 #[.agg #[.int .i64 k, .int .i64 a, .int .i64 b, .int .i64 1, .int .i64 rn]] W fun e w' => e = .returned (.int .i64 0) ∧ Below W.heap.size W w')
    (hby : ∀ W, Calls Tryz.prog 60 #[.int .i64 k] W fun e w' => e = .returned (.tuple #[.agg #[.int .i64 n, .int .i64 typ, .string word, .int .i64 2, .func (.func ret) #[] #[], .func (.func arg) #[] #[], .bool done, .bool nothing], .int .i64 0]) ∧ Below W.heap.size W w') :
    Calls Tryz.prog 36 #[.agg #[.int .i64 k, .int .i64 a, .int .i64 b, .int .i64 1, .int .i64 rn]] w fun e w' => e = .returned (.tuple #[.string (joinB (textWords ⟨n, typ, word, 2, ret, arg, done, nothing⟩ a b 1 rn)), .int .i64 0]) ∧ Below w.heap.size w w' := by
  obtain ⟨i0, hi0, hz0, hz1, hz2⟩ := info_parts infoS
  have HC := Aside0.mk hc
  have HY := Aside0.mk hby
  have HPA := Aside0.mk (put_at a ha)
  have HPB := Aside0.mk (put_at b hb)
  have HPN := Aside0.mk (put_at rn hn)
  have LA := putStr_size a
  have LB := putStr_size b
  have LN := putStr_size rn
  clear hc hby ha hb hn
  go_enter Tryz.func36, Tryz.ntmps36
  go_wp2_with fail
  refine (HC.out _).mono ?_
  rintro e w2 ⟨rfl, hb2⟩
  have hz := blk_below (blk_new w _) hb2
  have HB2 := Aside0.mk (((Below.refl _ w).alloc (Nat.le_refl _) _).trans (hb2.mono (by simp)))
  have hBW : w.heap.size < w2.heap.size := Nat.lt_of_lt_of_le (by simp) hb2.size
  clear hb2
  have c0 := (blk_cell hz 0).trans rfl
  have c1 := (blk_cell hz 1).trans rfl
  have c2 := (blk_cell hz 2).trans rfl
  have c3 := (blk_cell hz 3).trans rfl
  have c4 := (blk_cell hz 4).trans rfl
  have HZ2 := Aside0.mk hz
  clear hz
  go_wp2_with fail
  refine (HY.out _).mono ?_
  rintro e w3 ⟨rfl, hb3⟩
  clear c0 c1 c2 c3 c4
  have hz := blk_below HZ2.out hb3
  have HB3 := Aside0.mk (HB2.out.trans (hb3.mono HB2.out.size))
  have hBW3 : w.heap.size < w3.heap.size := Nat.lt_of_lt_of_le hBW hb3.size
  clear hb3 hBW
  have c0 := (blk_cell hz 0).trans rfl
  have c1 := (blk_cell hz 1).trans rfl
  have c2 := (blk_cell hz 2).trans rfl
  have c3 := (blk_cell hz 3).trans rfl
  have c4 := (blk_cell hz 4).trans rfl
  have HZ3 := Aside0.mk hz
  clear hz
  have hBW4 : w.heap.size < w3.heap.size + 1 := by omega
  have hBW5 : w.heap.size < w3.heap.size + 1 + 1 := by omega
  go_wp2_with fail
  refine wp_loop_rounds 3 ?_
  rw [rounds_succ]
  clear c0 c1 c2 c3 c4
  have HF := world3 w w3 (.cells #[.int .i64 n, .int .i64 typ, .string word, .int .i64 2, .func (.func ret) #[] #[], .func (.func arg) #[] #[], .bool done, .bool nothing] 101) (.cells #[.string word] 9) (.cells #[.int .i64 a, .int .i64 b] 3) hBW3 HB3.out HZ3.out
  generalize ((w3.alloc (.cells #[.int .i64 n, .int .i64 typ, .string word, .int .i64 2, .func (.func ret) #[] #[], .func (.func arg) #[] #[], .bool done, .bool nothing] 101)).alloc (.cells #[.string word] 9)).alloc (.cells #[.int .i64 a, .int .i64 b] 3) = W at HF ⊢
  clear hBW3 hBW4 hBW5 HB3 HZ3 HZ2 HB2
  generalize hgi : w3.heap.size + 1 + 1 = gi at HF ⊢
  generalize hgw : w3.heap.size + 1 = gw at HF hgi ⊢
  obtain ⟨hz, hwd, hin, HB, l1, l2, l3⟩ := HF
  have HO : W.ownsRow (w.heap.size + 1) 9 1 (.slice (some ⟨gw, 0, none⟩) 1 1) 1 [.string word] := ⟨rfl, .inr ⟨gw, 1, #[.string word], rfl, l1, hwd, by decide, by decide, rfl, rfl⟩⟩
  have HO := Aside0.mk HO
  have HZ := Aside0.mk hz
  have HI := Aside0.mk hin
  have HB := Aside0.mk HB
  have HG := Aside0.mk hgi
  clear hz hwd hin hgi hgw
  have c0 := (blk_cell HZ.out 0).trans rfl
  have c1 := (blk_cell HZ.out 1).trans rfl
  have c2 := (blk_cell HZ.out 2).trans rfl
  have c3 := (blk_cell HZ.out 3).trans rfl
  have c4 := (blk_cell HZ.out 4).trans rfl
  have s1 : w.heap.size < W.heap.size := blk_lt HZ.out
  have s2 : w.heap.size < W.heap.size + 1 := by omega
  have s3 : w.heap.size < W.heap.size + 1 + 1 := by omega
  have i0c := (blk_cell HI.out 0).trans rfl
  have i1c := (blk_cell HI.out 1).trans rfl
  have t1 : gi < W.heap.size := blk_lt HI.out
  have t2 : gi < W.heap.size + 1 := by omega
  go_wp2_with fail
  refine (HPA.out _).mono ?_
  rintro e w4 ⟨rfl, hb⟩
  clear c0 c1 c2 c3 c4 s1 s2 s3 i0c i1c t1 t2
  have HO' := Aside0.mk (own_below_row HO.out hb)
  have HZ' := Aside0.mk (blk_below HZ.out hb)
  have HI' := Aside0.mk (blk_below HI.out hb)
  have HB' := Aside0.mk (HB.out.trans (hb.mono HB.out.size))
  clear hb HO HZ HI HB
  have HO := HO'
  have HZ := HZ'
  have HI := HI'
  have HB := HB'
  clear HO' HZ' HI' HB'
  have c0 := (blk_cell HZ.out 0).trans rfl
  have c1 := (blk_cell HZ.out 1).trans rfl
  have c2 := (blk_cell HZ.out 2).trans rfl
  have c3 := (blk_cell HZ.out 3).trans rfl
  have c4 := (blk_cell HZ.out 4).trans rfl
  have s1 : w.heap.size < w4.heap.size := blk_lt HZ.out
  have s2 : w.heap.size < w4.heap.size + 1 := by omega
  have s3 : w.heap.size < w4.heap.size + 1 + 1 := by omega
  have i0c := (blk_cell HI.out 0).trans rfl
  have i1c := (blk_cell HI.out 1).trans rfl
  have t1 : gi < w4.heap.size := blk_lt HI.out
  have t2 : gi < w4.heap.size + 1 := by omega
  go_wp2_with (at_builtin; refine wpList_append_own_at _ rfl _ _ 50 rfl (w.heap.size + 1) 9 i0 (.string ⟨#[]⟩) 1 16 Tryz.underlying50 hi0 hz0 hz1 hz2 rfl (by decide) (.slice (some ⟨gw, 0, none⟩) 1 1) 1 [.string word] rfl (HO.out.alloc _) ⟨w4.heap.size, 0, none⟩ 1 1 [.string (putStr a)] rfl rfl (cell_one_new _ _ _) (by simp [Value.oneCell']) (by simp [maxLen]) (by simp) (by simp; omega) ?_; intro v' w5 hown' hgrow _ hat; obtain ⟨g0, cap0, rfl⟩ := ownsRow_succ hown')
  clear c0 c1 c2 c3 c4 s1 s2 s3 i0c i1c t1 t2
  have hne : g0 ≠ gi := by (simp only [Value.ownBlock, Option.some.injEq, World.size_alloc] at hat; have := blk_lt HI.out; omega)
  have HO' := Aside0.mk hown'
  have hgB : w.heap.size + 1 ≤ gw := own_base HO.out _ rfl
  have HZ' := Aside0.mk ((hgrow.block _ (by simp; exact Nat.lt_succ_of_lt (blk_lt HZ.out)) (by (simp only [Value.ownBlock, ne_eq, Option.some.injEq]; omega))).trans (blk_below HZ.out ((Below.refl _ _).alloc (Nat.le_refl _) _)))
  have HI' := Aside0.mk ((hgrow.block _ (by simp; exact Nat.lt_succ_of_lt (blk_lt HI.out)) (by (simp only [Value.ownBlock, ne_eq, Option.some.injEq]; omega))).trans (blk_below HI.out ((Below.refl _ _).alloc (Nat.le_refl _) _)))
  have HB' := Aside0.mk ((HB.out.alloc HB.out.size _).grown hgrow (by have := HB.out.size; simp; omega) (fun k hk => by simp only [Value.ownBlock, Option.some.injEq] at hk; omega))
  clear hown' hgrow hat hgB HO HZ HI HB
  have HO := HO'
  have HZ := HZ'
  have HI := HI'
  have HB := HB'
  clear HO' HZ' HI' HB'
  rw [rounds_succ]
  have c0 := (blk_cell HZ.out 0).trans rfl
  have c1 := (blk_cell HZ.out 1).trans rfl
  have c2 := (blk_cell HZ.out 2).trans rfl
  have c3 := (blk_cell HZ.out 3).trans rfl
  have c4 := (blk_cell HZ.out 4).trans rfl
  have s1 : w.heap.size < w5.heap.size := blk_lt HZ.out
  have s2 : w.heap.size < w5.heap.size + 1 := by omega
  have s3 : w.heap.size < w5.heap.size + 1 + 1 := by omega
  have i0c := (blk_cell HI.out 0).trans rfl
  have i1c := (blk_cell HI.out 1).trans rfl
  have t1 : gi < w5.heap.size := blk_lt HI.out
  have t2 : gi < w5.heap.size + 1 := by omega
  go_wp2_with fail
  refine (HPB.out _).mono ?_
  rintro e w6 ⟨rfl, hb⟩
  clear c0 c1 c2 c3 c4 s1 s2 s3 i0c i1c t1 t2
  have HO' := Aside0.mk (own_below_row HO.out hb)
  have HZ' := Aside0.mk (blk_below HZ.out hb)
  have HI' := Aside0.mk (blk_below HI.out hb)
  have HB' := Aside0.mk (HB.out.trans (hb.mono HB.out.size))
  clear hb HO HZ HI HB
  have HO := HO'
  have HZ := HZ'
  have HI := HI'
  have HB := HB'
  clear HO' HZ' HI' HB'
  have c0 := (blk_cell HZ.out 0).trans rfl
  have c1 := (blk_cell HZ.out 1).trans rfl
  have c2 := (blk_cell HZ.out 2).trans rfl
  have c3 := (blk_cell HZ.out 3).trans rfl
  have c4 := (blk_cell HZ.out 4).trans rfl
  have s1 : w.heap.size < w6.heap.size := blk_lt HZ.out
  have s2 : w.heap.size < w6.heap.size + 1 := by omega
  have s3 : w.heap.size < w6.heap.size + 1 + 1 := by omega
  have i0c := (blk_cell HI.out 0).trans rfl
  have i1c := (blk_cell HI.out 1).trans rfl
  have t1 : gi < w6.heap.size := blk_lt HI.out
  have t2 : gi < w6.heap.size + 1 := by omega
  go_wp2_with (at_builtin; refine wpList_append_own_at _ rfl _ _ 50 rfl (w.heap.size + 1) 9 i0 (.string ⟨#[]⟩) 1 16 Tryz.underlying50 hi0 hz0 hz1 hz2 rfl (by decide) (.slice (some ⟨g0, 0, none⟩) 2 cap0) 2 [.string word, .string (putStr a)] rfl (HO.out.alloc _) ⟨w6.heap.size, 0, none⟩ 1 1 [.string (putStr b)] rfl rfl (cell_one_new _ _ _) (by simp [Value.oneCell']) (by simp [maxLen]) (by simp) (by simp; omega) ?_; intro v' w7 hown' hgrow _ hat; obtain ⟨g1, cap1, rfl⟩ := ownsRow_succ hown')
  clear c0 c1 c2 c3 c4 s1 s2 s3 i0c i1c t1 t2
  have hne : g1 ≠ gi := by (simp only [Value.ownBlock, Option.some.injEq, World.size_alloc] at hat; have := blk_lt HI.out; omega)
  have HO' := Aside0.mk hown'
  have hgB : w.heap.size + 1 ≤ g0 := own_base HO.out _ rfl
  have HZ' := Aside0.mk ((hgrow.block _ (by simp; exact Nat.lt_succ_of_lt (blk_lt HZ.out)) (by (simp only [Value.ownBlock, ne_eq, Option.some.injEq]; omega))).trans (blk_below HZ.out ((Below.refl _ _).alloc (Nat.le_refl _) _)))
  have HI' := Aside0.mk ((hgrow.block _ (by simp; exact Nat.lt_succ_of_lt (blk_lt HI.out)) (by (simp only [Value.ownBlock, ne_eq, Option.some.injEq]; omega))).trans (blk_below HI.out ((Below.refl _ _).alloc (Nat.le_refl _) _)))
  have HB' := Aside0.mk ((HB.out.alloc HB.out.size _).grown hgrow (by have := HB.out.size; simp; omega) (fun k hk => by simp only [Value.ownBlock, Option.some.injEq] at hk; omega))
  clear hown' hgrow hat hgB HO HZ HI HB
  have HO := HO'
  have HZ := HZ'
  have HI := HI'
  have HB := HB'
  clear HO' HZ' HI' HB'
  rw [rounds_succ]
  have c0 := (blk_cell HZ.out 0).trans rfl
  have c1 := (blk_cell HZ.out 1).trans rfl
  have c2 := (blk_cell HZ.out 2).trans rfl
  have c3 := (blk_cell HZ.out 3).trans rfl
  have c4 := (blk_cell HZ.out 4).trans rfl
  have s1 : w.heap.size < w7.heap.size := blk_lt HZ.out
  have s2 : w.heap.size < w7.heap.size + 1 := by omega
  have s3 : w.heap.size < w7.heap.size + 1 + 1 := by omega
  have i0c := (blk_cell HI.out 0).trans rfl
  have i1c := (blk_cell HI.out 1).trans rfl
  have t1 : gi < w7.heap.size := blk_lt HI.out
  have t2 : gi < w7.heap.size + 1 := by omega
  go_wp2_with fail
  refine (HPN.out _).mono ?_
  rintro e w8 ⟨rfl, hb⟩
  clear c0 c1 c2 c3 c4 s1 s2 s3 i0c i1c t1 t2
  have HO' := Aside0.mk (own_below_row HO.out hb)
  have HZ' := Aside0.mk (blk_below HZ.out hb)
  have HI' := Aside0.mk (blk_below HI.out hb)
  have HB' := Aside0.mk (HB.out.trans (hb.mono HB.out.size))
  clear hb HO HZ HI HB
  have HO := HO'
  have HZ := HZ'
  have HI := HI'
  have HB := HB'
  clear HO' HZ' HI' HB'
  have c0 := (blk_cell HZ.out 0).trans rfl
  have c1 := (blk_cell HZ.out 1).trans rfl
  have c2 := (blk_cell HZ.out 2).trans rfl
  have c3 := (blk_cell HZ.out 3).trans rfl
  have c4 := (blk_cell HZ.out 4).trans rfl
  have s1 : w.heap.size < w8.heap.size := blk_lt HZ.out
  have s2 : w.heap.size < w8.heap.size + 1 := by omega
  have s3 : w.heap.size < w8.heap.size + 1 + 1 := by omega
  go_wp2_with (at_builtin; refine wpList_append_own_at _ rfl _ _ 50 rfl (w.heap.size + 1) 9 i0 (.string ⟨#[]⟩) 1 16 Tryz.underlying50 hi0 hz0 hz1 hz2 rfl (by decide) (.slice (some ⟨g1, 0, none⟩) 3 cap1) 3 [.string word, .string (putStr a), .string (putStr b)] rfl ((HO.out.alloc _).alloc _) ⟨w8.heap.size + 1, 0, none⟩ 2 2 [.string ⟨#[45, 62]⟩, .string ⟨#[110, 111, 110, 101]⟩] rfl rfl ?news (by simp [Value.oneCell']) (by simp [maxLen]) (by simp) (by simp; omega) ?_; (case news => exact cells_two _ _ _ _ _); intro v' w9 hown' hgrow _ _; obtain ⟨g9, cap9, rfl⟩ := ownsRow_succ hown')
  have hgB : w.heap.size + 1 ≤ g1 := own_base HO.out _ rfl
  have HB9 := Aside0.mk (((HB.out.alloc HB.out.size _).alloc (by have := HB.out.size; simp; omega) _).grown hgrow (by have := HB.out.size; simp; omega) (fun k hk => by simp only [Value.ownBlock, Option.some.injEq] at hk; omega))
  have HJ := Aside0.mk (join_own _ g9 cap9 [word, (putStr a), (putStr b), ⟨#[45, 62]⟩, ⟨#[110, 111, 110, 101]⟩] w9 hown' (by simp) (by simp [Lib.join, List.intercalate, List.intersperse] <;> omega))
  clear hown' hgrow hgB HO HZ HI HB c0 c1 c2 c3 c4 s1 s2 s3
  refine HJ.out.mono ?_
  rintro e w9 ⟨rfl, hb9⟩
  have HB10 := Aside0.mk (HB9.out.trans (hb9.mono HB9.out.size))
  clear hb9
  go_wp2
  refine bodyPost_ret (results_tmp2 rfl _ _ _) rfl ?_
  exact ⟨rfl, HB10.out⟩
set_option maxHeartbeats 4000000 in
set_option maxRecDepth 100000 in
theorem text_2_2 (n typ : Int) (word : ByteArray) (ret arg : Nat) (done nothing : Bool) (hw : word.size ≤ 8) (k a b rn : Int) (ha : isI64 a) (hb : isI64 b) (hn : isI64 rn) (w : World)
    (hc : ∀ W, Calls Tryz.prog 42 #[.agg #[.int .i64 k, .int .i64 a, .int .i64 b, .int .i64 2, .int .i64 rn]] W fun e w' => e = .returned (.int .i64 0) ∧ Below W.heap.size W w')
    (hby : ∀ W, Calls Tryz.prog 60 #[.int .i64 k] W fun e w' => e = .returned (.tuple #[.agg #[.int .i64 n, .int .i64 typ, .string word, .int .i64 2, .func (.func ret) #[] #[], .func (.func arg) #[] #[], .bool done, .bool nothing], .int .i64 0]) ∧ Below W.heap.size W w') :
    Calls Tryz.prog 36 #[.agg #[.int .i64 k, .int .i64 a, .int .i64 b, .int .i64 2, .int .i64 rn]] w fun e w' => e = .returned (.tuple #[.string (joinB (textWords ⟨n, typ, word, 2, ret, arg, done, nothing⟩ a b 2 rn)), .int .i64 0]) ∧ Below w.heap.size w w' := by
  obtain ⟨i0, hi0, hz0, hz1, hz2⟩ := info_parts infoS
  have HC := Aside0.mk hc
  have HY := Aside0.mk hby
  have HPA := Aside0.mk (put_at a ha)
  have HPB := Aside0.mk (put_at b hb)
  have HPN := Aside0.mk (put_at rn hn)
  have LA := putStr_size a
  have LB := putStr_size b
  have LN := putStr_size rn
  clear hc hby ha hb hn
  go_enter Tryz.func36, Tryz.ntmps36
  go_wp2_with fail
  refine (HC.out _).mono ?_
  rintro e w2 ⟨rfl, hb2⟩
  have hz := blk_below (blk_new w _) hb2
  have HB2 := Aside0.mk (((Below.refl _ w).alloc (Nat.le_refl _) _).trans (hb2.mono (by simp)))
  have hBW : w.heap.size < w2.heap.size := Nat.lt_of_lt_of_le (by simp) hb2.size
  clear hb2
  have c0 := (blk_cell hz 0).trans rfl
  have c1 := (blk_cell hz 1).trans rfl
  have c2 := (blk_cell hz 2).trans rfl
  have c3 := (blk_cell hz 3).trans rfl
  have c4 := (blk_cell hz 4).trans rfl
  have HZ2 := Aside0.mk hz
  clear hz
  go_wp2_with fail
  refine (HY.out _).mono ?_
  rintro e w3 ⟨rfl, hb3⟩
  clear c0 c1 c2 c3 c4
  have hz := blk_below HZ2.out hb3
  have HB3 := Aside0.mk (HB2.out.trans (hb3.mono HB2.out.size))
  have hBW3 : w.heap.size < w3.heap.size := Nat.lt_of_lt_of_le hBW hb3.size
  clear hb3 hBW
  have c0 := (blk_cell hz 0).trans rfl
  have c1 := (blk_cell hz 1).trans rfl
  have c2 := (blk_cell hz 2).trans rfl
  have c3 := (blk_cell hz 3).trans rfl
  have c4 := (blk_cell hz 4).trans rfl
  have HZ3 := Aside0.mk hz
  clear hz
  have hBW4 : w.heap.size < w3.heap.size + 1 := by omega
  have hBW5 : w.heap.size < w3.heap.size + 1 + 1 := by omega
  go_wp2_with fail
  refine wp_loop_rounds 3 ?_
  rw [rounds_succ]
  clear c0 c1 c2 c3 c4
  have HF := world3 w w3 (.cells #[.int .i64 n, .int .i64 typ, .string word, .int .i64 2, .func (.func ret) #[] #[], .func (.func arg) #[] #[], .bool done, .bool nothing] 101) (.cells #[.string word] 9) (.cells #[.int .i64 a, .int .i64 b] 3) hBW3 HB3.out HZ3.out
  generalize ((w3.alloc (.cells #[.int .i64 n, .int .i64 typ, .string word, .int .i64 2, .func (.func ret) #[] #[], .func (.func arg) #[] #[], .bool done, .bool nothing] 101)).alloc (.cells #[.string word] 9)).alloc (.cells #[.int .i64 a, .int .i64 b] 3) = W at HF ⊢
  clear hBW3 hBW4 hBW5 HB3 HZ3 HZ2 HB2
  generalize hgi : w3.heap.size + 1 + 1 = gi at HF ⊢
  generalize hgw : w3.heap.size + 1 = gw at HF hgi ⊢
  obtain ⟨hz, hwd, hin, HB, l1, l2, l3⟩ := HF
  have HO : W.ownsRow (w.heap.size + 1) 9 1 (.slice (some ⟨gw, 0, none⟩) 1 1) 1 [.string word] := ⟨rfl, .inr ⟨gw, 1, #[.string word], rfl, l1, hwd, by decide, by decide, rfl, rfl⟩⟩
  have HO := Aside0.mk HO
  have HZ := Aside0.mk hz
  have HI := Aside0.mk hin
  have HB := Aside0.mk HB
  have HG := Aside0.mk hgi
  clear hz hwd hin hgi hgw
  have c0 := (blk_cell HZ.out 0).trans rfl
  have c1 := (blk_cell HZ.out 1).trans rfl
  have c2 := (blk_cell HZ.out 2).trans rfl
  have c3 := (blk_cell HZ.out 3).trans rfl
  have c4 := (blk_cell HZ.out 4).trans rfl
  have s1 : w.heap.size < W.heap.size := blk_lt HZ.out
  have s2 : w.heap.size < W.heap.size + 1 := by omega
  have s3 : w.heap.size < W.heap.size + 1 + 1 := by omega
  have i0c := (blk_cell HI.out 0).trans rfl
  have i1c := (blk_cell HI.out 1).trans rfl
  have t1 : gi < W.heap.size := blk_lt HI.out
  have t2 : gi < W.heap.size + 1 := by omega
  go_wp2_with fail
  refine (HPA.out _).mono ?_
  rintro e w4 ⟨rfl, hb⟩
  clear c0 c1 c2 c3 c4 s1 s2 s3 i0c i1c t1 t2
  have HO' := Aside0.mk (own_below_row HO.out hb)
  have HZ' := Aside0.mk (blk_below HZ.out hb)
  have HI' := Aside0.mk (blk_below HI.out hb)
  have HB' := Aside0.mk (HB.out.trans (hb.mono HB.out.size))
  clear hb HO HZ HI HB
  have HO := HO'
  have HZ := HZ'
  have HI := HI'
  have HB := HB'
  clear HO' HZ' HI' HB'
  have c0 := (blk_cell HZ.out 0).trans rfl
  have c1 := (blk_cell HZ.out 1).trans rfl
  have c2 := (blk_cell HZ.out 2).trans rfl
  have c3 := (blk_cell HZ.out 3).trans rfl
  have c4 := (blk_cell HZ.out 4).trans rfl
  have s1 : w.heap.size < w4.heap.size := blk_lt HZ.out
  have s2 : w.heap.size < w4.heap.size + 1 := by omega
  have s3 : w.heap.size < w4.heap.size + 1 + 1 := by omega
  have i0c := (blk_cell HI.out 0).trans rfl
  have i1c := (blk_cell HI.out 1).trans rfl
  have t1 : gi < w4.heap.size := blk_lt HI.out
  have t2 : gi < w4.heap.size + 1 := by omega
  go_wp2_with (at_builtin; refine wpList_append_own_at _ rfl _ _ 50 rfl (w.heap.size + 1) 9 i0 (.string ⟨#[]⟩) 1 16 Tryz.underlying50 hi0 hz0 hz1 hz2 rfl (by decide) (.slice (some ⟨gw, 0, none⟩) 1 1) 1 [.string word] rfl (HO.out.alloc _) ⟨w4.heap.size, 0, none⟩ 1 1 [.string (putStr a)] rfl rfl (cell_one_new _ _ _) (by simp [Value.oneCell']) (by simp [maxLen]) (by simp) (by simp; omega) ?_; intro v' w5 hown' hgrow _ hat; obtain ⟨g0, cap0, rfl⟩ := ownsRow_succ hown')
  clear c0 c1 c2 c3 c4 s1 s2 s3 i0c i1c t1 t2
  have hne : g0 ≠ gi := by (simp only [Value.ownBlock, Option.some.injEq, World.size_alloc] at hat; have := blk_lt HI.out; omega)
  have HO' := Aside0.mk hown'
  have hgB : w.heap.size + 1 ≤ gw := own_base HO.out _ rfl
  have HZ' := Aside0.mk ((hgrow.block _ (by simp; exact Nat.lt_succ_of_lt (blk_lt HZ.out)) (by (simp only [Value.ownBlock, ne_eq, Option.some.injEq]; omega))).trans (blk_below HZ.out ((Below.refl _ _).alloc (Nat.le_refl _) _)))
  have HI' := Aside0.mk ((hgrow.block _ (by simp; exact Nat.lt_succ_of_lt (blk_lt HI.out)) (by (simp only [Value.ownBlock, ne_eq, Option.some.injEq]; omega))).trans (blk_below HI.out ((Below.refl _ _).alloc (Nat.le_refl _) _)))
  have HB' := Aside0.mk ((HB.out.alloc HB.out.size _).grown hgrow (by have := HB.out.size; simp; omega) (fun k hk => by simp only [Value.ownBlock, Option.some.injEq] at hk; omega))
  clear hown' hgrow hat hgB HO HZ HI HB
  have HO := HO'
  have HZ := HZ'
  have HI := HI'
  have HB := HB'
  clear HO' HZ' HI' HB'
  rw [rounds_succ]
  have c0 := (blk_cell HZ.out 0).trans rfl
  have c1 := (blk_cell HZ.out 1).trans rfl
  have c2 := (blk_cell HZ.out 2).trans rfl
  have c3 := (blk_cell HZ.out 3).trans rfl
  have c4 := (blk_cell HZ.out 4).trans rfl
  have s1 : w.heap.size < w5.heap.size := blk_lt HZ.out
  have s2 : w.heap.size < w5.heap.size + 1 := by omega
  have s3 : w.heap.size < w5.heap.size + 1 + 1 := by omega
  have i0c := (blk_cell HI.out 0).trans rfl
  have i1c := (blk_cell HI.out 1).trans rfl
  have t1 : gi < w5.heap.size := blk_lt HI.out
  have t2 : gi < w5.heap.size + 1 := by omega
  go_wp2_with fail
  refine (HPB.out _).mono ?_
  rintro e w6 ⟨rfl, hb⟩
  clear c0 c1 c2 c3 c4 s1 s2 s3 i0c i1c t1 t2
  have HO' := Aside0.mk (own_below_row HO.out hb)
  have HZ' := Aside0.mk (blk_below HZ.out hb)
  have HI' := Aside0.mk (blk_below HI.out hb)
  have HB' := Aside0.mk (HB.out.trans (hb.mono HB.out.size))
  clear hb HO HZ HI HB
  have HO := HO'
  have HZ := HZ'
  have HI := HI'
  have HB := HB'
  clear HO' HZ' HI' HB'
  have c0 := (blk_cell HZ.out 0).trans rfl
  have c1 := (blk_cell HZ.out 1).trans rfl
  have c2 := (blk_cell HZ.out 2).trans rfl
  have c3 := (blk_cell HZ.out 3).trans rfl
  have c4 := (blk_cell HZ.out 4).trans rfl
  have s1 : w.heap.size < w6.heap.size := blk_lt HZ.out
  have s2 : w.heap.size < w6.heap.size + 1 := by omega
  have s3 : w.heap.size < w6.heap.size + 1 + 1 := by omega
  have i0c := (blk_cell HI.out 0).trans rfl
  have i1c := (blk_cell HI.out 1).trans rfl
  have t1 : gi < w6.heap.size := blk_lt HI.out
  have t2 : gi < w6.heap.size + 1 := by omega
  go_wp2_with (at_builtin; refine wpList_append_own_at _ rfl _ _ 50 rfl (w.heap.size + 1) 9 i0 (.string ⟨#[]⟩) 1 16 Tryz.underlying50 hi0 hz0 hz1 hz2 rfl (by decide) (.slice (some ⟨g0, 0, none⟩) 2 cap0) 2 [.string word, .string (putStr a)] rfl (HO.out.alloc _) ⟨w6.heap.size, 0, none⟩ 1 1 [.string (putStr b)] rfl rfl (cell_one_new _ _ _) (by simp [Value.oneCell']) (by simp [maxLen]) (by simp) (by simp; omega) ?_; intro v' w7 hown' hgrow _ hat; obtain ⟨g1, cap1, rfl⟩ := ownsRow_succ hown')
  clear c0 c1 c2 c3 c4 s1 s2 s3 i0c i1c t1 t2
  have hne : g1 ≠ gi := by (simp only [Value.ownBlock, Option.some.injEq, World.size_alloc] at hat; have := blk_lt HI.out; omega)
  have HO' := Aside0.mk hown'
  have hgB : w.heap.size + 1 ≤ g0 := own_base HO.out _ rfl
  have HZ' := Aside0.mk ((hgrow.block _ (by simp; exact Nat.lt_succ_of_lt (blk_lt HZ.out)) (by (simp only [Value.ownBlock, ne_eq, Option.some.injEq]; omega))).trans (blk_below HZ.out ((Below.refl _ _).alloc (Nat.le_refl _) _)))
  have HI' := Aside0.mk ((hgrow.block _ (by simp; exact Nat.lt_succ_of_lt (blk_lt HI.out)) (by (simp only [Value.ownBlock, ne_eq, Option.some.injEq]; omega))).trans (blk_below HI.out ((Below.refl _ _).alloc (Nat.le_refl _) _)))
  have HB' := Aside0.mk ((HB.out.alloc HB.out.size _).grown hgrow (by have := HB.out.size; simp; omega) (fun k hk => by simp only [Value.ownBlock, Option.some.injEq] at hk; omega))
  clear hown' hgrow hat hgB HO HZ HI HB
  have HO := HO'
  have HZ := HZ'
  have HI := HI'
  have HB := HB'
  clear HO' HZ' HI' HB'
  rw [rounds_succ]
  have c0 := (blk_cell HZ.out 0).trans rfl
  have c1 := (blk_cell HZ.out 1).trans rfl
  have c2 := (blk_cell HZ.out 2).trans rfl
  have c3 := (blk_cell HZ.out 3).trans rfl
  have c4 := (blk_cell HZ.out 4).trans rfl
  have s1 : w.heap.size < w7.heap.size := blk_lt HZ.out
  have s2 : w.heap.size < w7.heap.size + 1 := by omega
  have s3 : w.heap.size < w7.heap.size + 1 + 1 := by omega
  have i0c := (blk_cell HI.out 0).trans rfl
  have i1c := (blk_cell HI.out 1).trans rfl
  have t1 : gi < w7.heap.size := blk_lt HI.out
  have t2 : gi < w7.heap.size + 1 := by omega
  go_wp2_with fail
  refine (HPN.out _).mono ?_
  rintro e w8 ⟨rfl, hb⟩
  clear c0 c1 c2 c3 c4 s1 s2 s3 i0c i1c t1 t2
  have HO' := Aside0.mk (own_below_row HO.out hb)
  have HZ' := Aside0.mk (blk_below HZ.out hb)
  have HI' := Aside0.mk (blk_below HI.out hb)
  have HB' := Aside0.mk (HB.out.trans (hb.mono HB.out.size))
  clear hb HO HZ HI HB
  have HO := HO'
  have HZ := HZ'
  have HI := HI'
  have HB := HB'
  clear HO' HZ' HI' HB'
  have c0 := (blk_cell HZ.out 0).trans rfl
  have c1 := (blk_cell HZ.out 1).trans rfl
  have c2 := (blk_cell HZ.out 2).trans rfl
  have c3 := (blk_cell HZ.out 3).trans rfl
  have c4 := (blk_cell HZ.out 4).trans rfl
  have s1 : w.heap.size < w8.heap.size := blk_lt HZ.out
  have s2 : w.heap.size < w8.heap.size + 1 := by omega
  have s3 : w.heap.size < w8.heap.size + 1 + 1 := by omega
  go_wp2_with (at_builtin; refine wpList_append_own_at _ rfl _ _ 50 rfl (w.heap.size + 1) 9 i0 (.string ⟨#[]⟩) 1 16 Tryz.underlying50 hi0 hz0 hz1 hz2 rfl (by decide) (.slice (some ⟨g1, 0, none⟩) 3 cap1) 3 [.string word, .string (putStr a), .string (putStr b)] rfl ((HO.out.alloc _).alloc _) ⟨w8.heap.size + 1, 0, none⟩ 2 2 [.string ⟨#[45, 62]⟩, .string (putStr rn)] rfl rfl ?news (by simp [Value.oneCell']) (by simp [maxLen]) (by simp) (by simp; omega) ?_; (case news => exact cells_two _ _ _ _ _); intro v' w9 hown' hgrow _ _; obtain ⟨g9, cap9, rfl⟩ := ownsRow_succ hown')
  have hgB : w.heap.size + 1 ≤ g1 := own_base HO.out _ rfl
  have HB9 := Aside0.mk (((HB.out.alloc HB.out.size _).alloc (by have := HB.out.size; simp; omega) _).grown hgrow (by have := HB.out.size; simp; omega) (fun k hk => by simp only [Value.ownBlock, Option.some.injEq] at hk; omega))
  have HJ := Aside0.mk (join_own _ g9 cap9 [word, (putStr a), (putStr b), ⟨#[45, 62]⟩, (putStr rn)] w9 hown' (by simp) (by simp [Lib.join, List.intercalate, List.intersperse] <;> omega))
  clear hown' hgrow hgB HO HZ HI HB c0 c1 c2 c3 c4 s1 s2 s3
  refine HJ.out.mono ?_
  rintro e w9 ⟨rfl, hb9⟩
  have HB10 := Aside0.mk (HB9.out.trans (hb9.mono HB9.out.size))
  clear hb9
  go_wp2
  refine bodyPost_ret (results_tmp2 rfl _ _ _) rfl ?_
  exact ⟨rfl, HB10.out⟩
set_option maxHeartbeats 4000000 in
set_option maxRecDepth 100000 in
theorem text_bad (k a b rk rn e0 : Int) (he : e0 ≠ 0) (w : World)
    (hc : ∀ W, Calls Tryz.prog 42 #[.agg #[.int .i64 k, .int .i64 a, .int .i64 b, .int .i64 rk, .int .i64 rn]] W fun e w' => e = .returned (.int .i64 e0) ∧ Below W.heap.size W w') :
    Calls Tryz.prog 36 #[.agg #[.int .i64 k, .int .i64 a, .int .i64 b, .int .i64 rk, .int .i64 rn]] w fun e w' => e = .returned (.tuple #[.string ⟨#[]⟩, .int .i64 e0]) ∧ Below w.heap.size w w' := by
  have HC := Aside0.mk hc
  have h1 : (e0 != 0) = true := bne_iff_ne.2 he
  have h2 : (e0 == 0) = false := beq_eq_false_iff_ne.2 he
  clear hc he
  go_enter Tryz.func36, Tryz.ntmps36
  go_wp2_with fail
  refine (HC.out _).mono ?_
  rintro e w2 ⟨rfl, hb2⟩
  have HB2 := Aside0.mk (((Below.refl _ w).alloc (Nat.le_refl _) _).trans (hb2.mono (by simp)))
  clear hb2
  go_wp2
  refine bodyPost_ret (results_tmp2 rfl _ _ _) rfl ?_
  exact ⟨rfl, HB2.out⟩
theorem ret_kind (x : Kd1) (rk rn : Int) (h : retP x rk rn = true) : rk = 0 ∨ rk = 1 ∨ rk = 2 := by
  unfold retP at h
  split at h
  · omega
  · split at h
    · omega
    · simp only [Bool.and_eq_true, beq_iff_eq] at h
      exact .inr (.inr h.1)
theorem check_zero {k a b rk rn : Int} (h : operation_Check.f k a b rk rn = some 0) : (1 ≤ k ∧ k ≤ 15) ∧ argsP (kdOf k) a b = true ∧ retP (kdOf k) rk rn = true := by
  unfold operation_Check.f at h
  simp only [Option.some.injEq] at h
  split at h
  · split at h
    · split at h
      · exact ⟨by assumption, by assumption, by assumption⟩
      · omega
    · omega
  · omega
theorem operation_Text.calls (k a b rk rn : Int) (r1 : ByteArray) (r2 : Int) (w : World) (h : operation_Text.f k a b rk rn = some (r1, r2)) :
    Calls Tryz.prog 36 #[.agg #[.int .i64 k, .int .i64 a, .int .i64 b, .int .i64 rk, .int .i64 rn]] w fun e w' => e = .returned (.tuple #[.string r1, .int .i64 r2]) ∧ Below w.heap.size w w' := by
  unfold operation_Text.f at h
  by_cases hI : isI64 a ∧ isI64 b ∧ isI64 rn
  · rw [if_pos hI] at h
    obtain ⟨ha, hb, hn⟩ := hI
    obtain ⟨e0, hc0, h⟩ := Option.bind_eq_some_iff.1 h
    have HC := fun W => operation_Check.calls k a b rk rn e0 W hc0
    by_cases he : e0 = 0
    · subst he
      rw [if_pos rfl] at h
      simp only [Option.some.injEq, Prod.mk.injEq] at h
      obtain ⟨rfl, rfl⟩ := h
      obtain ⟨hk, _, hr⟩ := check_zero hc0
      have hrk := ret_kind _ _ _ hr
      have HY := fun W => by_calls k W
      unfold byK byE at HY
      unfold kdOf
      simp only [if_pos hk] at HY ⊢
      have hm := kdOf_mem k hk
      have h3 := kinds_args3 _ hm
      have h8 := kinds_word8 _ hm
      generalize kinds15[(k - 1).toNat]! = x at HY h3 h8 ⊢
      obtain ⟨n, typ, word, args, ret, arg, done, nothing⟩ := x
      simp only at h3 h8
      unfold aggK encK at HY
      rcases h3 with rfl | rfl | rfl <;> rcases hrk with rfl | rfl | rfl
      · exact text_0_0 n typ word ret arg done nothing h8 k a b rn ha hb hn w HC HY
      · exact text_0_1 n typ word ret arg done nothing h8 k a b rn ha hb hn w HC HY
      · exact text_0_2 n typ word ret arg done nothing h8 k a b rn ha hb hn w HC HY
      · exact text_1_0 n typ word ret arg done nothing h8 k a b rn ha hb hn w HC HY
      · exact text_1_1 n typ word ret arg done nothing h8 k a b rn ha hb hn w HC HY
      · exact text_1_2 n typ word ret arg done nothing h8 k a b rn ha hb hn w HC HY
      · exact text_2_0 n typ word ret arg done nothing h8 k a b rn ha hb hn w HC HY
      · exact text_2_1 n typ word ret arg done nothing h8 k a b rn ha hb hn w HC HY
      · exact text_2_2 n typ word ret arg done nothing h8 k a b rn ha hb hn w HC HY
    · rw [if_neg he] at h
      simp only [Option.some.injEq, Prod.mk.injEq] at h
      obtain ⟨rfl, rfl⟩ := h
      exact text_bad k a b rk rn _ he w HC
  · rw [if_neg hI] at h
    cases h
end Go.Proofs.YtkjnbfjbdlcehaaGreatDoor.P
