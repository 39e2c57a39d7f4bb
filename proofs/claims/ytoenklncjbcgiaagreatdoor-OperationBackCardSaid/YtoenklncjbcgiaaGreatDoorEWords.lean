/- '[]byte(s)': a row of the string's bytes. Over the seat's program. -/
import Derived.Test.YtoenklncjbcgiaaGreatDoorWMore
import Derived.Test.YtoenklncjbcgiaaGreatDoorProg
import Derived.Laws.IdiomStrings
import Derived.Maps.AppendAt
import Derived.Test.YtoenklncjbcgiaaGreatDoorETokLines
import Derived.LoopN
namespace Go.Proofs.YtoenklncjbcgiaaGreatDoor.P
open Go.RowKit Go.Proofs.YtoenklncjbcgiaaGreatDoorW.PrintWords Go.Proofs.YtoenklncjbcgiaaGreatDoorW.PrintLast
/-- The world behind '[]byte(s)'. -/
def convW (w : World) (s : ByteArray) : World := w.drew.alloc (.cells (bytesRow s (grownCap w s.size 0 5)) 5 ((bytesRow s (grownCap w s.size 0 5)).size, (bytesRow s (grownCap w s.size 0 5)).size + 1))
theorem conv_run (w : World) (s : ByteArray) : (convert 9 55 (.string s)).run Tryz.prog w = .ok (.slice (some ⟨w.heap.size, 0, none⟩) s.size (grownCap w s.size 0 5)) (convW w s) :=
  run_bytes_of_string w 9 55 5 s Tryz.underlying9 Tryz.underlying55 Tryz.underlying5
theorem convW_below (w : World) (s : ByteArray) : Below w.heap.size w (convW w s) := (Below.refl _ w).drew.alloc (Nat.le_refl _) _
theorem convW_size (w : World) (s : ByteArray) : (convW w s).heap.size = w.heap.size + 1 := World.size_alloc _ _
theorem bytesOf_len (s : ByteArray) : (bytesOf s).length = s.size := by
  unfold bytesOf
  rw [List.length_map]
  rfl
theorem convW_reads (w : World) (s : ByteArray) (hs : s.size ≤ 9223372036854775807) : Kd.C (Kd.int .u8) (convW w s) (some ⟨w.heap.size, 0, none⟩) (bytesOf s).length (bytesOf s) := by
  refine Kd.C_of_reads (enc := Value.int .u8) (d := (0 : Int)) ⟨rfl, by rw [bytesOf_len]; exact hs, fun _ => ⟨_, rfl, fun j hj => ?_⟩⟩
  have e' : (⟨w.heap.size, 0, none⟩ : Addr).add j = ⟨w.heap.size, j, none⟩ := by
    unfold Addr.add
    split <;> simp_all
  rw [e']
  have hb : (convW w s).heap[w.heap.size]? = some (.cells (bytesRow s (grownCap w s.size 0 5)) 5 ((bytesRow s (grownCap w s.size 0 5)).size, (bytesRow s (grownCap w s.size 0 5)).size + 1)) := blk_new w.drew _
  rw [bytesOf_len] at hj
  have hjl : j < s.data.toList.length := hj
  have : (convW w s).cell? ⟨w.heap.size, j, none⟩ = (bytesRow s (grownCap w s.size 0 5))[j]? := by
    simp [World.cell?, hb]
  rw [this]
  unfold bytesRow
  rw [Array.getElem?_append_left (by simpa using hj)]
  simp [bytesOf, List.getD, hj]
theorem convW_cap (w : World) (s : ByteArray) : (bytesOf s).length ≤ grownCap w s.size 0 5 := by
  rw [bytesOf_len]
  exact grownCap_ge _ _ _ _
theorem flatten_get {α : Type} (sz : Nat) : ∀ (css : List (List α)), (∀ c ∈ css, c.length = sz) → ∀ (j i : Nat) (c : List α), css[j]? = some c → i < sz → css.flatten[j * sz + i]? = c[i]?
  | [], _, j, i, c, h, _ => by simp at h
  | d :: css, hl, j, i, c, h, hi => by
    have hd : d.length = sz := hl d List.mem_cons_self
    rw [List.flatten_cons]
    cases j with
    | zero =>
      simp at h
      subst h
      rw [Nat.zero_mul, Nat.zero_add, List.getElem?_append_left (by omega)]
    | succ j =>
      have h' : css[j]? = some c := by simpa using h
      have e : (j + 1) * sz + i = d.length + (j * sz + i) := by rw [hd, Nat.succ_mul]; omega
      rw [e, List.getElem?_append_right (by omega), show d.length + (j * sz + i) - d.length = j * sz + i by omega]
      exact flatten_get sz css (fun c hc => hl c (List.mem_cons_of_mem _ hc)) j i c h' hi
/-- A block whose cells are the elements' cells, in line, reads as the elements. -/
theorem rowC {α : Type} (d : Kd α) (W : World) (g t : Nat) (fr : Nat × Nat) (xs : List α) (css : List (List Value)) (h : W.heap[g]? = some (.cells css.flatten.toArray t fr)) (hl : css.length = xs.length) (hb : xs.length ≤ 9223372036854775807)
    (hk : ∀ (j : Nat) (x : α) (c : List Value), xs[j]? = some x → css[j]? = some c → d.K W x c) : d.C W (some ⟨g, 0, none⟩) xs.length xs := by
  have hall : ∀ c ∈ css, c.length = d.sz := by
    intro c hc
    obtain ⟨j, hj, rfl⟩ := List.getElem_of_mem hc
    exact d.K_len (hk j _ _ (List.getElem?_eq_getElem (by omega)) (List.getElem?_eq_getElem hj))
  refine ⟨rfl, hb, fun _ => ⟨_, rfl, fun j p hj => ?_⟩⟩
  have hjl : j < css.length := by rw [hl]; exact (List.getElem?_eq_some_iff.1 hj).1
  refine ⟨css[j], hall _ (List.getElem_mem hjl), hk j p _ hj (List.getElem?_eq_getElem hjl), fun i u hu => ?_⟩
  have hi : i < d.sz := by rw [← hall _ (List.getElem_mem hjl)]; exact (List.getElem?_eq_some_iff.1 hu).1
  have e' : (⟨g, 0, none⟩ : Addr).add (j * d.sz + i) = ⟨g, j * d.sz + i, none⟩ := by
    unfold Addr.add
    split <;> simp_all
  rw [e']
  have : W.cell? ⟨g, j * d.sz + i, none⟩ = css.flatten[j * d.sz + i]? := by
    simp [World.cell?, h]
  rw [this, flatten_get d.sz css hall j i css[j] (List.getElem?_eq_getElem hjl) hi]
  exact hu
end Go.Proofs.YtoenklncjbcgiaaGreatDoor.P

/- append of one text to a row of one's own: what the old slice reads stays. -/
namespace Go.Proofs.YtoenklncjbcgiaaGreatDoor.P
open Go.RowKit Go.Proofs.YtoenklncjbcgiaaGreatDoorW.PrintWords Go.Proofs.YtoenklncjbcgiaaGreatDoorW.PrintLast Go.Proofs.YtoenklncjbcgiaaGreatDoorW.PrintMore
set_option linter.unusedVariables false
set_option linter.unusedSimpArgs false
section
variable {P : Program} {ops : Array Oper} {o : Oper} {a : Act} {Q : Exit → Act → World → Prop} {Kc : Act → World → Prop}
theorem R_append_keep {w0 W : World} (base : Nat) (hw : Region.wanted o (yielded ops a.tmps) = true) (s x : Operand) (t e : TypeId) (bytes : Nat)
    (ho : o.op = .call { callee := .builtin .append, args := #[s, x], argTypes := #[t, t] })
    (ht : P.underlying t = some (.slice e)) (hinfo : (P.info? e).map (fun i => (i.zero, i.size, i.bytes)) = some (some (.string ⟨#[]⟩), 1, bytes)) (hb0 : 0 < bytes)
    (A : Option Addr) (c : Nat) (xs : List ByteArray) (p : ByteArray) (hs : a.eval s = .slice A xs.length c) (hx : a.eval x = .slice (some ⟨W.heap.size, 0, none⟩) 1 1)
    (HO : Kd.string.R e W base (fun _ => True) (.slice A xs.length c) xs) (HB : Below base w0 W) (hbase : base ≤ W.heap.size) (hl : (xs.length + 1) * bytes ≤ 140737488355328)
    (h : ∀ v1 w1, Kd.string.R e w1 base (fun _ => True) v1 (xs ++ [p]) → Below base w0 w1 → W.grownBy w1 (Value.slice A xs.length c).ownBlock → Kd.string.C w1 A xs.length xs → Kc (a.put o.dst v1) w1) :
    if Region.wanted o (yielded ops a.tmps) = true then Oper.wp P o a (W.alloc (.cells #[.string p] e)) Kc Q else Kc (a.put o.dst undef) (W.alloc (.cells #[.string p] e)) := by
  obtain ⟨i0, hi, hzz⟩ := Option.map_eq_some_iff.1 hinfo
  simp only [Prod.mk.injEq] at hzz
  obtain ⟨hz0, hz1, hz2⟩ := hzz
  have hC := (Kd.R_reads' HO).2.2
  have hown0 := Kd.own_of_R HO
  have hlen : xs.length + 1 ≤ 140737488355328 := Nat.le_trans (Nat.le_mul_of_pos_right _ hb0) hl
  have hnews : ∀ (j : Nat) (u : Value), ([.string p] : List Value)[j]? = some u → (W.alloc (.cells #[.string p] e)).cell? ((⟨W.heap.size, 0, none⟩ : Addr).add j) = some u := by
    simpa using World.news_of_block (cs := #[.string p]) (t := e) (fr := (0, 0)) (heap_alloc_new W (.cells #[.string p] e))
  have h1 : ∀ u ∈ ([.string p] : List Value), u.oneCell' = true := by simp [Value.oneCell']
  rw [if_pos hw]
  obtain ⟨v1, w1, hr, hown, hg, _, hat⟩ := run_append_own_at (P := P) (W.alloc (.cells #[.string p] e)) base t o.type e i0 (.string ⟨#[]⟩) 1 bytes ht hi hz0 hz1 hz2 rfl (by decide) (.slice A xs.length c) xs.length _ (hown0.alloc _) ⟨W.heap.size, 0, none⟩ 1 1 [.string p] rfl
    hnews h1 (by simp only [maxLen]; omega) hl (by simp; omega)
  have hR : Kd.string.R e w1 base (fun _ => True) v1 (xs ++ [p]) := by
    refine Kd.R_of_own ?_ (fun _ _ => trivial)
    simpa [encs] using hown
  have hkeep : Kd.string.C w1 A xs.length xs := by
    rcases (hown0.alloc (.cells #[.string p] e)).2 with ⟨hv, hn0⟩ | ⟨g, cap, cur, hv, hbg, hgc, hnc, hcm, hcs, htake⟩
    · have hx0 : xs = [] := List.eq_nil_of_length_eq_zero hn0
      subst hx0
      injection hv with e1 e2 e3
      subst e1
      exact Kd.C_nil _ _
    · injection hv with e1 e2 e3
      subst e1 e3
      by_cases hroom : xs.length + 1 ≤ c
      · have hfit : xs.length * i0.size + ([.string p] : List Value).length ≤ cur.size := by rw [hz1, hcs]; simp; omega
        have hr2 := run_append_room (P := P) (W.alloc (.cells #[.string p] e)) t o.type e i0 ht hi g xs.length c cur hgc ⟨W.heap.size, 0, none⟩ 1 1 [.string p] (by rw [hz1]; rfl) hnews h1 hroom hfit
        rw [hr2] at hr
        injection hr with ev ew
        subst ev
        obtain ⟨_, hcl, hCC⟩ := Kd.R_reads' (A := some ⟨g, 0, none⟩) (n := xs.length + 1) (c := c) hR
        have hCt := Kd.C_take (m := xs.length) hCC (by simp)
        simpa using hCt
      · have holds : ∀ (j : Nat) (u : Value), (encs Value.string xs)[j]? = some u → (W.alloc (.cells #[.string p] e)).cell? ((⟨g, 0, none⟩ : Addr).add j) = some u := (hown0.alloc _).cells (g := g) rfl
        have hr3 := run_append_grow (P := P) (W.alloc (.cells #[.string p] e)) t o.type e i0 (.string ⟨#[]⟩) ht hi hz0 ⟨g, 0, none⟩ xs.length c (encs Value.string xs) (by rw [hz1]; simpa using hown0.1) holds ⟨W.heap.size, 0, none⟩ 1 1 [.string p] (by rw [hz1]; rfl) hnews (by omega) (by omega) (growslice_fits (by omega) (by rw [hz2]; exact hl))
        rw [hr3] at hr
        injection hr with ev ew
        subst ew
        exact Kd.C_alloc (Kd.C_drew (Kd.C_alloc hC _)) _
  unfold Oper.wp execOp
  simp only [ho, resolve, invoke, builtin, Sem.run_bind, Sem.run_pure, Result.andThen_ok, List.map_toArray, List.map_cons, List.map_nil, hs, hx, hr]
  exact h v1 w1 hR ((HB.alloc hbase _).grown hg (by simp; omega) (own_base hown0)) (World.grownBy.trans (World.grownBy_alloc W _ _) hg) hkeep
end
end Go.Proofs.YtoenklncjbcgiaaGreatDoor.P

/- armisticelaw04.words: the words of a text that is one line. -/
namespace Go.Proofs.YtoenklncjbcgiaaGreatDoor.P
open Go.RowKit Go.Proofs.YtoenklncjbcgiaaGreatDoorW.PrintWords Go.Proofs.YtoenklncjbcgiaaGreatDoorW.PrintLast Go.Proofs.YtoenklncjbcgiaaGreatDoorW.PrintMore
set_option linter.unusedVariables false
set_option linter.unusedSimpArgs false
theorem infoSW : (Tryz.prog.info? 9).map (fun i => (i.zero, i.size, i.bytes)) = some (some (.string ⟨#[]⟩), 1, 16) := by kernel_rfl
theorem own_below_rowW {W w' : World} {base : Nat} {e : TypeId} {size n : Nat} {v : Value} {xs : List Value} (h : W.ownsRow base e size v n xs) (hb : Below W.heap.size W w') : w'.ownsRow base e size v n xs := by
  refine own_move h (fun k hk => ?_)
  obtain ⟨cells, hc⟩ := own_typed h k hk
  exact hb.block k (Array.getElem?_eq_some_iff.1 hc).1
theorem own_lowerW {w : World} {base base' : Nat} {e : TypeId} {size n : Nat} {v : Value} {xs : List Value} (h : w.ownsRow base e size v n xs) (hb : base' ≤ base) : w.ownsRow base' e size v n xs := by
  refine ⟨h.1, ?_⟩
  rcases h.2 with h' | ⟨g, cap, cur, h1, h2, h3⟩
  · exact .inl h'
  · exact .inr ⟨g, cap, cur, h1, Nat.le_trans hb h2, h3⟩
def armisticelaw04_words.f (s : ByteArray) : Option (List ByteArray × Bool) :=
  if s.size ≤ 1000 then (token_Lines.f (bytesOf s)).bind fun r => if r.2.1 = 0 ∧ r.2.2 = 0 ∧ r.1.length = 1 ∧ (rd_T58 r.1 0).f1.length ≤ 1000 then some ((rd_T58 r.1 0).f1.map (fun y => y.f0), true) else none else none
set_option maxHeartbeats 8000000 in
set_option maxRecDepth 100000 in
theorem armisticelaw04_words.calls (a0 : ByteArray) (r1 : List ByteArray) (r2 : Bool) (w : World) (h : armisticelaw04_words.f a0 = some (r1, r2)) :
    Calls Tryz.prog 7 #[.string a0] w fun e w' => ∃ v0_ : Value, e = .returned (.tuple #[v0_, .bool r2]) ∧ Kd.R Kd.string 9 w' w.heap.size (fun _ => True) v0_ r1 ∧ Below w.heap.size w w' := by
  unfold armisticelaw04_words.f at h
  by_cases hs : a0.size ≤ 1000
  · rw [if_pos hs] at h
    obtain ⟨⟨ls, e, q⟩, hL, h⟩ := Option.bind_eq_some_iff.1 h
    by_cases hc : e = 0 ∧ q = 0 ∧ ls.length = 1 ∧ (rd_T58 ls 0).f1.length ≤ 1000
    · rw [if_pos hc] at h
      obtain ⟨rfl, rfl, h1, hN⟩ := hc
      simp only [Option.some.injEq, Prod.mk.injEq] at h
      obtain ⟨rfl, rfl⟩ := h
      obtain ⟨x, rfl⟩ := List.length_eq_one_iff.1 h1
      have hx : rd_T58 [x] 0 = x := rfl
      rw [hx] at hN ⊢
      obtain ⟨i0, hi0, hz0, hz1, hz2⟩ := info_parts infoSW
      have HL := Aside0.mk hL
      have HN := Aside0.mk hN
      have HSZ := Aside0.mk hs
      have hcv := conv_run w a0
      clear hL hN hs h1 hx
      go_enter Tryz.func7, Tryz.ntmps7
      go_wp2_with fail
      have hz := convW_reads w a0 (by have := HSZ.out; omega)
      have hc := convW_cap w a0
      have hbl := bytesOf_len a0
      rw [hbl] at hz
      have HCL := token_Lines.calls (some ⟨w.heap.size, 0, none⟩) (grownCap w a0.size 0 5) _ _ _ _ _ (by rw [hbl]; exact hz) hc HL.out
      rw [hbl] at HCL
      refine HCL.mono ?_
      rintro x3 w3 ⟨v, rfl, hS, hb3⟩
      obtain ⟨A, c, rfl⟩ := Kd.S_slice hS
      have hb2 : Below w.heap.size w w3 := (convW_below w _).trans (hb3.mono (by rw [convW_size]; omega))
      have HB3 := Aside0.mk hb2
      have HRL := Aside0.mk (Kd.S_reads' hS)
      clear hS hb3 hb2 HCL hz hc hbl hcv
      obtain ⟨ad, A1, c1, rfl, hx0, hx1, hlc, hC1⟩ := at_T58 HRL.out.2.2 0 (by decide) (by show (0 : Int) < ((1 : Nat) : Int); decide)
      obtain ⟨N, hN⟩ : ∃ N, N = x.f1.length := ⟨_, rfl⟩
      have hrdx : rd_T58 [x] 0 = x := rfl
      rw [hrdx, ← hN] at hx1
      rw [hrdx] at hC1 hx0
      replace hx1 : w3.cell? ⟨ad.block, ad.off + 1, none⟩ = some (.slice A1 N c1) := hx1
      have hbw : Below w3.heap.size w3 (w3.alloc (.cells #[.int .i64 0, .int .i64 0] 52)) := (Below.refl _ w3).alloc (Nat.le_refl _) _
      replace hx1 := (hbw.cell (World.block_lt_of_cell? w3 _ hx1)).trans hx1
      have HCW := Aside0.mk (Kd.C_below hC1 hbw)
      have HBW := Aside0.mk hbw
      have HX1 := Aside0.mk hx1
      have HNN := Aside0.mk hN
      clear hC1 hlc HRL hbw hx0 hrdx hN
      go_upto_block 0 with fail
      have HBWW := Aside0.mk (HB3.out.trans (HBW.out.mono HB3.out.size))
      generalize w3.alloc (.cells #[.int .i64 0, .int .i64 0] 52) = W at *
      go_wp2
      go_loopg [6, 7] N (fun kq v6 v7 wr => ∃ (i : Nat) (A6 : Option Addr) (c6 : Nat), v6 = .slice A6 i c6 ∧ v7 = .int .i64 (i : Int) ∧ Aside0 (i + kq = N) ∧ Aside0 (wr.ownsRow W.heap.size 9 1 (.slice A6 i c6) i (((x.f1.map (fun y => y.f0)).take i).map Value.string)) ∧ Aside0 (Below W.heap.size W wr))
      case atStart => exact ⟨0, none, 0, rfl, rfl, ⟨by omega⟩, ⟨World.ownsRow_nil _ _ _ _⟩, ⟨Below.refl _ _⟩⟩
      case round =>
        obtain ⟨i, A6, c6, rfl, rfl, HI, HO, HB⟩ := hrel
        have hx1' := (HB.out.cell (World.block_lt_of_cell? W _ HX1.out)).trans HX1.out
        by_cases c1 : i < N
        · have c1b : decide ((i : Int) < (N : Int)) = true := decide_eq_true (by omega)
          have c1n : decide (i < N) = true := decide_eq_true c1
          have hNb : N ≤ 1000 := by have h1 := HN.out; have h2 := HNN.out; omega
          have HEW := Aside0.mk (show wrap64 ((i : Int) + 1) = ((i + 1 : Nat) : Int) by unfold wrap64; omega)
          obtain ⟨k1, rfl⟩ : ∃ k1, gk = k1 + 1 := ⟨gk - 1, by have := HI.out; omega⟩
          have p168 : 0 ≤ (i : Int) := by omega
          have q168 : (i : Int) < (N : Int) := by omega
          have hlt : i < x.f1.length := by have := HNN.out; omega
          obtain ⟨ad36, e36, hw0, hw1⟩ := at_T60 (Kd.C_below HCW.out HB.out) (i : Int) p168 (by have := HNN.out; omega)
          cases e36
          have hrd : rd_T60 x.f1 (i : Int) = x.f1[i] := by simp [rd_T60, hlt]
          rw [hrd, Int.toNat_natCast] at hw0
          have hts : ((x.f1.map (fun y => y.f0)).take i).map Value.string ++ [.string x.f1[i].f0] = ((x.f1.map (fun y => y.f0)).take (i + 1)).map Value.string := by
            rw [List.take_succ_eq_append_getElem (by rw [List.length_map]; exact hlt)]
            simp only [List.map_append, List.map_cons, List.map_nil, List.getElem_map]
          have HTS := Aside0.mk hts
          have hn63 : i + 1 ≤ maxLen := by unfold maxLen; omega
          have hn47 : (i + 1) * 16 ≤ 140737488355328 := by omega
          generalize x.f1[i].f0 = tx at hw0 HTS
          have hbs : W.heap.size ≤ (wr.alloc (.cells #[.string tx] 9)).heap.size := by have := HB.out.size; simp; omega
          have HNb := Aside0.mk (And.intro hn63 (And.intro hn47 hbs))
          replace p168 := eq_true p168
          replace q168 := eq_true q168
          clear hts hw1 hrd c1 hlt hNb hn63 hn47 hbs
          go_wp2_with (at_builtin; refine wpList_append_own_at _ rfl _ _ 31 rfl W.heap.size 9 i0 (.string ⟨#[]⟩) 1 16 Tryz.underlying31 hi0 hz0 hz1 hz2 rfl (by decide) (.slice A6 i c6) i _ rfl (HO.out.alloc _) ⟨wr.heap.size, 0, none⟩ 1 1 [.string tx] rfl rfl (cell_one_new _ _ _) (by simp [Value.oneCell']) HNb.out.1 HNb.out.2.1 HNb.out.2.2 ?_; intro v' w6 hown' hgrow _ hat; obtain ⟨g2, cap2, rfl⟩ := ownsRow_succ hown')
          rw [HTS.out] at hown'
          have HO6 := Aside0.mk hown'
          have HB6 := Aside0.mk ((HB.out.alloc HB.out.size _).grown hgrow (by have := HB.out.size; simp; omega) (fun k hk => by have := own_base HO.out _ hk; omega))
          clear hown' hgrow hat HNb
          go_wp2
          rw [HEW.out]
          go_roundg k1
          case measure => omega
          case rel => exact ⟨i + 1, _, _, rfl, rfl, ⟨by have := HI.out; omega⟩, HO6, HB6⟩
        · have c1b : decide ((i : Int) < (N : Int)) = false := decide_eq_false (by omega)
          have c1n : decide (i < N) = false := decide_eq_false c1
          have hii : i = (x.f1.map (fun y => y.f0)).length := by rw [List.length_map]; have h1 := HI.out; have h2 := HNN.out; omega
          have hO := HO.out
          rw [List.take_of_length_le (by omega)] at hO
          have HO6 := Aside0.mk hO
          have HII := Aside0.mk hii
          clear c1 hO hii
          go_wp2
          refine bodyPost_ret (results_tmp2 rfl _ _ _) rfl ?_
          have hO := HO6.out
          rw [HII.out] at hO
          refine ⟨_, rfl, ?_, HBWW.out.trans (HB.out.mono HBWW.out.size)⟩
          rw [HII.out]
          exact Kd.R_of_own (own_lowerW hO HBWW.out.size) (fun _ _ => trivial)
    · rw [if_neg hc] at h
      cases h
  · rw [if_neg hs] at h
    cases h
end Go.Proofs.YtoenklncjbcgiaaGreatDoor.P
