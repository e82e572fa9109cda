/- The walks of the reference's barrier: Frame, at. -/
import Derived.Test.YtejgkehcplajhaaBar3
namespace Go.Proofs.Ytejgkehcplajhaa
open Go.RowKit
set_option linter.unusedVariables false

def bvs (l : List Bool) : List Value := l.map .bool
theorem bvs_length (l : List Bool) : (bvs l).length = l.length := by simp [bvs]

def rowPc (N : Nat) (v : Value) (l : List Bool) : Pc := .own 4 1 v N (bvs l)
def rowsP (N : Nat) : List Value → List (List Bool) → List Pc
  | v :: vs, l :: ls => rowPc N v l :: rowsP N vs ls
  | _, _ => []
theorem rowsP_mem (N : Nat) : ∀ (vs : List Value) (ls : List (List Bool)) (i : Nat) (h : i < vs.length) (h' : i < ls.length), rowPc N (vs[i]'h) (ls[i]'h') ∈ rowsP N vs ls
  | v :: vs, l :: ls, 0, _, _ => by simp [rowsP]
  | v :: vs, l :: ls, i + 1, h, h' => by
    have := rowsP_mem N vs ls i (by simpa using h) (by simpa using h')
    simp only [rowsP, List.getElem_cons_succ, List.mem_cons]
    exact .inr this
  | [], _, i, h, _ => by simp at h
  | _ :: _, [], i, _, h' => by simp at h'

/-- Has the member x met the frame g, when f is under way and ps have passed it? -/
def metB (fr f : Nat) (ps : Int → Bool) (x : Int) (g : Nat) : Bool := (decide (fr ≤ g) && decide (g < f)) || (decide (g = f) && ps x)
def rowOf (fr f N : Nat) (ps : Int → Bool) (x : Int) : List Bool := (List.range N).map (metB fr f ps x)
theorem rowOf_length (fr f N : Nat) (ps : Int → Bool) (x : Int) : (rowOf fr f N ps x).length = N := by simp [rowOf]

def refL (q cm ch fr f N : Nat) (am ah : Option Addr) (vs : List Value) (ms : List Int) (ps : Int → Bool) : List Pc :=
  .blk q [.slice am ms.length cm, .int .i64 fr, .int .i64 N, .slice ah ms.length ch] 73 :: .own 3 1 (.slice am ms.length cm) ms.length (iv ms) ::
    .own 74 1 (.slice ah ms.length ch) ms.length vs :: rowsP N vs (ms.map (rowOf fr f N ps))

theorem ref_cells {w : World} {L : List Pc} {q cm ch fr f N : Nat} {am ah : Option Addr} {vs : List Value} {ms : List Int} {ps : Int → Bool} (H : SL w (refL q cm ch fr f N am ah vs ms ps ++ L)) :
    w.cell? ⟨q, 0, none⟩ = some (.slice am ms.length cm) ∧ w.cell? ⟨q, 1, none⟩ = some (.int .i64 fr) ∧ w.cell? ⟨q, 2, none⟩ = some (.int .i64 N) ∧ w.cell? ⟨q, 3, none⟩ = some (.slice ah ms.length ch) ∧ RdI w am ms :=
  ⟨H.cell (.here _ _) rfl, H.cell (.here _ _) rfl, H.cell (.here _ _) rfl, H.cell (.here _ _) rfl, (OwnK.rdI (H.ownOf (.there (.here _ _)))).2.2⟩

theorem ref_row {w : World} {L : List Pc} {q cm ch fr f N : Nat} {am ah : Option Addr} {vs : List Value} {ms : List Int} {ps : Int → Bool} (H : SL w (refL q cm ch fr f N am ah vs ms ps ++ L)) {i : Nat} (hi : i < ms.length) :
    ∃ bh oh ar cr, ah = some ⟨bh, oh, none⟩ ∧ w.cell? ⟨bh, oh + i, none⟩ = some (.slice ar N cr) ∧ N ≤ cr ∧
      ∀ g, g < N → ∃ br or, ar = some ⟨br, or, none⟩ ∧ w.cell? ⟨br, or + g, none⟩ = some (.bool (metB fr f ps (ms[i]'hi) g)) := by
  have h1 := H.ownOf (.there (.there (.here _ _)))
  have hvl : vs.length = ms.length := by have := h1.1; omega
  obtain ⟨-, h2, -⟩ := h1.rd
  rw [Nat.mul_one] at h2
  obtain ⟨bh, oh, e, hc⟩ := h2 i hi
  have hiv : i < vs.length := by omega
  have hrow : OwnK w 0 4 1 (vs[i]'hiv) N (bvs (rowOf fr f N ps (ms[i]'hi))) := by
    have := H.all _ (List.mem_append_left L (List.mem_cons_of_mem _ (List.mem_cons_of_mem _ (List.mem_cons_of_mem _ (rowsP_mem N vs (ms.map (rowOf fr f N ps)) i hiv (by simpa using hi))))))
    rw [List.getElem_map] at this
    exact this
  obtain ⟨ar, cr, ev, hn, -, -, hr, -⟩ := hrow.slice
  refine ⟨bh, oh, ar, cr, e, ?_, hn, fun g hg => ?_⟩
  · have hc : w.cell? ⟨bh, oh + i, none⟩ = some (vs.getD i undef) := hc
    rw [hc]
    simp [hiv, ev]
  · obtain ⟨br, or, e2, hc2⟩ := hr g (by omega)
    refine ⟨br, or, e2, ?_⟩
    rw [hc2]
    simp [bvs, rowOf, hg]

/-- What holds of a barrier that is in use. -/
def BInv (fr f N : Nat) (ms : List Int) (ps : Int → Bool) : Prop := fr ≤ f ∧ f ≤ N ∧ (f < N → ∃ x ∈ ms, ps x = false) ∧ (f = N → ∀ x ∈ ms, ps x = false)

set_option maxHeartbeats 2000000 in
theorem refFrame_c (q cm ch fr f N : Nat) (am ah : Option Addr) (vs : List Value) (ms : List Int) (ps : Int → Bool) (w : World) {L : List Pc} (H : SL w (refL q cm ch fr f N am ah vs ms ps ++ L))
    (hl : ms.length ≤ 100) (hN : N ≤ 1000) (h1 : fr ≤ f) (h2 : f ≤ N) (h3 : f < N → ∃ x ∈ ms, ps x = false) :
    Calls Try.prog 16 #[.pointer (some ⟨q, 0, none⟩)] w fun e w' => e = .returned (.int .i64 f) ∧ w = w' := by
  obtain ⟨c0, c1, c2, c3, -⟩ := ref_cells H
  have hrow := Lib.hid (fun i hi => ref_row H (i := i) hi)
  obtain ⟨n, hn⟩ : ∃ n, ms.length = n := ⟨_, rfl⟩
  have hn' := Lib.hid hn
  have h3' := Lib.hid h3
  rw [hn] at c0 c3 hl
  clear hn h3 H
  go_enter Try.func16, Try.ntmps16
  go_wp2_with fail
  go_loop [3] (fun g => ∃ k : Nat, fr ≤ k ∧ k ≤ f ∧ g = .int .i64 k) (fun g => N - (intOf g).toNat)
  case atStart => exact ⟨fr, by omega, h1, rfl⟩
  case round =>
    obtain ⟨k, hk1, hk2, rfl⟩ := hrel
    by_cases hkN : k < N
    · by_cases hkf : k < f
      · go_wp2_with fail
        go_loop [4] (fun i => ∃ j : Nat, j ≤ n ∧ i = .int .i64 j) (fun i => n - (intOf i).toNat)
        case atStart => exact ⟨0, by omega, rfl⟩
        case round =>
          obtain ⟨j, hj, rfl⟩ := hrel
          by_cases hjn : j < n
          · obtain ⟨bh, oh, ar, cr, rfl, d1, -, d2⟩ := hrow.out j (by rw [hn'.out]; exact hjn)
            obtain ⟨br, or, rfl, d3⟩ := d2 k hkN
            have hm : metB fr f ps (ms[j]'(by rw [hn'.out]; exact hjn)) k = true := by simp [metB, hkf, hk1]
            rw [hm] at d3
            clear hm d2
            go_wp2_with fail
            go_round
            case rel => exact ⟨j + 1, by omega, by go_num⟩
            case measure => (simp [intOf]; try omega)
          · obtain rfl : j = n := by omega
            go_wp2_with fail
            go_round
            case rel => exact ⟨k + 1, by omega, by omega, by go_num⟩
            case measure => (simp [intOf]; try omega)
      · obtain rfl : k = f := by omega
        go_wp2_with fail
        go_loop [4] (fun i => ∃ j : Nat, j ≤ n ∧ i = .int .i64 j ∧ Hid (∀ t (h : t < j) (h' : t < ms.length), ps (ms[t]'h') = true)) (fun i => n - (intOf i).toNat)
        case atStart => exact ⟨0, by omega, rfl, Lib.hid (by intro t h; omega)⟩
        case round =>
          obtain ⟨j, hj, rfl, hall⟩ := hrel
          by_cases hjn : j < n
          · have hjm : j < ms.length := by rw [hn'.out]; exact hjn
            obtain ⟨bh, oh, ar, cr, rfl, d1, -, d2⟩ := hrow.out j hjm
            obtain ⟨br, or, rfl, d3⟩ := d2 k hkN
            have hm : metB fr k ps (ms[j]'hjm) k = ps (ms[j]'hjm) := by simp [metB]
            rw [hm] at d3
            cases hp : ps (ms[j]'hjm)
            · rw [hp] at d3
              clear hm d2 hp
              go_wp2_with fail
              go_ret
              exact ⟨rfl, rfl⟩
            · rw [hp] at d3
              have hall' := Lib.hid (show ∀ t (h : t < j + 1) (h' : t < ms.length), ps (ms[t]'h') = true from fun t h h' => by
                by_cases e : t = j
                · subst e; exact hp
                · exact hall.out t (by omega) h')
              clear hm d2 hp hall
              go_wp2_with fail
              go_round
              case rel => exact ⟨j + 1, by omega, by go_num, hall'⟩
              case measure => (simp [intOf]; try omega)
          · exfalso
            obtain ⟨x, hx, hp⟩ := h3'.out hkN
            obtain ⟨t, ht, rfl⟩ := List.mem_iff_getElem.1 hx
            have h8 := hall.out t (by have := hn'.out; omega) ht
            rw [h8] at hp
            cases hp
    · obtain rfl : k = f := by omega
      obtain rfl : k = N := by omega
      go_wp2_with fail
      go_ret
      exact ⟨rfl, rfl⟩

theorem refAt_c (q cm ch fr f N : Nat) (am ah : Option Addr) (vs : List Value) (ms : List Int) (ps : Int → Bool) (x : Int) (w : World) {L : List Pc} (H : SL w (refL q cm ch fr f N am ah vs ms ps ++ L)) (hl : ms.length ≤ 100) :
    Calls Try.prog 29 #[.pointer (some ⟨q, 0, none⟩), .int .i64 x] w fun e w' => e = .returned (.int .i64 (idxI x ms)) ∧ w = w' := by
  obtain ⟨c0, c1, c2, c3, hr⟩ := ref_cells H
  have hr' := Lib.hid hr
  obtain ⟨n, hn⟩ : ∃ n, ms.length = n := ⟨_, rfl⟩
  have hn' := Lib.hid hn
  rw [hn] at c0 c3 hl
  clear hn H hr
  go_enter Try.func29, Try.ntmps29
  go_wp2_with fail
  go_loop [5] (fun i => ∃ j : Nat, j ≤ n ∧ i = .int .i64 j ∧ Hid (∀ k (h : k < j) (h' : k < ms.length), ms[k]'h' ≠ x)) (fun i => n - (intOf i).toNat)
  case atStart => exact ⟨0, by omega, rfl, Lib.hid (by intro k h; omega)⟩
  case round =>
    obtain ⟨j, hj, rfl, hno⟩ := hrel
    by_cases hjn : j < n
    · have hjl : j < ms.length := by rw [hn'.out]; exact hjn
      obtain ⟨b, o, rfl, hc⟩ := hr'.out.cell hjl
      by_cases hx : ms[j]'hjl = x
      · have hfin := Lib.hid (show idxI x ms = j from idxI_at hjl hx fun k hk => hno.out k hk (by omega))
        have hxb : (ms[j]'hjl == x) = true := by simpa using hx
        clear hx
        generalize ms[j]'hjl = y at *
        go_wp2_with fail
        go_ret
        exact ⟨by rw [hfin.out]; rfl, rfl⟩
      · have hno' := Lib.hid (show ∀ k (h : k < j + 1) (h' : k < ms.length), ms[k]'h' ≠ x from fun k hk h' => by
          by_cases e : k = j
          · subst e; exact hx
          · exact hno.out k (by omega) h')
        have hxb : (ms[j]'hjl == x) = false := by simpa using hx
        clear hx hno
        generalize ms[j]'hjl = y at *
        go_wp2_with fail
        go_round
        case rel => exact ⟨j + 1, by omega, by go_num, hno'⟩
        case measure => (simp [intOf]; try omega)
    · obtain rfl : j = n := by omega
      have hfin := Lib.hid (show idxI x ms = -1 from idxI_no fun hm => by
        obtain ⟨k, hk, e⟩ := List.mem_iff_getElem.1 hm
        exact hno.out k (by rw [← hn'.out]; exact hk) hk e)
      go_wp2_with fail
      go_ret
      exact ⟨by rw [hfin.out]; rfl, rfl⟩
end Go.Proofs.Ytejgkehcplajhaa
