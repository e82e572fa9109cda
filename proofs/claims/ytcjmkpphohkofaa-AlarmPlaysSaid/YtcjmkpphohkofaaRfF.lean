/- The reference's sorted. -/
import Derived.Test.YtcjmkpphohkofaaRfE
import Derived.BigQuiet
namespace Go.Proofs.Ytcjmkpphohkofaa
open Go.RowKit Go.Shelf
set_option linter.unusedVariables false

section
variable {L : List Pc} {w : World}
theorem uv_len (l : List Int) : (uv l).length = l.length := by unfold uv; simp
theorem rdU_take {a : Option Addr} {l : List Int} (h : RdU w a l) (m : Nat) : Rd w a (uv (l.take m)).length (fun i => (uv (l.take m)).getD i undef) := by
  intro i hi
  rw [uv_len, List.length_take] at hi
  obtain ⟨b, o, e, g⟩ := h i (by omega)
  refine ⟨b, o, e, ?_⟩
  rw [g]
  congr 1
  dsimp only
  unfold uv
  rw [List.getD_eq_getElem?_getD, List.getElem?_map, List.getElem?_take, if_pos (by omega), List.getElem?_eq_getElem (by omega)]
  rfl
theorem rdU_drop {g : Nat} {l : List Int} (h : RdU w (some ⟨g, 0, none⟩) l) (m : Nat) : Rd w (some ⟨g, m, none⟩) (uv (l.drop m)).length (fun i => (uv (l.drop m)).getD i undef) := by
  intro i hi
  rw [uv_len, List.length_drop] at hi
  obtain ⟨b, o, e, g'⟩ := h (m + i) (by omega)
  cases e
  refine ⟨g, m, rfl, ?_⟩
  rw [Nat.zero_add] at g'
  rw [g']
  congr 1
  dsimp only
  unfold uv
  rw [List.getD_eq_getElem?_getD, List.getElem?_map, List.getElem?_drop, List.getElem?_eq_getElem (by omega)]
  rfl
theorem own_lenU {v : Value} {n : Nat} {l : List Int} (H : SL w (.own 30 1 v n (uv l) :: L)) : l.length = n := by
  obtain ⟨a, c, e, h, -⟩ := own_u64 H
  exact h
theorem own_u64a {a : Option Addr} {n c : Nat} {l : List Int} (H : SL w (.own 30 1 (.slice a n c) n (uv l) :: L)) : RdU w a l := by
  obtain ⟨a, c, e, h, -, h2⟩ := own_u64 H
  simp only [Value.slice.injEq] at e
  rw [e.1]
  exact h2
theorem own_formU {a : Option Addr} {n c : Nat} {l : List Int} (H : SL w (.own 30 1 (.slice a n c) n (uv l) :: L)) : n ≤ c ∧ ((a = none ∧ n = 0 ∧ c = 0) ∨ ∃ g, a = some ⟨g, 0, none⟩) := by
  have hown : OwnK w 0 30 1 (.slice a n c) n (uv l) := H.head
  rcases hown.form with ⟨e, e1, e2⟩ | ⟨g, cap, e, -, -, hnc, -⟩
  · simp only [Value.slice.injEq] at e
    obtain ⟨rfl, rfl, rfl⟩ := e
    exact ⟨by omega, .inl ⟨rfl, rfl, rfl⟩⟩
  · simp only [Value.slice.injEq] at e
    obtain ⟨rfl, -, rfl⟩ := e
    exact ⟨hnc, .inr ⟨g, rfl⟩⟩
theorem uv_cons' (a b : List Int) (x : Int) : uv (a ++ x :: b) = uv a ++ ([.int .u64 x] ++ uv b) := by unfold uv; rw [List.map_append]; rfl
theorem uv_one (l : List Int) : ∀ v ∈ uv l, v.oneCell' = true := by
  intro v hv
  obtain ⟨z, -, rfl⟩ := List.mem_map.1 hv
  rfl
theorem uv_app (a b : List Int) : uv (a ++ b) = uv a ++ uv b := by unfold uv; exact List.map_append
/-- x put into a rising list behind what is no greater. -/
theorem put_srt {o : List Int} {x : Int} {v : Nat} (hs : o.Pairwise (· ≤ ·)) (hv : v ≤ o.length) (h1 : ∀ m (hm : m < o.length), v ≤ m → x < o[m]'hm) (h2 : v = 0 ∨ ∃ h : v - 1 < o.length, o[v - 1]'h ≤ x) :
    (o.take v ++ x :: o.drop v).Pairwise (· ≤ ·) := by
  rw [List.pairwise_append]
  have hp : ∀ i j (hi : i < o.length) (hj : j < o.length), i < j → o[i]'hi ≤ o[j]'hj := fun i j hi hj hij => List.pairwise_iff_getElem.1 hs i j hi hj hij
  have hd : ∀ z ∈ o.drop v, x < z := by
    intro z hz
    obtain ⟨i, hi, rfl⟩ := List.getElem_of_mem hz
    rw [List.length_drop] at hi
    rw [List.getElem_drop]
    exact h1 (v + i) (by omega) (by omega)
  have ht : ∀ z ∈ o.take v, z ≤ x := by
    intro z hz
    obtain ⟨i, hi, rfl⟩ := List.getElem_of_mem hz
    rw [List.length_take] at hi
    rw [List.getElem_take]
    rcases h2 with rfl | ⟨h, h2⟩
    · omega
    · by_cases e : i = v - 1
      · subst e; exact h2
      · exact Int.le_trans (hp i (v - 1) (by omega) h (by omega)) h2
  refine ⟨hs.sublist (List.take_sublist _ _), ?_, ?_⟩
  · rw [List.pairwise_cons]
    exact ⟨fun z hz => by have := hd z hz; omega, hs.sublist (List.drop_sublist _ _)⟩
  · intro a ha b hb
    rcases List.mem_cons.1 hb with rfl | hb
    · exact ht a ha
    · have h3 := ht a ha
      have h4 := hd b hb
      omega
theorem put_perm (o : List Int) (x : Int) (v : Nat) : (o.take v ++ x :: o.drop v).Perm (o ++ [x]) := by
  refine List.perm_middle.trans ?_
  rw [List.take_append_drop]
  exact (List.perm_append_comm (l₁ := [x]) (l₂ := o))

set_option maxRecDepth 100000 in
set_option maxHeartbeats 8000000 in
theorem sorted_c {la : Option Addr} {n lc : Nat} {xs : List Int} (H : SL w (.own 30 1 (.slice la n lc) n (uv xs) :: L)) (hn : n ≤ 256) :
    Calls Try.prog 43 #[.slice la n lc] w fun e w' => ∃ a c o, e = .returned (.slice a n c) ∧ o.Perm xs ∧ o.Pairwise (· ≤ ·) ∧ SL w' (.own 30 1 (.slice a n c) n (uv o) :: .own 30 1 (.slice la n lc) n (uv xs) :: L) := by
  have hxl : Hid (xs.length = n) := Lib.hid (own_lenU H)
  have hlc : n ≤ lc := (own_formU H).1
  have hH : Hid (∃ o : List Int, o.Perm (xs.take 0) ∧ o.Pairwise (· ≤ ·) ∧ SL w (.own 30 1 (.slice none 0 0) 0 (uv o) :: .own 30 1 (.slice la n lc) n (uv xs) :: L)) := Lib.hid ⟨[], .refl _, .nil, H.pure (q := .own 30 1 (.slice none 0 0) 0 []) (OwnK.nil _ _ _ _) (fun b h => by cases h)⟩
  clear H
  go_enter Try.func43, Try.ntmps43
  go_wp2_with fail
  go_loopw [4, 3] (fun i x V => ∃ (u : Nat) (oa : Option Addr) (oc : Nat), u ≤ n ∧ i = .int .i64 u ∧ x = .slice oa u oc ∧ Hid (∃ o : List Int, o.Perm (xs.take u) ∧ o.Pairwise (· ≤ ·) ∧ SL V (.own 30 1 (.slice oa u oc) u (uv o) :: .own 30 1 (.slice la n lc) n (uv xs) :: L))) (fun i _ _ => n - (intOf i).toNat)
  case atStart => exact ⟨0, none, 0, by omega, rfl, rfl, hH⟩
  case round =>
    clear hH
    obtain ⟨u, oa, oc, hu, rfl, rfl, hR⟩ := hrel
    by_cases hun : u < n
    · obtain ⟨o, hop, hos, HC⟩ := hR.out
      have hxu : u < xs.length := by rw [hxl.out]; exact hun
      have hol : Hid (o.length = u) := Lib.hid (own_lenU HC)
      have hoc : u ≤ oc := (own_formU HC).1
      have hsp : Hid (∀ v, v ≤ u → (∀ m (hm : m < o.length), v ≤ m → xs[u]'hxu < o[m]'hm) → (v = 0 ∨ ∃ h : v - 1 < o.length, o[v - 1]'h ≤ xs[u]'hxu) → (o.take v ++ xs[u]'hxu :: o.drop v).Pairwise (· ≤ ·)) := Lib.hid fun v hv h1 h2 => put_srt hos (by rw [hol.out]; exact hv) h1 h2
      have hpp : Hid (∀ v, (o.take v ++ xs[u]'hxu :: o.drop v).Perm (xs.take (u + 1))) := Lib.hid fun v => (put_perm o _ v).trans (by rw [List.take_succ_eq_append_getElem hxu]; exact hop.append_right _)
      have hHC := Lib.hid HC
      clear hR HC hop hos
      go_wp2_with fail
      go_loopw [5] (fun i V => ∃ v : Nat, v ≤ u ∧ i = .int .i64 v ∧ Hid ((∀ m (hm : m < o.length), v ≤ m → xs[u]'hxu < o[m]'hm) ∧ SL V (.own 30 1 (.slice oa u oc) u (uv o) :: .own 30 1 (.slice la n lc) n (uv xs) :: L))) (fun i _ => (intOf i).toNat)
      case atStart => exact ⟨u, by omega, rfl, Lib.hid ⟨fun m hm h => by rw [hol.out] at hm; omega, hHC.out⟩⟩
      case round =>
        clear hHC
        obtain ⟨v, hv, rfl, hR⟩ := hrel
        by_cases hv0 : 0 < v
        · obtain ⟨q, rfl⟩ : ∃ q, v = q + 1 := ⟨v - 1, by omega⟩
          have hol2 : q < o.length := by rw [hol.out]; omega
          have hf := own_formU hR.out.2
          obtain ⟨g, rfl⟩ : ∃ g, oa = some ⟨g, 0, none⟩ := by
            rcases hf.2 with ⟨-, h, -⟩ | h
            · omega
            · exact h
          obtain ⟨b1, o1, e1, g1⟩ := own_u64a hR.out.2 q hol2
          cases e1
          obtain ⟨b2, o2, rfl, g2⟩ := own_u64a (hR.out.2.re (.step (.there (.here _ _)) (.same _))) u hxu
          have hb : decide ((0 : Int) < ((q : Int) + 1)) = true := by simp
          have hwq : IntKind.i64.wrap (q : Int) = (q : Int) := IntWalk.i64_in _ ⟨by omega, by omega⟩
          rw [Nat.zero_add] at g1
          have hq1 : (q : Int) < (u : Int) := by omega
          have hq0 : (0 : Int) ≤ (q : Int) := by omega
          have hq2 : (u : Int) < (n : Int) := by omega
          have hq3 : (0 : Int) ≤ (u : Int) := by omega
          clear hf
          by_cases hlt : xs[u]'hxu < o[q]'hol2
          · have hrel : Hid (∀ m (hm : m < o.length), q ≤ m → xs[u]'hxu < o[m]'hm) := Lib.hid fun m hm h => by
              by_cases e : m = q
              · subst e; exact hlt
              · exact hR.out.1 m hm (by omega)
            have hHC := Lib.hid hR.out.2
            have hlb : decide (xs[u]'hxu < o[q]'hol2) = true := by simpa using hlt
            clear hR hlt
            go_wp2_with fail
            go_quiet (fail)
            have hH2 := Lib.hid (hHC.out.drewN nq)
            clear g1 g2 hHC
            go_wp2_with fail
            go_roundw
            case rel => exact ⟨q, by omega, by go_num, Lib.hid ⟨hrel.out, hH2.out⟩⟩
            case measure => (simp [intOf]; try omega)
          · have hst := Lib.hid (hsp.out (q + 1) hv hR.out.1 (.inr ⟨hol2, by simpa using hlt⟩))
            have hpm := Lib.hid (hpp.out (q + 1))
            have hHC := Lib.hid hR.out.2
            have hlb : decide (xs[u]'hxu < o[q]'hol2) = false := by simpa using hlt
            clear hR hlt hsp hpp
            go_wp2_with fail
            go_quiet (fail)
            have hr1 := Lib.hid (rdU_take (own_u64a (hHC.out.drewN nq)) (q + 1))
            have hH0 := Lib.hid ((hHC.out.drewN nq).pure (q := .own 30 1 (.slice none 0 0) 0 []) (OwnK.nil _ _ _ _) (fun b h => by cases h))
            have hl1 : Hid ((uv (o.take (q + 1))).length = (q + 1) * 1) := Lib.hid (by rw [uv_len, List.length_take, hol.out]; omega)
            have hl2 : Hid ((uv (o.drop (q + 1))).length = (u - (q + 1)) * 1) := Lib.hid (by rw [uv_len, List.length_drop, hol.out]; omega)
            obtain ⟨x, hx⟩ : ∃ x, xs[u]'hxu = x := ⟨_, rfl⟩
            rw [hx] at hst hpm
            have hxx := Lib.hid hx
            clear g1 g2 hHC hx hlb hb hwq
            by_cases hcc : oc = q + 1
            · have hd0 : Hid (uv (o.drop (q + 1)) = []) := Lib.hid (List.eq_nil_of_length_eq_zero (by rw [hl2.out]; omega))
              subst hcc
              go_upto_region 10 with (go_loud (
                at_builtin
                refine sl_app hH0.out rfl _ _ _ rfl elemU _ rfl (.here _ _) (uv (o.take (q + 1))) rfl hl1.out hr1.out (uv_one _) (by simp only [maxLen]; omega) (by omega) (fun h => by cases h) ?_
                intro v' w3 H5 hnil
                obtain ⟨a3, c4, rfl, -⟩ := OwnK.slice H5.head
                rw [Nat.zero_add, List.nil_append] at H5
                have hH5 := Lib.hid H5
                have hrx := own_u64 (H5.re (.step (.there (.there (.here _ _))) (.same _)))
                obtain ⟨a9, c9, e9, -, -, hrx⟩ := hrx
                simp only [Value.slice.injEq] at e9
                obtain ⟨rfl, -, rfl⟩ := e9
                obtain ⟨b9, o9, e9, g9⟩ := hrx u hxu
                cases e9
                clear H5 hnil hH0 hr1 hrx
                rw [hxx.out] at g9))
              go_upto_region 11 with (go_loud (
                at_builtin
                refine sl_app (hH5.out.alloc [.int .u64 x] 30) rfl _ _ _ rfl elemU _ rfl (.there (.here _ _)) (n := q + 1) (xs := uv (o.take (q + 1))) (m := 1) (c := 1) [.int .u64 x] rfl rfl (rd_newK _ _ _) (by simp [Value.oneCell']) (by simp only [maxLen]; omega) (by omega) (fun h => by cases h) ?_
                intro v' w4 H6 hnil
                obtain ⟨a4, c5, rfl, -⟩ := OwnK.slice H6.head
                have hH6 := Lib.hid (H6.re (.step (.here _ _) (.drop (.same _))))
                clear H6 hnil hH5 g9))
              go_wp2_with (go_loud (
                at_builtin
                refine sl_app hH6.out rfl _ _ _ rfl elemU _ rfl (.here _ _) (a := some ⟨g, 0, none⟩) (m := 0) (c := 0) [] rfl rfl (fun j hj => absurd hj (Nat.not_lt_zero _)) (fun u hu => by cases hu) (by simp only [maxLen]; omega) (by omega) (fun h => by cases h) ?_
                intro v' w5 H7 hnil
                obtain ⟨a5, c6, rfl, -⟩ := OwnK.slice H7.head
                rw [List.append_nil] at H7
                have hH7 := Lib.hid (H7.re (.step (.here _ _) (.step (.there (.here _ _)) (.drop (.same _)))))
                clear H7 hnil hH6))
              have hnn : q + 1 + 1 + 0 = u + 1 := by omega
              rw [hnn] at hH7 ⊢
              go_roundw
              case rel =>
                refine ⟨u + 1, a5, c6, by omega, by go_num, rfl, Lib.hid ⟨_, hpm.out, hst.out, ?_⟩⟩
                have h7 := hH7.out
                skip
                rw [uv_cons', hd0.out, List.append_nil]
                exact h7
              case measure => (simp [intOf]; try omega)
            · have hcc2 : ¬ oc = q + 1 := hcc
              go_upto_region 10 with (go_loud (
                at_builtin
                refine sl_app hH0.out rfl _ _ _ rfl elemU _ rfl (.here _ _) (uv (o.take (q + 1))) rfl hl1.out hr1.out (uv_one _) (by simp only [maxLen]; omega) (by omega) (fun h => by cases h) ?_
                intro v' w3 H5 hnil
                obtain ⟨a3, c4, rfl, -⟩ := OwnK.slice H5.head
                rw [Nat.zero_add, List.nil_append] at H5
                have hH5 := Lib.hid H5
                have hrx := own_u64 (H5.re (.step (.there (.there (.here _ _))) (.same _)))
                obtain ⟨a9, c9, e9, -, -, hrx⟩ := hrx
                simp only [Value.slice.injEq] at e9
                obtain ⟨rfl, -, rfl⟩ := e9
                obtain ⟨b9, o9, e9, g9⟩ := hrx u hxu
                cases e9
                clear H5 hnil hH0 hr1 hrx
                rw [hxx.out] at g9))
              go_upto_region 11 with (go_loud (
                at_builtin
                refine sl_app (hH5.out.alloc [.int .u64 x] 30) rfl _ _ _ rfl elemU _ rfl (.there (.here _ _)) (n := q + 1) (xs := uv (o.take (q + 1))) (m := 1) (c := 1) [.int .u64 x] rfl rfl (rd_newK _ _ _) (by simp [Value.oneCell']) (by simp only [maxLen]; omega) (by omega) (fun h => by cases h) ?_
                intro v' w4 H6 hnil
                obtain ⟨a4, c5, rfl, -⟩ := OwnK.slice H6.head
                have hH6 := Lib.hid (H6.re (.step (.here _ _) (.drop (.same _))))
                clear H6 hnil hH5 g9))
              have hr2 := Lib.hid (rdU_drop (own_u64a (hH6.out.re (.step (.there (.here _ _)) (.same _)))) (q + 1))
              go_wp2_with (go_loud (
                at_builtin
                refine sl_app hH6.out rfl _ _ _ rfl elemU _ rfl (.here _ _) (uv (o.drop (q + 1))) rfl hl2.out hr2.out (uv_one _) (by simp only [maxLen]; omega) (by omega) (fun h => by cases h) ?_
                intro v' w5 H7 hnil
                obtain ⟨a5, c6, rfl, -⟩ := OwnK.slice H7.head
                have hH7 := Lib.hid (H7.re (.step (.here _ _) (.step (.there (.here _ _)) (.drop (.same _)))))
                clear H7 hnil hH6 hr2))
              have hnn : q + 1 + 1 + (u - (q + 1)) = u + 1 := by omega
              rw [hnn] at hH7 ⊢
              go_roundw
              case rel =>
                refine ⟨u + 1, a5, c6, by omega, by go_num, rfl, Lib.hid ⟨_, hpm.out, hst.out, ?_⟩⟩
                have h7 := hH7.out
                rw [List.append_assoc] at h7
                rw [uv_cons']
                exact h7
              case measure => (simp [intOf]; try omega)
        · have hv00 : v = 0 := by omega
          obtain ⟨b2, o2, rfl, g2⟩ := own_u64a (hR.out.2.re (.step (.there (.here _ _)) (.same _))) u hxu
          have hb : decide ((0 : Int) < (v : Int)) = false := by simp; omega
          have hst := Lib.hid (hsp.out v hv hR.out.1 (.inl hv00))
          have hpm := Lib.hid (hpp.out v)
          have hHC := Lib.hid hR.out.2
          have hfm := own_formU hR.out.2
          clear hR hsp hpp
          go_wp2_with fail
          go_quiet (fail)
          have hr1 := Lib.hid (rdU_take (own_u64a (hHC.out.drewN nq)) (v))
          have hH0 := Lib.hid ((hHC.out.drewN nq).pure (q := .own 30 1 (.slice none 0 0) 0 []) (OwnK.nil _ _ _ _) (fun b h => by cases h))
          have hl1 : Hid ((uv (o.take (v))).length = (v) * 1) := Lib.hid (by rw [uv_len, List.length_take, hol.out]; omega)
          have hl2 : Hid ((uv (o.drop (v))).length = (u - (v)) * 1) := Lib.hid (by rw [uv_len, List.length_drop, hol.out]; omega)
          subst hv00
          obtain ⟨x, hx⟩ : ∃ x, xs[u]'hxu = x := ⟨_, rfl⟩
          rw [hx] at hst hpm
          have hxx := Lib.hid hx
          clear g2 hHC hx hb
          rcases hfm.2 with ⟨rfl, hu0, hc0⟩ | ⟨g, rfl⟩
          · have hd0 : Hid (uv (o.drop 0) = []) := Lib.hid (List.eq_nil_of_length_eq_zero (by rw [hl2.out]; omega))
            have hu0' := Lib.hid hu0
            have hc0' := Lib.hid hc0
            clear hfm hu0 hc0
            go_upto_region 10 with (go_loud (
              at_builtin
              refine sl_app hH0.out rfl _ _ _ rfl elemU _ rfl (.here _ _) (uv (o.take (0))) rfl hl1.out hr1.out (uv_one _) (by simp only [maxLen]; omega) (by omega) (fun _ => hc0'.out) ?_
              intro v' w3 H5 hnil
              obtain ⟨a3, c4, rfl, -⟩ := OwnK.slice H5.head
              rw [Nat.zero_add, List.nil_append] at H5
              have hH5 := Lib.hid H5
              have hrx := own_u64 (H5.re (.step (.there (.there (.here _ _))) (.same _)))
              obtain ⟨a9, c9, e9, -, -, hrx⟩ := hrx
              simp only [Value.slice.injEq] at e9
              obtain ⟨rfl, -, rfl⟩ := e9
              obtain ⟨b9, o9, e9, g9⟩ := hrx u hxu
              cases e9
              clear H5 hnil hH0 hr1 hrx
              rw [hxx.out] at g9))
            go_upto_region 11 with (go_loud (
              at_builtin
              refine sl_app (hH5.out.alloc [.int .u64 x] 30) rfl _ _ _ rfl elemU _ rfl (.there (.here _ _)) (n := 0) (xs := uv (o.take (0))) (m := 1) (c := 1) [.int .u64 x] rfl rfl (rd_newK _ _ _) (by simp [Value.oneCell']) (by simp only [maxLen]; omega) (by omega) (fun h => by cases h) ?_
              intro v' w4 H6 hnil
              obtain ⟨a4, c5, rfl, -⟩ := OwnK.slice H6.head
              have hH6 := Lib.hid (H6.re (.step (.here _ _) (.drop (.same _))))
              clear H6 hnil hH5 g9))
            go_wp2_with (go_loud (
              at_builtin
              refine sl_app hH6.out rfl _ _ _ rfl elemU _ rfl (.here _ _) (a := none) (m := u) (c := oc) [] rfl (by rw [hu0'.out]; rfl) (fun j hj => absurd hj (Nat.not_lt_zero _)) (fun u hu => by cases hu) (by simp only [maxLen]; omega) (by omega) (fun _ => hc0'.out) ?_
              intro v' w5 H7 hnil
              obtain ⟨a5, c6, rfl, -⟩ := OwnK.slice H7.head
              rw [List.append_nil] at H7
              have hH7 := Lib.hid (H7.re (.step (.here _ _) (.step (.there (.here _ _)) (.drop (.same _)))))
              clear H7 hnil hH6))
            have hnn : 0 + 1 + u = u + 1 := by omega
            rw [hnn] at hH7 ⊢
            go_roundw
            case rel =>
              refine ⟨u + 1, a5, c6, by omega, by go_num, rfl, Lib.hid ⟨_, hpm.out, hst.out, ?_⟩⟩
              have h7 := hH7.out
              skip
              rw [uv_cons', hd0.out, List.append_nil]
              exact h7
            case measure => (simp [intOf]; try omega)
          · clear hfm
            go_upto_region 10 with (go_loud (
              at_builtin
              refine sl_app hH0.out rfl _ _ _ rfl elemU _ rfl (.here _ _) (uv (o.take (0))) rfl hl1.out hr1.out (uv_one _) (by simp only [maxLen]; omega) (by omega) (fun h => by cases h) ?_
              intro v' w3 H5 hnil
              obtain ⟨a3, c4, rfl, -⟩ := OwnK.slice H5.head
              rw [Nat.zero_add, List.nil_append] at H5
              have hH5 := Lib.hid H5
              have hrx := own_u64 (H5.re (.step (.there (.there (.here _ _))) (.same _)))
              obtain ⟨a9, c9, e9, -, -, hrx⟩ := hrx
              simp only [Value.slice.injEq] at e9
              obtain ⟨rfl, -, rfl⟩ := e9
              obtain ⟨b9, o9, e9, g9⟩ := hrx u hxu
              cases e9
              clear H5 hnil hH0 hr1 hrx
              rw [hxx.out] at g9))
            go_upto_region 11 with (go_loud (
              at_builtin
              refine sl_app (hH5.out.alloc [.int .u64 x] 30) rfl _ _ _ rfl elemU _ rfl (.there (.here _ _)) (n := 0) (xs := uv (o.take (0))) (m := 1) (c := 1) [.int .u64 x] rfl rfl (rd_newK _ _ _) (by simp [Value.oneCell']) (by simp only [maxLen]; omega) (by omega) (fun h => by cases h) ?_
              intro v' w4 H6 hnil
              obtain ⟨a4, c5, rfl, -⟩ := OwnK.slice H6.head
              have hH6 := Lib.hid (H6.re (.step (.here _ _) (.drop (.same _))))
              clear H6 hnil hH5 g9))
            have hr2 := Lib.hid (rdU_drop (own_u64a (hH6.out.re (.step (.there (.here _ _)) (.same _)))) (0))
            go_wp2_with (go_loud (
              at_builtin
              refine sl_app hH6.out rfl _ _ _ rfl elemU _ rfl (.here _ _) (uv (o.drop (0))) rfl hl2.out hr2.out (uv_one _) (by simp only [maxLen]; omega) (by omega) (fun h => by cases h) ?_
              intro v' w5 H7 hnil
              obtain ⟨a5, c6, rfl, -⟩ := OwnK.slice H7.head
              have hH7 := Lib.hid (H7.re (.step (.here _ _) (.step (.there (.here _ _)) (.drop (.same _)))))
              clear H7 hnil hH6 hr2))
            have hnn : 0 + 1 + u = u + 1 := by omega
            rw [hnn] at hH7 ⊢
            go_roundw
            case rel =>
              refine ⟨u + 1, a5, c6, by omega, by go_num, rfl, Lib.hid ⟨_, hpm.out, hst.out, ?_⟩⟩
              have h7 := hH7.out
              rw [List.append_assoc] at h7
              rw [uv_cons']
              exact h7
            case measure => (simp [intOf]; try omega)
    · obtain rfl : u = n := by omega
      obtain ⟨o, hop, hos, HC⟩ := hR.out
      rw [List.take_of_length_le (by rw [hxl.out]; exact Nat.le_refl _)] at hop
      have hf := Lib.hid (show ∃ a c o, (Ending.returned (.slice oa u oc)) = .returned (.slice a u c) ∧ o.Perm xs ∧ o.Pairwise (· ≤ ·) ∧ SL wr (.own 30 1 (.slice a u c) u (uv o) :: .own 30 1 (.slice la u lc) u (uv xs) :: L) from ⟨oa, oc, o, rfl, hop, hos, HC⟩)
      clear hR hop hos HC
      go_wp2_with fail
      go_ret
      exact hf.out
end
end Go.Proofs.Ytcjmkpphohkofaa

