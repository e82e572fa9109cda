/- pack.form: the iterator over a number's bytes. -/
import Derived.Test.YtilpkfgdlehmpaaDoorFormL
import Derived.Test.YtilpkfgdlehmpaaDoorFld
namespace Go.Proofs.YtilpkfgdlehmpaaDoor
open Go.RowKit Go.Shelf
set_option linter.unusedVariables false

theorem form_c (z : Int) {L : List Pc} {w : World} (H : SL w L) : Calls Tryd.prog 52 #[.int .u64 z] w fun e w' => ∃ B, e = .returned (.func (.func 68) #[] #[ptrV B]) ∧ SL w' (.blk B [.int .u64 z] 22 :: L) := by
  have hH := Lib.hid (H.alloc [.int .u64 z] 22)
  clear H
  unfold ptrV at *
  go_enter Tryd.func52, Tryd.ntmps52
  go_wp2_with fail
  go_ret
  exact ⟨_, rfl, hH.out⟩
theorem egFm : ∀ args w, (callFunc 68 args).run Tryd.prog w = .ok (.enter 68 args) w := enters_of Tryd.func68 (by kernel_rfl) rfl
/-- What is left of the number, ahead of the i-th byte. -/
def qF (n i : Nat) : Nat := n / 128 ^ (min i ((nB n).length - 1))
def fmX (n : Nat) : List (Array Value) := (nB n).map fun c => #[.int .u8 c]
theorem fmX_length (n : Nat) : (fmX n).length = (nB n).length := by simp [fmX]
theorem or128 {z : Nat} : bits .or .u8 ((z : Int) % 256) 128 = (z : Int) % 128 + 128 := by
  have key : ∀ a : Fin 256, bits .or .u8 ((a.1 : Nat) : Int) 128 = ((a.1 % 128 + 128 : Nat) : Int) := by decide +kernel
  have h := key ⟨z % 256, by omega⟩
  simp only at h
  rw [show ((z % 256 : Nat) : Int) = (z : Int) % 256 by omega] at h
  rw [h]
  omega

set_option maxRecDepth 100000 in
set_option maxHeartbeats 4000000 in
theorem form_gives (n B : Nat) (hn : n < 18446744073709551616) :
    GivesS Tryd.prog 68 #[.pointer (some ⟨B, 0, none⟩)] (fmX n) (fun i => [.blk B [.int .u64 (qF n i : Int)] 22]) (fun i => [.blk B [.int .u64 (qF n i : Int)] 22]) := by
  intro l J Z W L0 hY h0 H
  have hY' := Lib.hid hY
  have h0' := Lib.hid h0
  have hH := Lib.hid H
  have hmx : Tryd.prog.follows .mixedOrders = true := by kernel_rfl
  have hnn := Lib.hid hn
  clear hY h0 H hn
  refine callsIn_of_wp Tryd.func68 rfl trivial ?_ rfl
  simp only [Tryd.ntmps68, List.size_toArray, List.length_cons, List.length_nil, Nat.reduceAdd, Nat.reduceSub, Array.replicate_succ, Array.replicate_zero, List.push_toArray, List.append_toArray, List.nil_append, List.cons_append]
  gi_wp2_with (first | refine wpIn_label ?_ | refine scope_in ?_)
  gi_loopw [3] (fun _ V => ∃ (j : Nat) (L : List Pc), j < (nB n).length ∧ J j L ∧ SL V (.blk B [.int .u64 (qF n j : Int)] 22 :: L))
    (fun _ V => match V.heap[B]? with | some (.cells cs _ _) => (intOf (cs.getD 0 undef)).toNat | _ => 0)
  case atStart => exact ⟨0, L0, nB_pos n, h0'.out, hH.out⟩
  case round =>
    clear hH h0'
    obtain ⟨j, L, hj, hJ, H⟩ := hrel
    have hJ' := Lib.hid hJ
    have hH := Lib.hid H
    have c0 := H.cell (b := B) (o := 0) (.here _ _) rfl
    have hq : qF n j = n / 128 ^ j := by unfold qF; rw [Nat.min_eq_left (by omega)]
    have hdr := nB_drop n j hj
    rw [← hq] at hdr
    have hcs := List.drop_eq_getElem_cons hj
    rw [hdr] at hcs
    have hzlt : qF n j < 18446744073709551616 := by rw [hq]; exact Nat.lt_of_le_of_lt (Nat.div_le_self _ _) hnn.out
    obtain ⟨z, hz⟩ : ∃ z, qF n j = z := ⟨_, rfl⟩
    rw [hz] at hcs c0 hdr hzlt
    obtain ⟨fn, tmps, assign, body, hy, hR⟩ := hY'.out j (by rw [fmX_length]; exact hj) wr L hJ (by rw [hz] at H ⊢; exact H)
    have hx : (fmX n)[j]'(by rw [fmX_length]; exact hj) = #[.int .u8 ((nB n)[j]'hj)] := by simp [fmX]
    rw [hx] at hy
    have hR' := Lib.hid hR
    have hz' := Lib.hid hz
    have hq' := Lib.hid hq
    have hzl' := Lib.hid hzlt
    clear hzlt
    clear hR hx hJ H
    by_cases hb : z < 128
    · rw [nB_small hb] at hcs
      injection hcs with e1 e2
      rw [← e1] at hy
      have hlen : Hid ((nB n).length = j + 1) := Lib.hid (by
        have := congrArg List.length e2
        simp at this
        omega)
      have hz256 : (z : Int) % 256 = (z : Int) := by omega
      clear hdr e1 e2 hz hq
      gi_wp2_with fail
      refine ⟨rfl, hR'.out.mono ?_⟩
      have hend : ∀ (V : World) (M : List Pc), SL V ([.blk B [.int .u64 (qF n j : Int)] 22] ++ M) → SL V ([.blk B [.int .u64 (qF n (fmX n).length : Int)] 22] ++ M) := fun V M h => by
        have e : qF n (fmX n).length = qF n j := by
          unfold qF
          rw [fmX_length, hlen.out]
          congr 2
          omega
        rw [e]; exact h
      rintro e w5 (⟨rfl, L', hJ3, H3⟩ | ⟨rfl, L', hZ3, H3⟩)
      · have H3' := Lib.hid (hend _ _ H3)
        have hJ3' : Hid (J (fmX n).length L') := Lib.hid (by rw [fmX_length, hlen.out]; exact hJ3)
        clear hy hR' H3 hJ3 hJ' hH c0 hend
        gi_wp2_with fail
        repeat (first | rw [Exit.noGoto_normal] | gi_step)
        exact bodyPost_end (results_none rfl _ _ _) rfl ⟨⟨_, rfl⟩, .inl ⟨L', hJ3'.out, H3'.out⟩⟩
      · have hZ3' := Lib.hid hZ3
        have H3' := Lib.hid H3
        clear hy hR' H3 hZ3 hJ' hH c0 hend
        gi_wp2_with fail
        repeat (first | rw [Exit.noGoto_normal] | gi_step)
        exact bodyPost_end (results_none rfl _ _ _) rfl ⟨⟨_, rfl⟩, .inr ⟨_, _, hZ3'.out, H3'.out⟩⟩
    · have hzb : 128 ≤ z := by omega
      rw [nB_big hb] at hcs
      injection hcs with e1 e2
      rw [← e1, show ((z % 128 + 128 : Nat) : Int) = (z : Int) % 128 + 128 by omega] at hy
      have hor := or128 (z := z)
      have hj1 : Hid (j + 1 < (nB n).length) := Lib.hid (by
        have := congrArg List.length e2
        have hp := nB_pos (z / 128)
        rw [List.length_drop] at this
        omega)
      have hqn : Hid (qF n (j + 1) = z / 128) := Lib.hid (by
        have h1 := hj1.out
        unfold qF
        rw [Nat.min_eq_left (by omega), Nat.pow_succ, ← Nat.div_div_eq_div_mul, ← hq'.out, hz'.out])
      clear e1 e2 hz hq hdr
      gi_wp2_with fail
      refine ⟨rfl, hR'.out.mono ?_⟩
      rintro e w5 (⟨rfl, L', hJ3, H3⟩ | ⟨rfl, L', hZ3, H3⟩)
      · have HS := Lib.hid (SL.setCell (show SL w5 (.blk B [.int .u64 (qF n j : Int)] 22 :: L') from H3) 0 (.int .u64 (qF n (j + 1) : Int)))
        have hJ3' := Lib.hid hJ3
        rw [hz'.out] at H3
        have c1 := H3.cell (b := B) (o := 0) (.here _ _) rfl
        have f1 := H3.free (b := B) (.here _ _) 0
        have hbk : Hid (w5.heap[B]? = some (.cells #[.int .u64 (z : Int)] 22)) := Lib.hid H3.head
        have hbk0 : Hid (wr.heap[B]? = some (.cells #[.int .u64 (z : Int)] 22)) := Lib.hid (by have := hH.out.head; rw [hz'.out] at this; exact this)
        clear hy hR' H3 hJ3 hJ' hH c0 hor
        gi_wp2_with fail
        have e : (z : Int) / 128 = ((qF n (j + 1) : Nat) : Int) := by rw [hqn.out]; omega
        go_roundw
        case rel => exact ⟨j + 1, L', hj1.out, hJ3'.out, by rw [e]; exact HS.out⟩
        case measure =>
          have e1 := blk_setCell hbk.out 0 (Value.int .u64 ((z : Int) / 128))
          rw [e1, hbk0.out]
          simp [intOf]
          omega
      · have hZ3' := Lib.hid hZ3
        have H3' := Lib.hid H3
        clear hy hR' H3 hZ3 hJ' hH c0 hor
        gi_wp2_with fail
        repeat (first | rw [Exit.noGoto_ret] | gi_step)
        exact bodyPost_ret (results_none rfl _ _ _) rfl ⟨⟨_, rfl⟩, .inr ⟨_, _, hZ3'.out, H3'.out⟩⟩
end Go.Proofs.YtilpkfgdlehmpaaDoor
