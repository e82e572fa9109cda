/- The walk of held: the ways that hold some. -/
import Derived.Test.YtnkahibddhchlaaOps3
import Derived.Test.YtnkahibddhchlaaSLRange
import Derived.RangeFuncCalls
import Derived.TacticsIn
import Derived.Sort.QuietIn
import Derived.Shelf.RegionOpen
namespace Go.Proofs.Ytnkahibddhchlaa
open Go.RowKit Go.Shelf
set_option linter.unusedVariables false
attribute [local go_sem] Oper.semAt_some

/-- All ways, by from, then to. -/
def allK (n : Nat) : List Ky := (List.range (n * n)).map fun i => (((i / n : Nat) : Int), ((i % n : Nat) : Int))
/-- The ways that hold some. -/
def heldK (n : Nat) (F : Ky → List (List Int)) : List Ky := (allK n).filter fun k => !(F k).isEmpty
def heldX (ks : Kl) (l : List Ky) : List (Array Value) := l.map fun k => #[kyV k, kat ks k]
def cntK (n : Nat) (F : Ky → List (List Int)) (i : Nat) : Nat := (((allK n).take i).filter fun k => !(F k).isEmpty).length

theorem allK_length (n : Nat) : (allK n).length = n * n := by simp [allK]
theorem allK_at {n a b : Nat} (ha : a < n) (hb : b < n) : ∃ h : a * n + b < (allK n).length, (allK n)[a * n + b]'h = ((a : Int), (b : Int)) := by
  have h1 : a * n + b < n * n := by
    have : (a + 1) * n ≤ n * n := Nat.mul_le_mul_right n ha
    rw [Nat.add_mul, Nat.one_mul] at this
    omega
  refine ⟨by rw [allK_length]; exact h1, ?_⟩
  simp only [allK, List.getElem_map, List.getElem_range]
  rw [show (a * n + b) / n = a from by rw [Nat.mul_comm, Nat.mul_add_div (by omega), Nat.div_eq_of_lt hb]; rfl, show (a * n + b) % n = b from by rw [Nat.mul_comm, Nat.mul_add_mod, Nat.mod_eq_of_lt hb]]
theorem cntK_zero (n : Nat) (F : Ky → List (List Int)) : cntK n F 0 = 0 := by simp [cntK]
theorem cntK_succ {n : Nat} {F : Ky → List (List Int)} {i : Nat} (hi : i < (allK n).length) : cntK n F (i + 1) = if (F ((allK n)[i]'hi)).isEmpty then cntK n F i else cntK n F i + 1 := by
  unfold cntK
  rw [List.take_succ_eq_append_getElem hi, List.filter_append]
  cases h : (F ((allK n)[i]'hi)).isEmpty <;> simp [h]
theorem cntK_all (n : Nat) (F : Ky → List (List Int)) : cntK n F (n * n) = (heldK n F).length := by
  unfold cntK heldK
  rw [List.take_of_length_le (by rw [allK_length]; exact Nat.le_refl _)]
theorem heldK_at {n : Nat} {F : Ky → List (List Int)} {i : Nat} (hi : i < (allK n).length) (h : (F ((allK n)[i]'hi)).isEmpty = false) : ∃ h2 : cntK n F i < (heldK n F).length, (heldK n F)[cntK n F i]'h2 = (allK n)[i]'hi := by
  have e : allK n = (allK n).take i ++ (allK n)[i]'hi :: (allK n).drop (i + 1) := by rw [← List.drop_eq_getElem_cons hi, List.take_append_drop]
  have e3 : heldK n F = ((allK n).take i).filter (fun k => !(F k).isEmpty) ++ (allK n)[i]'hi :: ((allK n).drop (i + 1)).filter fun k => !(F k).isEmpty := by
    unfold heldK
    conv => lhs; rw [e]
    rw [List.filter_append, List.filter_cons_of_pos (by simp [h])]
  refine ⟨by rw [e3]; simp [cntK], ?_⟩
  rw [List.getElem_of_eq e3, List.getElem_append_right (by simp [cntK])]
  simp [cntK]

def heldP (B p m : Nat) (n room : Nat) (t : Tf) (xs : List Ln) : List Pc := .blk B [ptrV p] 24 :: netP p m n room t xs

theorem held_c (p : Nat) (w : World) {L : List Pc} (H : SL w L) :
    Calls Try.prog 37 #[ptrV p] w fun e w' => ∃ B, e = .returned (.func (.func 50) #[] #[.pointer (some ⟨B, 0, none⟩)]) ∧ SL w' (.blk B [ptrV p] 24 :: L) := by
  have hmf : ∀ (fn : Fn) (first cap : Array Value) (w : World), (Instr.makeFunc fn first cap).run Try.prog w = .ok (.func fn first cap) w := fun _ _ _ _ => rfl
  unfold ptrV
  go_enter Try.func37, Try.ntmps37
  go_wp2_with fail
  go_ret
  exact ⟨_, rfl, H.alloc _ _⟩

set_option maxHeartbeats 4000000 in
theorem held_gives (B p m : Nat) (n room : Nat) (t : Tf) (T : Nat → List Ln) (ks : Kl) (F : Ky → List (List Int)) (ok : ∀ i, NOk n room (T i)) (hks : ∀ i, (T i).map kOf = ks)
    (hF : ∀ i (h : i < (allK n).length), (look (T (cntK n F i)) ((allK n)[i]'h)).isEmpty = (F ((allK n)[i]'h)).isEmpty) :
    GivesS Try.prog 50 #[.pointer (some ⟨B, 0, none⟩)] (heldX ks (heldK n F)) (fun i => heldP B p m n room t (T i)) (fun i => heldP B p m n room t (T (i + 1))) := by
  intro l J Z W L0 hY h0 H
  have hY' := Lib.hid hY
  have h0' := Lib.hid h0
  have hH := Lib.hid H
  have hn1 := (ok 0).n1
  have hn2 := (ok 0).n2
  have hmx : Try.prog.follows .mixedOrders = true := by kernel_rfl
  simp only [heldP, netP, List.cons_append] at H
  have c0 := H.cell (b := B) (o := 0) (.here _ _) rfl
  have c1 := H.cell (b := p) (o := 0) (.there (.here _ _)) rfl
  clear hY h0 H
  unfold ptrV at c0
  refine callsIn_of_wp Try.func50 rfl trivial ?_ rfl
  simp only [Try.ntmps50, List.size_toArray, List.length_cons, List.length_nil, Nat.reduceAdd, Nat.reduceSub, Array.replicate_succ, Array.replicate_zero, List.push_toArray, List.append_toArray, List.nil_append, List.cons_append]
  gi_wp2_with (first | refine wpIn_label ?_ | refine scope_in ?_)
  gi_loopw [11] (fun i V => ∃ (a : Nat) (L : List Pc), a ≤ n ∧ i = .int .i64 a ∧ J (cntK n F (a * n)) L ∧ SL V (heldP B p m n room t (T (cntK n F (a * n))) ++ L)) (fun i _ => n - (intOf i).toNat)
  case atStart => exact ⟨0, L0, by omega, rfl, by rw [Nat.zero_mul, cntK_zero]; exact h0'.out, by rw [Nat.zero_mul, cntK_zero]; exact hH.out⟩
  case round =>
    clear c0 c1 hH h0'
    obtain ⟨a, L, ha, rfl, hJ, H⟩ := hrel
    have hJ' := Lib.hid hJ
    have hH := Lib.hid H
    simp only [heldP, netP, List.cons_append] at H
    have c0 := H.cell (b := B) (o := 0) (.here _ _) rfl
    have c1 := H.cell (b := p) (o := 0) (.there (.here _ _)) rfl
    clear H hJ
    unfold ptrV at c0
    by_cases han : a < n
    · gi_wp2_with (first | refine wpIn_label ?_ | refine scope_in ?_)
      gi_loopw [18] (fun i V => ∃ (b : Nat) (L : List Pc), b ≤ n ∧ i = .int .i64 b ∧ J (cntK n F (a * n + b)) L ∧ SL V (heldP B p m n room t (T (cntK n F (a * n + b))) ++ L)) (fun i _ => n - (intOf i).toNat)
      case atStart => exact ⟨0, L, by omega, rfl, hJ'.out, hH.out⟩
      case round =>
        clear c0 c1 hH hJ'
        obtain ⟨b, L, hb, rfl, hJ, H⟩ := hrel
        have hJ' := Lib.hid hJ
        have hH := Lib.hid H
        simp only [heldP, netP, List.cons_append] at H
        have c0 := H.cell (b := B) (o := 0) (.here _ _) rfl
        have c1 := H.cell (b := p) (o := 0) (.there (.here _ _)) rfl
        clear H hJ
        unfold ptrV at c0
        by_cases hbn : b < n
        · gi_wp2_with (first | refine wpIn_label ?_ | refine scope_in ?_)
          obtain ⟨hp, hkp⟩ := allK_at han hbn
          have hF0 := hF _ hp
          have hs0 := cntK_succ (F := F) hp
          rw [hkp] at hF0 hs0
          have hok := ok (cntK n F (a * n + b))
          have hks0 := hks (cntK n F (a * n + b))
          have h42 := hH.out.alloc [.int .i64 a, .int .i64 b] 42
          have hsplit : SL (wr.alloc (.cells [Value.int .i64 a, .int .i64 b].toArray 42)) (.blk wr.heap.size [.int .i64 a, .int .i64 b] 42 :: .blk B [ptrV p] 24 :: netB p n room m t :: kmap m ks :: (lnsP (T (cntK n F (a * n + b))) ++ L)) := by
            have := h42
            simp only [heldP, netP, hks0, List.cons_append] at this
            exact this
          have hlk0 := fun V (h : KmapAt V m ks) => net_lookup hok (show KmapAt V m ((T (cntK n F (a * n + b))).map kOf) from by rw [hks0]; exact h) (okI_nat (z := (a : Int)) (by omega) (by omega)) (okI_nat (z := (b : Int)) (by omega) (by omega))
          have hback : Hid (∀ V, SL V (.blk wr.heap.size [.int .i64 a, .int .i64 b] 42 :: .blk B [ptrV p] 24 :: netB p n room m t :: kmap m ks :: (lnsP (T (cntK n F (a * n + b))) ++ L)) → SL V (heldP B p m n room t (T (cntK n F (a * n + b))) ++ L)) := Lib.hid fun V h => by
            simp only [heldP, netP, hks0, List.cons_append]
            exact h.tail
          have hfree : Hid (kat ((T (cntK n F (a * n + b))).map kOf) ((a : Int), (b : Int)) = kat ks ((a : Int), (b : Int))) := Lib.hid (by rw [hks0])
          obtain ⟨kq, hkq⟩ : ∃ v, kat ((T (cntK n F (a * n + b))).map kOf) ((a : Int), (b : Int)) = v := ⟨_, rfl⟩
          rw [hkq] at hlk0 hfree
          have hkq' := Lib.hid hkq
          have hlk := Lib.hid hlk0
          have hH2 := Lib.hid hsplit
          clear hkp hp h42 hsplit hlk0 c0 c1 hH hkq
          generalize wr.alloc (.cells #[.int .i64 a, .int .i64 b] 42) = w2 at *
          generalize wr.heap.size = kb at *
          have hH := hH2
          clear hH2
          unfold ptrV at hH hback
          refine wpIn_wide.2 ?_
          refine wp_region_held_drew (S := (fun W => W.cell? ⟨B, 0, none⟩ = some (.pointer (some ⟨p, 0, none⟩)) ∧ W.cell? ⟨p, 2, none⟩ = some (.map (some m)) ∧ W.cell? ⟨kb, 0, none⟩ = some (.int .i64 a) ∧ W.cell? ⟨kb, 1, none⟩ = some (.int .i64 b) ∧ (Instr.lookup 65 (.map (some m)) (.agg #[.int .i64 a, .int .i64 b]) false).run Try.prog W = .ok (kq) W)) (by kernel_rfl) ?_ (fun hHeld => ?_)
          · have H := hH.out.drew
            exact ⟨H.cell (b := B) (o := 0) (by first | exact .here _ _ | exact .there (.here _ _) | exact .there (.there (.here _ _)) | exact .there (.there (.there (.here _ _))) | exact .there (.there (.there (.there (.here _ _)))) | exact .there (.there (.there (.there (.there (.here _ _))))) | exact .there (.there (.there (.there (.there (.there (.here _ _)))))) | exact .there (.there (.there (.there (.there (.there (.there (.here _ _))))))) | exact .there (.there (.there (.there (.there (.there (.there (.there (.here _ _)))))))) | exact .there (.there (.there (.there (.there (.there (.there (.there (.there (.here _ _))))))))) | exact .there (.there (.there (.there (.there (.there (.there (.there (.there (.there (.here _ _)))))))))) | exact .there (.there (.there (.there (.there (.there (.there (.there (.there (.there (.there (.here _ _))))))))))) | exact .there (.there (.there (.there (.there (.there (.there (.there (.there (.there (.there (.there (.here _ _)))))))))))) | exact .there (.there (.there (.there (.there (.there (.there (.there (.there (.there (.there (.there (.there (.here _ _)))))))))))))) rfl, H.cell (b := p) (o := 2) (by first | exact .here _ _ | exact .there (.here _ _) | exact .there (.there (.here _ _)) | exact .there (.there (.there (.here _ _))) | exact .there (.there (.there (.there (.here _ _)))) | exact .there (.there (.there (.there (.there (.here _ _))))) | exact .there (.there (.there (.there (.there (.there (.here _ _)))))) | exact .there (.there (.there (.there (.there (.there (.there (.here _ _))))))) | exact .there (.there (.there (.there (.there (.there (.there (.there (.here _ _)))))))) | exact .there (.there (.there (.there (.there (.there (.there (.there (.there (.here _ _))))))))) | exact .there (.there (.there (.there (.there (.there (.there (.there (.there (.there (.here _ _)))))))))) | exact .there (.there (.there (.there (.there (.there (.there (.there (.there (.there (.there (.here _ _))))))))))) | exact .there (.there (.there (.there (.there (.there (.there (.there (.there (.there (.there (.there (.here _ _)))))))))))) | exact .there (.there (.there (.there (.there (.there (.there (.there (.there (.there (.there (.there (.there (.here _ _)))))))))))))) rfl, H.cell (b := kb) (o := 0) (by first | exact .here _ _ | exact .there (.here _ _) | exact .there (.there (.here _ _)) | exact .there (.there (.there (.here _ _))) | exact .there (.there (.there (.there (.here _ _)))) | exact .there (.there (.there (.there (.there (.here _ _))))) | exact .there (.there (.there (.there (.there (.there (.here _ _)))))) | exact .there (.there (.there (.there (.there (.there (.there (.here _ _))))))) | exact .there (.there (.there (.there (.there (.there (.there (.there (.here _ _)))))))) | exact .there (.there (.there (.there (.there (.there (.there (.there (.there (.here _ _))))))))) | exact .there (.there (.there (.there (.there (.there (.there (.there (.there (.there (.here _ _)))))))))) | exact .there (.there (.there (.there (.there (.there (.there (.there (.there (.there (.there (.here _ _))))))))))) | exact .there (.there (.there (.there (.there (.there (.there (.there (.there (.there (.there (.there (.here _ _)))))))))))) | exact .there (.there (.there (.there (.there (.there (.there (.there (.there (.there (.there (.there (.there (.here _ _)))))))))))))) rfl, H.cell (b := kb) (o := 1) (by first | exact .here _ _ | exact .there (.here _ _) | exact .there (.there (.here _ _)) | exact .there (.there (.there (.here _ _))) | exact .there (.there (.there (.there (.here _ _)))) | exact .there (.there (.there (.there (.there (.here _ _))))) | exact .there (.there (.there (.there (.there (.there (.here _ _)))))) | exact .there (.there (.there (.there (.there (.there (.there (.here _ _))))))) | exact .there (.there (.there (.there (.there (.there (.there (.there (.here _ _)))))))) | exact .there (.there (.there (.there (.there (.there (.there (.there (.there (.here _ _))))))))) | exact .there (.there (.there (.there (.there (.there (.there (.there (.there (.there (.here _ _)))))))))) | exact .there (.there (.there (.there (.there (.there (.there (.there (.there (.there (.there (.here _ _))))))))))) | exact .there (.there (.there (.there (.there (.there (.there (.there (.there (.there (.there (.there (.here _ _)))))))))))) | exact .there (.there (.there (.there (.there (.there (.there (.there (.there (.there (.there (.there (.there (.here _ _)))))))))))))) rfl, (hlk.out _ (H.kmap (by first | exact .here _ _ | exact .there (.here _ _) | exact .there (.there (.here _ _)) | exact .there (.there (.there (.here _ _))) | exact .there (.there (.there (.there (.here _ _)))) | exact .there (.there (.there (.there (.there (.here _ _))))) | exact .there (.there (.there (.there (.there (.there (.here _ _)))))) | exact .there (.there (.there (.there (.there (.there (.there (.here _ _))))))) | exact .there (.there (.there (.there (.there (.there (.there (.there (.here _ _)))))))) | exact .there (.there (.there (.there (.there (.there (.there (.there (.there (.here _ _))))))))) | exact .there (.there (.there (.there (.there (.there (.there (.there (.there (.there (.here _ _)))))))))) | exact .there (.there (.there (.there (.there (.there (.there (.there (.there (.there (.there (.here _ _))))))))))) | exact .there (.there (.there (.there (.there (.there (.there (.there (.there (.there (.there (.there (.here _ _)))))))))))) | exact .there (.there (.there (.there (.there (.there (.there (.there (.there (.there (.there (.there (.there (.here _ _))))))))))))))))⟩
          have H := hH.out.drew
          generalize World.drew w2 = w3 at *
          clear hH
          refine takeL (i := 0) rfl (by kernel_rfl) (by kernel_rfl) (by kernel_rfl) (fun _ _ _ _ h => h) hHeld ?_ (Or.inl ⟨by rfl, ?_⟩) ?_
          rotate_left
          · intro W hW
            (try dsimp only at hW)
            first | (go_simp; done) | (go_simp; with_reducible rfl)
          ((try simp only [Act.put]); (try simp only [List.setIfInBounds_toArray]); (try simp only [List.set_cons_succ]); (try simp only [List.set_cons_zero]))
          refine takeL (i := 1) rfl (by kernel_rfl) (by kernel_rfl) (by kernel_rfl) (fun _ _ _ _ h => h) hHeld ?_ (Or.inl ⟨by rfl, ?_⟩) ?_
          rotate_left
          · intro W hW
            (try dsimp only at hW)
            first | (go_simp; done) | (go_simp; with_reducible rfl)
          ((try simp only [Act.put]); (try simp only [List.setIfInBounds_toArray]); (try simp only [List.set_cons_succ]); (try simp only [List.set_cons_zero]))
          refine takeL (i := 2) rfl (by kernel_rfl) (by kernel_rfl) (by kernel_rfl) (fun _ _ _ _ h => h) hHeld ?_ (Or.inl ⟨by rfl, ?_⟩) ?_
          rotate_left
          · intro W hW
            (try dsimp only at hW)
            first | (go_simp; done) | (go_simp; with_reducible rfl)
          ((try simp only [Act.put]); (try simp only [List.setIfInBounds_toArray]); (try simp only [List.set_cons_succ]); (try simp only [List.set_cons_zero]))
          refine takeL (i := 3) rfl (by kernel_rfl) (by kernel_rfl) (by kernel_rfl) (fun _ _ _ _ h => h) hHeld ?_ (Or.inl ⟨by rfl, ?_⟩) ?_
          rotate_left
          · intro W hW
            (try dsimp only at hW)
            first | (go_simp; done) | (go_simp; with_reducible rfl)
          ((try simp only [Act.put]); (try simp only [List.setIfInBounds_toArray]); (try simp only [List.set_cons_succ]); (try simp only [List.set_cons_zero]))
          refine takeL (i := 4) rfl (by kernel_rfl) (by kernel_rfl) (by kernel_rfl) (fun _ _ _ _ h => h) hHeld ?_ (Or.inl ⟨by rfl, ?_⟩) ?_
          rotate_left
          · intro W hW
            (try dsimp only at hW)
            first | (go_simp; done) | (go_simp; with_reducible rfl)
          ((try simp only [Act.put]); (try simp only [List.setIfInBounds_toArray]); (try simp only [List.set_cons_succ]); (try simp only [List.set_cons_zero]))
          refine takeL (i := 5) rfl (by kernel_rfl) (by kernel_rfl) (by kernel_rfl) (fun _ _ _ _ h => h) hHeld ?_ (Or.inl ⟨by rfl, ?_⟩) ?_
          rotate_left
          · intro W hW
            (try dsimp only at hW)
            first | (go_simp; done) | (go_simp; with_reducible rfl)
          ((try simp only [Act.put]); (try simp only [List.setIfInBounds_toArray]); (try simp only [List.set_cons_succ]); (try simp only [List.set_cons_zero]))
          refine takeL (i := 6) rfl (by kernel_rfl) (by kernel_rfl) (by kernel_rfl) (fun _ _ _ _ h => h) hHeld ?_ (Or.inl ⟨by rfl, ?_⟩) ?_
          rotate_left
          · intro W hW
            (try dsimp only at hW)
            first | (go_simp; done) | (go_simp; with_reducible rfl)
          ((try simp only [Act.put]); (try simp only [List.setIfInBounds_toArray]); (try simp only [List.set_cons_succ]); (try simp only [List.set_cons_zero]))
          refine wpAnyH_done (by kernel_rfl) ?_ _
          
          have hH3 := Lib.hid (hback.out _ H)
          have k0 := H.cell (b := kb) (o := 0) (by first | exact .here _ _ | exact .there (.here _ _) | exact .there (.there (.here _ _)) | exact .there (.there (.there (.here _ _))) | exact .there (.there (.there (.there (.here _ _)))) | exact .there (.there (.there (.there (.there (.here _ _))))) | exact .there (.there (.there (.there (.there (.there (.here _ _)))))) | exact .there (.there (.there (.there (.there (.there (.there (.here _ _))))))) | exact .there (.there (.there (.there (.there (.there (.there (.there (.here _ _)))))))) | exact .there (.there (.there (.there (.there (.there (.there (.there (.there (.here _ _))))))))) | exact .there (.there (.there (.there (.there (.there (.there (.there (.there (.there (.here _ _)))))))))) | exact .there (.there (.there (.there (.there (.there (.there (.there (.there (.there (.there (.here _ _))))))))))) | exact .there (.there (.there (.there (.there (.there (.there (.there (.there (.there (.there (.there (.here _ _)))))))))))) | exact .there (.there (.there (.there (.there (.there (.there (.there (.there (.there (.there (.there (.there (.here _ _)))))))))))))) rfl
          have k1 := H.cell (b := kb) (o := 1) (by first | exact .here _ _ | exact .there (.here _ _) | exact .there (.there (.here _ _)) | exact .there (.there (.there (.here _ _))) | exact .there (.there (.there (.there (.here _ _)))) | exact .there (.there (.there (.there (.there (.here _ _))))) | exact .there (.there (.there (.there (.there (.there (.here _ _)))))) | exact .there (.there (.there (.there (.there (.there (.there (.here _ _))))))) | exact .there (.there (.there (.there (.there (.there (.there (.there (.here _ _)))))))) | exact .there (.there (.there (.there (.there (.there (.there (.there (.there (.here _ _))))))))) | exact .there (.there (.there (.there (.there (.there (.there (.there (.there (.there (.here _ _)))))))))) | exact .there (.there (.there (.there (.there (.there (.there (.there (.there (.there (.there (.here _ _))))))))))) | exact .there (.there (.there (.there (.there (.there (.there (.there (.there (.there (.there (.there (.here _ _)))))))))))) | exact .there (.there (.there (.there (.there (.there (.there (.there (.there (.there (.there (.there (.there (.here _ _)))))))))))))) rfl
          clear H hHeld hlk hback
          gi_wp2_with (first | refine wpIn_label ?_ | refine scope_in ?_)
          have hnet : SL w3 (netP p m n room t (T (cntK n F (a * n + b))) ++ L) := hH3.out.tail
          rcases look_cases (T (cntK n F (a * n + b))) ((a : Int), (b : Int)) with hn | ⟨i, hi, hik⟩
          · have hemp : (F ((a : Int), (b : Int))).isEmpty = true := by rw [← hF0, (look_none hn).1]; rfl
            have hv : kq = .pointer none := by rw [← hkq'.out, (look_none hn).2]
            subst hv
            have hs := Lib.hid (show cntK n F (a * n + b + 1) = cntK n F (a * n + b) from by rw [hs0, if_pos hemp])
            have hhas := Lib.hid (has_nil 0 w3)
            clear hs0 hemp

            gi_wp2_with fail
            refine ⟨trivial, rfl, calls_in (hhas.out.mono ?_)⟩
            rintro e w' ⟨rfl, rfl⟩
            clear hhas
            gi_wp2_with fail
            refine ⟨fun _ _ => trivial, ?_⟩
            gi_wp2_with fail
            go_roundw
            case rel =>
              refine ⟨b + 1, L, by omega, by go_num, ?_, ?_⟩
              · rw [show a * n + (b + 1) = a * n + b + 1 from rfl, hs.out]; exact hJ'.out
              · rw [show a * n + (b + 1) = a * n + b + 1 from rfl, hs.out]; exact hH3.out
            case measure => (simp [intOf]; try omega)
          · have hlen := (look_at hok hi hik).1
            have hv : kq = ptrV (((T (cntK n F (a * n + b)))[i]'hi).q) := by rw [← hkq'.out, (look_at hok hi hik).2]
            have hS := net_split hnet hi
            obtain ⟨sa, sc, hsl, -⟩ := ln_slice hS (.there (.here _ _))
            have hc := hS.cell (b := ((T (cntK n F (a * n + b)))[i]'hi).q) (o := 0) (.here _ _) rfl
            rw [hsl] at hc
            have hhas0 := has_c _ _ _ _ 0 w3 hc
            rw [hlen] at hF0
            cases hg : ((T (cntK n F (a * n + b)))[i]'hi).gs with
            | nil =>
              have hemp : (F ((a : Int), (b : Int))).isEmpty = true := by rw [← hF0, hg]; rfl
              rw [hg] at hhas0
              simp only [List.length_nil] at hhas0
              rw [show decide ((0 : Int) ≤ 0 ∧ (0 : Int) < ((0 : Nat) : Int)) = false from by decide] at hhas0
              rw [hv]
              generalize ((T (cntK n F (a * n + b)))[i]'hi).q = q at *
              clear hS hsl hc hnet hlen hg hik hkq' hF0 hok hfree hv hks0
              unfold ptrV at *
              have hs := Lib.hid (show cntK n F (a * n + b + 1) = cntK n F (a * n + b) from by rw [hs0, if_pos hemp])
              have hhas := Lib.hid (hhas0)
              clear hs0 hemp

              gi_wp2_with fail
              refine ⟨trivial, rfl, calls_in (hhas.out.mono ?_)⟩
              rintro e w' ⟨rfl, rfl⟩
              clear hhas
              gi_wp2_with fail
              refine ⟨fun _ _ => trivial, ?_⟩
              gi_wp2_with fail
              go_roundw
              case rel =>
                refine ⟨b + 1, L, by omega, by go_num, ?_, ?_⟩
                · rw [show a * n + (b + 1) = a * n + b + 1 from rfl, hs.out]; exact hJ'.out
                · rw [show a * n + (b + 1) = a * n + b + 1 from rfl, hs.out]; exact hH3.out
              case measure => (simp [intOf]; try omega)
            | cons g0 gs0 =>
              have hne : (F ((a : Int), (b : Int))).isEmpty = false := by rw [← hF0, hg]; rfl
              have hs := Lib.hid (show cntK n F (a * n + b + 1) = cntK n F (a * n + b) + 1 from by rw [hs0, hne]; rfl)
              rw [hg] at hhas0
              rw [show decide ((0 : Int) ≤ 0 ∧ (0 : Int) < (((g0 :: gs0).length : Nat) : Int)) = true from by simp] at hhas0
              obtain ⟨hp, hkp⟩ := allK_at han hbn
              obtain ⟨h2, h3⟩ := heldK_at (F := F) hp (by rw [hkp]; exact hne)
              have hx : (heldX ks (heldK n F))[cntK n F (a * n + b)]'(by unfold heldX; rw [List.length_map]; exact h2) = #[.agg #[.int .i64 a, .int .i64 b], kq] := by
                unfold heldX
                rw [List.getElem_map, h3, hkp, ← hfree.out]
                rfl
              obtain ⟨fn, tmps, assign, body, hy, hR⟩ := hY'.out _ (by unfold heldX; rw [List.length_map]; exact h2) w3 L hJ'.out hH3.out
              rw [hx] at hy
              have hhas := Lib.hid hhas0
              have hR' := Lib.hid hR
              rw [hv] at hy ⊢
              generalize ((T (cntK n F (a * n + b)))[i]'hi).q = q at *
              clear hS hsl hc hnet hlen hg hik hkq' hF0 hok hfree hv hks0 hhas0 hR hs0 hne h2 h3 hx hp hkp
              unfold ptrV at *
              gi_wp2_with fail
              refine ⟨trivial, rfl, calls_in (hhas.out.mono ?_)⟩
              rintro e w' ⟨rfl, rfl⟩
              clear hhas
              gi_wp2_with fail
              refine ⟨rfl, hR'.out.mono ?_⟩
              rintro e w5 (⟨rfl, L', hJ3, H3⟩ | ⟨rfl, L', hZ3, H3⟩)
              · have H3' := Lib.hid H3
                have hJ3' := Lib.hid hJ3
                clear hy hR' H3 hJ3 hJ' hH3 k0 k1
                gi_wp2_with fail
                go_roundw
                case rel =>
                  refine ⟨b + 1, L', by omega, by go_num, ?_, ?_⟩
                  · rw [show a * n + (b + 1) = a * n + b + 1 from rfl, hs.out]; exact hJ3'.out
                  · rw [show a * n + (b + 1) = a * n + b + 1 from rfl, hs.out]; exact H3'.out
                case measure => (simp [intOf]; try omega)
              · have hZ3' := Lib.hid hZ3
                have H3' := Lib.hid H3
                clear hy hR' H3 hZ3 hJ' hH3 k0 k1
                gi_wp2_with fail
                repeat (first | rw [Exit.noGoto_ret] | gi_step)
                refine bodyPost_ret (results_none rfl _ _ _) rfl ?_
                exact ⟨⟨_, rfl⟩, .inr ⟨_, _, hZ3'.out, H3'.out⟩⟩
        · obtain rfl : b = n := by omega
          gi_wp2_with fail
          try simp only [Exit.noGoto_normal]
          try gi_wp2
          go_roundw
          case rel =>
            refine ⟨a + 1, L, by omega, by go_num, ?_, ?_⟩
            · rw [Nat.add_mul, Nat.one_mul]; exact hJ'.out
            · rw [Nat.add_mul, Nat.one_mul]; exact hH.out
          case measure => (simp [intOf]; try omega)
    · obtain rfl : a = n := by omega
      gi_wp2_with fail
      repeat (first | rw [Exit.noGoto_normal] | gi_step)
      refine bodyPost_end (results_none rfl _ _ _) rfl ⟨⟨_, rfl⟩, .inl ⟨L, ?_, ?_⟩⟩
      · have := hJ'.out
        rw [cntK_all] at this
        simpa [heldX] using this
      · have := hH.out
        rw [cntK_all] at this
        simpa [heldX] using this
end Go.Proofs.Ytnkahibddhchlaa
