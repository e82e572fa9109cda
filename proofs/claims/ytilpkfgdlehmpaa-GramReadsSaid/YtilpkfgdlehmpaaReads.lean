/- The walk of GramReads. -/
import Derived.Test.YtilpkfgdlehmpaaFor
import Derived.Test.YtilpkfgdlehmpaaOwnMore
import Derived.Deep.CutBlock
import Derived.Deep.CutRange
namespace Go.Proofs.Ytilpkfgdlehmpaa
open Go.RowKit Go.Shelf
set_option linter.unusedVariables false

theorem slice_hB (a : Option Addr) (N c Z : Nat) (h : Z ≤ c) (w : World) : (Instr.slice 22 (.slice a N c) none (some (.int .i64 (Z : Int))) none).run Try.prog w = .ok (.slice (if c = 0 then a else a.map (·.add 0)) Z c) w := by
  rw [run_slice_h (P := Try.prog) (w := w) (t := 22) (a := a) (len := N) (cap := c) (ht := by kernel_rfl) (kh := .i64) (h := (Z : Int)) (by omega) (by omega)]
  rw [show (sizeOf (Try.prog.elem 22)).run Try.prog w = .ok 1 w by kernel_rfl]
  simp [Result.andThen, sliced]
/-- Bytes of the call's own, read. -/
theorem own_rdB {w : World} {L L' : List Pc} {a : Option Addr} {m c : Nat} {l : List Int} (H : SL w L) (hp : Pull L (.own 5 1 (.slice a m c) m (bv l)) L') (hl : l.length = m) : RdB w a l :=
  (OwnK.rdB (show OwnK w 0 5 1 (.slice a m c) m (bv l) from H.all _ hp.mem)).2.2

theorem decR_bytes {bs : List Int} : ∀ x ∈ (decR bs).1.data, byteK x := by
  have hy := openB_bytes bs
  by_cases h : openZ bs = 0
  · by_cases h1 : endK (readC (openB bs)).2 ∧ mayK (readC (openB bs)).1
    · rw [decR_good h hy h1]; exact (readC_ok hy).data
    · rw [decR_bad h hy h1]; exact fun x hx => by cases hx
  · rw [decR_no h]; exact fun x hx => by cases hx
theorem formK_len {g : Gm} (h : formK g) : g.data.length ≤ 900 := by
  unfold formK at h
  rcases h with ⟨-, -, -, -, h⟩ | ⟨-, -, -, -, h⟩ | ⟨-, -, -, -, h⟩
  · rw [h]; decide
  · exact h
  · rw [h]; decide
theorem decR_len {bs : List Int} : (decR bs).1.data.length ≤ 900 := by
  have hy := openB_bytes bs
  by_cases h : openZ bs = 0
  · by_cases h1 : endK (readC (openB bs)).2 ∧ mayK (readC (openB bs)).1
    · rw [decR_good h hy h1]; exact formK_len h1.2.2.2.2.2
    · rw [decR_bad h hy h1]; decide
  · rw [decR_no h]; decide
/-- A byte of the call's own is counted up. -/
theorem byte_up {u : Int} (h : byteK u) : ∃ y, IntKind.u8.wrap (u + 1) = y ∧ byteK y := ⟨_, rfl, by
  unfold byteK at *
  unfold IntKind.wrap
  simp [IntKind.bits, IntKind.signed]
  omega⟩
theorem bv_set (l : List Int) (k : Nat) (y : Int) : (bv l).set k (.int .u8 y) = bv (l.set k y) := by simp [bv, List.map_set]
theorem set_bytes {l : List Int} {k : Nat} {y : Int} (h : ∀ x ∈ l, byteK x) (hy : byteK y) : ∀ x ∈ l.set k y, byteK x := fun x hx => by
  rcases List.mem_or_eq_of_mem_set hx with h1 | h1
  · exact h x h1
  · rw [h1]; exact hy
theorem own_someB {w : World} {L : List Pc} {a : Option Addr} {m c : Nat} {l : List Int} (H : SL w (.own 5 1 (.slice a m c) m (bv l) :: L)) (h0 : 0 < m) : ∃ g, a = some ⟨g, 0, none⟩ ∧ m ≤ c := by
  have h : OwnK w 0 5 1 (.slice a m c) m (bv l) := H.head
  rcases h.form with ⟨e, h2, _⟩ | ⟨g, cap, e, _, _, hc, _⟩
  · omega
  · cases e
    exact ⟨g, rfl, hc⟩
theorem RdB.left {w : World} {a : Option Addr} {l k : List Int} (h : RdB w a (l ++ k)) : RdB w a l := by
  intro i hi
  obtain ⟨b, o, e, g⟩ := h i (by rw [List.length_append]; omega)
  refine ⟨b, o, e, ?_⟩
  rw [g]
  dsimp only
  rw [List.getD_eq_getElem?_getD, List.getD_eq_getElem?_getD, List.getElem?_append_left hi]
set_option maxRecDepth 100000 in
set_option maxHeartbeats 8000000 in
theorem reads_c (a : Option Addr) (len cap : Nat) (bs : List Int) (x y : Int) (w : World) (hl : bs.length = len) (h2 : ¬ 2000 < (len : Int)) (hcap : len ≤ cap) (hcm : cap ≤ 9223372036854775807) (hn : a = none → cap = 0) (hb : RdB w a bs) (hy : ∀ x ∈ bs, byteK x) :
    Calls Try.prog 3 #[.slice a len cap, .int .i64 x, .int .i64 y] w fun e w' => e = .returned (.bool true) ∧ Kp no w w' := by
  have hl' := Lib.hid hl
  have hb' := Lib.hid hb
  have hy' := Lib.hid hy
  have hcm' := Lib.hid hcm
  have hn' := Lib.hid hn
  have h2' : len ≤ 2000 := by omega
  have H0 := Lib.hid ((SL.start w).empty 5)
  have R0 := Lib.hid (hb.rd.no ((Kp.refl no w).alloc (.cells #[] 5)))
  clear hl hb hy hcm hn
  go_enter Try.func3, Try.ntmps3
  go_wp2_with (first
    | (at_builtin
       refine sl_app H0.out rfl _ _ _ rfl elemB _ rfl (.here _ _) (bv bs) rfl (by rw [bv_length, Nat.mul_one]; exact hl'.out) R0.out (bv_one bs) (by simp only [maxLen]; omega) (by omega) hn'.out ?_
       intro v1 w1 H1 hnil1
       rw [Nat.zero_add, List.nil_append] at H1
       have H2 := Lib.hid (H1.alloc [.int .u8 7] 5)
       clear H0 R0 hnil1 H1)
    | (at_builtin
       refine sl_app H2.out rfl _ _ _ rfl elemB _ rfl (.there (.here _ _)) [.int .u8 7] rfl rfl (rd_newK w1 5 [.int .u8 7]) (by simp [Value.oneCell']) (by simp only [maxLen]; omega) (by omega) (fun h => by cases h) ?_
       intro v3 w3 H3 hnil3
       rw [show bv bs ++ [Value.int .u8 7] = bv (bs ++ [7]) from by simp [bv]] at H3
       obtain ⟨oa, oc, rfl, hoc1, hoc2, hoc3, -⟩ := OwnK.slice H3.head
       have hO := Lib.hid (H3.re (.step (.here _ _) (.drop (.same _))))
       have hoa : Hid (oa = none → False) := Lib.hid fun h => by have := hoc3 h; omega
       clear H2 hnil3 H3 hoc3))
  have hrO : Hid (∀ V A, SL V (A ++ [.own 5 1 (.slice oa (len + 1) oc) (len + 1) (bv (bs ++ [7])), .old w no]) → RdB V oa bs ∧ RdB V a bs) := Lib.hid fun V A h => by
    have h2 := h.perm List.perm_append_comm
    refine ⟨(own_rdB h2 (.here _ _) (by rw [List.length_append, hl'.out]; rfl)).left, hb'.out.no (h2.kp (.there (.here _ _)))⟩
  have hoc3 : oc ≤ 9223372036854775807 := hoc2
  have hd1 := Lib.hid (dec_c hO.out hl'.out (by omega) (by omega) hoc3 (hrO.out _ [] hO.out).1 hy'.out)
  have hd2 := Lib.hid (fun V L h1 h2 => rdec_c (a := a) (w := V) (L := L) h1 hl'.out (by omega) hcap hcm'.out h2 hy'.out)
  have hd3 := Lib.hid (fun V L h1 h2 => for_c (a := oa) (w := V) (L := L) (c := oc) x y h1 hl'.out (by omega) (by omega) hoc3 h2 hy'.out)
  obtain ⟨R, hR⟩ : ∃ R, decR bs = R := ⟨_, rfl⟩
  have hF : Hid (forR bs x y = if R.2 = 0 ∧ ¬ (R.1.fr = x ∧ R.1.dst = y) then (Gm0, 180) else R) := Lib.hid (by unfold forR; rw [hR])
  unfold DecPost at hd1 hd2
  rw [hR] at hd1 hd2
  have hdy := Lib.hid (decR_bytes (bs := bs))
  have hdl := Lib.hid (decR_len (bs := bs))
  rw [hR] at hdy hdl
  clear hR hoc2 hoc3
  obtain ⟨⟨kind, fr, dst, nn, by1, seq, ack, mask, data⟩, E⟩ := R
  unfold gmV at hd1 hd2
  dsimp only at hd1 hd2 hF hdy hdl
  refine hd1.out.mono ?_
  rintro e w4 ⟨ga, gc, rfl, H4⟩
  clear hd1 hO
  have H5 := Lib.hid (H4.alloc [.int .i64 fr, .int .i64 dst, .int .i64 kind, .int .u64 nn, .int .i64 by1, .int .u64 seq, .int .u64 ack, .int .u64 mask, .slice ga data.length gc] 25)
  clear H4
  go_wp2_with fail
  generalize w4.alloc (.cells [Value.int .i64 fr, .int .i64 dst, .int .i64 kind, .int .u64 nn, .int .i64 by1, .int .u64 seq, .int .u64 ack, .int .u64 mask, .slice ga data.length gc].toArray 25) = w5 at *
  generalize w4.heap.size = b8 at *
  have hd2' := Lib.hid (hd2.out w5 _ H5.out (hrO.out _ [_, _] H5.out).2)
  clear hd2 H5
  refine hd2'.out.mono ?_
  rintro e w6 ⟨qa, qc, rfl, H6⟩
  clear hd2'
  have H7 := Lib.hid (H6.alloc [.int .i64 fr, .int .i64 dst, .int .i64 kind, .int .u64 nn, .int .i64 by1, .int .u64 seq, .int .u64 ack, .int .u64 mask, .slice qa data.length qc] 25)
  clear H6
  go_wp2_with fail
  generalize w6.alloc (.cells [Value.int .i64 fr, .int .i64 dst, .int .i64 kind, .int .u64 nn, .int .i64 by1, .int .u64 seq, .int .u64 ack, .int .u64 mask, .slice qa data.length qc].toArray 25) = w7 at *
  generalize w6.heap.size = b10 at *
  have hd3' := Lib.hid (hd3.out w7 _ H7.out (hrO.out _ [_, _, _, _] H7.out).1)
  clear hd3
  by_cases hE : E = 0
  · by_cases hf : fr = x
    · by_cases ht : dst = y
      · have hci := Lib.hid (show ¬ (E = 0 ∧ ¬ (fr = x ∧ dst = y)) from fun h => h.2 ⟨hf, ht⟩)
        have b0 : (E == 0) = true := by simpa using hE
        have b1 : (fr != x) = false := by simpa using hf
        have b2 : (dst != y) = false := by simpa using ht
        clear hE hf ht
        rw [if_neg hci.out] at hF
        have hd4 := hd3'
        unfold ForPost at hd4
        rw [hF.out] at hd4
        unfold gmV at hd4
        dsimp only at hd4
        clear hF hd3'
        refine hd4.out.mono ?_
        rintro e w8 ⟨xa, xc, rfl, H8⟩
        clear hd4
        have H9 := Lib.hid (H8.alloc [.int .i64 fr, .int .i64 dst, .int .i64 kind, .int .u64 nn, .int .i64 by1, .int .u64 seq, .int .u64 ack, .int .u64 mask, .slice xa data.length xc] 25)
        clear H8 H7
        go_upto_region 7 with (fail)
        generalize w8.alloc (.cells [Value.int .i64 fr, .int .i64 dst, .int .i64 kind, .int .u64 nn, .int .i64 by1, .int .u64 seq, .int .u64 ack, .int .u64 mask, .slice xa data.length xc].toArray 25) = w9 at *
        generalize w8.heap.size = b12 at *
        have p0 := H9.out.cell (b := b8) (o := 0) (.there (.there (.there (.there (.here _ _))))) rfl
        have p1 := H9.out.cell (b := b8) (o := 1) (.there (.there (.there (.there (.here _ _))))) rfl
        have p2 := H9.out.cell (b := b8) (o := 2) (.there (.there (.there (.there (.here _ _))))) rfl
        have p3 := H9.out.cell (b := b8) (o := 3) (.there (.there (.there (.there (.here _ _))))) rfl
        have p4 := H9.out.cell (b := b8) (o := 4) (.there (.there (.there (.there (.here _ _))))) rfl
        have p5 := H9.out.cell (b := b8) (o := 5) (.there (.there (.there (.there (.here _ _))))) rfl
        have p6 := H9.out.cell (b := b8) (o := 6) (.there (.there (.there (.there (.here _ _))))) rfl
        have p7 := H9.out.cell (b := b8) (o := 7) (.there (.there (.there (.there (.here _ _))))) rfl
        have p8 := H9.out.cell (b := b8) (o := 8) (.there (.there (.there (.there (.here _ _))))) rfl
        have q0 := H9.out.cell (b := b10) (o := 0) (.there (.there (.here _ _))) rfl
        have q1 := H9.out.cell (b := b10) (o := 1) (.there (.there (.here _ _))) rfl
        have q2 := H9.out.cell (b := b10) (o := 2) (.there (.there (.here _ _))) rfl
        have q3 := H9.out.cell (b := b10) (o := 3) (.there (.there (.here _ _))) rfl
        have q4 := H9.out.cell (b := b10) (o := 4) (.there (.there (.here _ _))) rfl
        have q5 := H9.out.cell (b := b10) (o := 5) (.there (.there (.here _ _))) rfl
        have q6 := H9.out.cell (b := b10) (o := 6) (.there (.there (.here _ _))) rfl
        have q7 := H9.out.cell (b := b10) (o := 7) (.there (.there (.here _ _))) rfl
        have q8 := H9.out.cell (b := b10) (o := 8) (.there (.there (.here _ _))) rfl
        have hs := Lib.hid (rsame_c ⟨kind, fr, dst, nn, by1, seq, ack, mask, data⟩ ⟨kind, fr, dst, nn, by1, seq, ack, mask, data⟩ ga qa gc qc H9.out hdy.out hdy.out (fun V hV => own_rdB hV (.there (.there (.there (.there (.there (.here _ _)))))) rfl) (fun V hV => own_rdB hV (.there (.there (.there (.here _ _)))) rfl) true (decide_eq_true rfl))
        unfold gmV at hs
        dsimp only at hs
        clear H9
        go_wp2_with fail
        refine hs.out.mono ?_
        rintro e wA ⟨rfl, HA⟩
        clear hs p0 p1 p2 p3 p4 p5 p6 p7 p8 q0 q1 q2 q3 q4 q5 q6 q7 q8
        have HA' := Lib.hid HA
        have q0 := HA.cell (b := b10) (o := 0) (.there (.there (.here _ _))) rfl
        have q1 := HA.cell (b := b10) (o := 1) (.there (.there (.here _ _))) rfl
        have q2 := HA.cell (b := b10) (o := 2) (.there (.there (.here _ _))) rfl
        have q3 := HA.cell (b := b10) (o := 3) (.there (.there (.here _ _))) rfl
        have q4 := HA.cell (b := b10) (o := 4) (.there (.there (.here _ _))) rfl
        have q5 := HA.cell (b := b10) (o := 5) (.there (.there (.here _ _))) rfl
        have q6 := HA.cell (b := b10) (o := 6) (.there (.there (.here _ _))) rfl
        have q7 := HA.cell (b := b10) (o := 7) (.there (.there (.here _ _))) rfl
        have q8 := HA.cell (b := b10) (o := 8) (.there (.there (.here _ _))) rfl
        have p0 := HA.cell (b := b12) (o := 0) (.here _ _) rfl
        have p1 := HA.cell (b := b12) (o := 1) (.here _ _) rfl
        have p2 := HA.cell (b := b12) (o := 2) (.here _ _) rfl
        have p3 := HA.cell (b := b12) (o := 3) (.here _ _) rfl
        have p4 := HA.cell (b := b12) (o := 4) (.here _ _) rfl
        have p5 := HA.cell (b := b12) (o := 5) (.here _ _) rfl
        have p6 := HA.cell (b := b12) (o := 6) (.here _ _) rfl
        have p7 := HA.cell (b := b12) (o := 7) (.here _ _) rfl
        have p8 := HA.cell (b := b12) (o := 8) (.here _ _) rfl
        have hs := Lib.hid (rsame_c ⟨kind, fr, dst, nn, by1, seq, ack, mask, data⟩ ⟨kind, fr, dst, nn, by1, seq, ack, mask, data⟩ xa qa xc qc HA'.out hdy.out hdy.out (fun V hV => own_rdB hV (.there (.here _ _)) rfl) (fun V hV => own_rdB hV (.there (.there (.there (.here _ _)))) rfl) true (decide_eq_true rfl))
        unfold gmV at hs
        dsimp only at hs
        clear HA HA'
        go_wp2_with fail
        refine hs.out.mono ?_
        rintro e wB ⟨rfl, HB⟩
        clear hs p0 p1 p2 p3 p4 p5 p6 p7 p8 q0 q1 q2 q3 q4 q5 q6 q7 q8
        have HC := Lib.hid (HB.re (.step (.there (.there (.there (.there (.there (.here _ _)))))) (.step (.there (.here _ _)) (.step (.there (.there (.there (.here _ _)))) (.step (.here _ _) (.drop (.drop (.same _))))))))
        clear HB
        obtain ⟨n, hn⟩ : ∃ n, data.length = n := ⟨_, rfl⟩
        have hn1 := Lib.hid hn
        rw [hn] at HC
        have hn9 : n ≤ 900 := by rw [← hn]; exact hdl.out
        clear hn
        have g8 := HC.out.cell (b := b8) (o := 8) (.there (.there (.here _ _))) rfl
        have htr : Hid (0 < n → True) := Lib.hid fun _ => trivial
        clear htr
        go_wp2_with fail
        clear g8
        go_loopw [83] (fun i V => ∃ (k : Nat) (l : List Int), k ≤ n ∧ i = .int .i64 k ∧ l.length = n ∧ Hid (∀ x ∈ l, byteK x) ∧ SL V (.own 5 1 (.slice ga n gc) n (bv l) :: .own 5 1 (.slice xa n xc) n (bv data) :: .blk b8 [.int .i64 fr, .int .i64 dst, .int .i64 kind, .int .u64 nn, .int .i64 by1, .int .u64 seq, .int .u64 ack, .int .u64 mask, .slice ga n gc] 25 :: .blk b12 [.int .i64 fr, .int .i64 dst, .int .i64 kind, .int .u64 nn, .int .i64 by1, .int .u64 seq, .int .u64 ack, .int .u64 mask, .slice xa n xc] 25 :: .own 5 1 (.slice oa (len + 1) oc) (len + 1) (bv (bs ++ [7])) :: .old w no :: [])) (fun i _ => n - (intOf i).toNat)
        case atStart => exact ⟨0, data, by omega, rfl, hn1.out, hdy, HC.out⟩
        case round =>
          clear HC
          obtain ⟨k, l, hk, rfl, hll, hlb, H⟩ := hrel
          have g8 := H.cell (b := b8) (o := 8) (.there (.there (.here _ _))) rfl
          by_cases hkn : k < n
          · obtain ⟨g, rfl, hcc⟩ := own_someB H (by omega)
            have hkl : k < l.length := by omega
            obtain ⟨u, hu⟩ : ∃ u, l[k]'hkl = u := ⟨_, rfl⟩
            have hbu : byteK u := by rw [← hu]; exact hlb.out _ (List.getElem_mem hkl)
            obtain ⟨yv, hyv, hyb⟩ := byte_up hbu
            have gk : wr.cell? ⟨g, k, none⟩ = some (.int .u8 u) := by
              have h : OwnK wr 0 5 1 (.slice (some ⟨g, 0, none⟩) n gc) n (bv l) := H.head
              rcases h.form with ⟨e, _⟩ | ⟨g', cap, e, _, _, _, _, _, h7, _⟩
              · cases e
              · cases e
                rw [h7 k (by omega)]
                simp [bv, List.getD_eq_getElem?_getD, hkl, hu]
            have gf : wr.frozen? ⟨g, k, none⟩ = false := by
              have h : OwnK wr 0 5 1 (.slice (some ⟨g, 0, none⟩) n gc) n (bv l) := H.head
              rcases h.form with ⟨e, _⟩ | ⟨g', cap, e, _, _, _, _, _, _, h8⟩
              · cases e
              · cases e; exact h8 k
            have hk0 : 0 ≤ (k : Int) := by omega
            have hk1 : (k : Int) < (n : Int) := by omega
            have HN := Lib.hid (own_store H.drew k (.int .u8 yv))
            rw [bv_set] at HN
            have hlen2 : (l.set k yv).length = n := by rw [List.length_set]; exact hll
            have hby2 := Lib.hid (set_bytes (k := k) hlb.out hyb)
            have hll' := Lib.hid hll
            have hyv' := Lib.hid hyv
            have hlen2' := Lib.hid hlen2
            have hu1 := hbu.1
            have hu2 := hbu.2
            clear H hlb hu hll hlen2 hyb hbu hkl
            go_wp2_with fail
            go_still_tail 10, (by kernel_rfl)
            change wpList _ _ _ _ _ wr.drew
            clear hyv
            go_wp2_with fail
            go_roundw
            case rel => exact ⟨k + 1, l.set k yv, by omega, by go_num, hlen2'.out, hby2, HN.out⟩
            case measure => (simp [intOf]; try omega)
          · obtain rfl : n = k := by omega
            have HC := Lib.hid H
            clear H hlb hll
            have HC := Lib.hid (HC.out.re (.step (.there (.here _ _)) (.drop (.same _))))
            clear g8
            have g8 := HC.out.cell (b := b12) (o := 8) (.there (.there (.here _ _))) rfl
            go_wp2_with fail
            clear g8
            go_loopw [100] (fun i V => ∃ (k : Nat) (l : List Int), k ≤ n ∧ i = .int .i64 k ∧ l.length = n ∧ Hid (∀ x ∈ l, byteK x) ∧ SL V (.own 5 1 (.slice xa n xc) n (bv l) :: .blk b8 [.int .i64 fr, .int .i64 dst, .int .i64 kind, .int .u64 nn, .int .i64 by1, .int .u64 seq, .int .u64 ack, .int .u64 mask, .slice ga n gc] 25 :: .blk b12 [.int .i64 fr, .int .i64 dst, .int .i64 kind, .int .u64 nn, .int .i64 by1, .int .u64 seq, .int .u64 ack, .int .u64 mask, .slice xa n xc] 25 :: .own 5 1 (.slice oa (len + 1) oc) (len + 1) (bv (bs ++ [7])) :: .old w no :: [])) (fun i _ => n - (intOf i).toNat)
            case atStart => exact ⟨0, data, by omega, rfl, hn1.out, hdy, HC.out⟩
            case round =>
              clear HC
              obtain ⟨k, l, hk, rfl, hll, hlb, H⟩ := hrel
              have g8 := H.cell (b := b12) (o := 8) (.there (.there (.here _ _))) rfl
              by_cases hkn : k < n
              · obtain ⟨g, rfl, hcc⟩ := own_someB H (by omega)
                have hkl : k < l.length := by omega
                obtain ⟨u, hu⟩ : ∃ u, l[k]'hkl = u := ⟨_, rfl⟩
                have hbu : byteK u := by rw [← hu]; exact hlb.out _ (List.getElem_mem hkl)
                obtain ⟨yv, hyv, hyb⟩ := byte_up hbu
                have gk : wr.cell? ⟨g, k, none⟩ = some (.int .u8 u) := by
                  have h : OwnK wr 0 5 1 (.slice (some ⟨g, 0, none⟩) n xc) n (bv l) := H.head
                  rcases h.form with ⟨e, _⟩ | ⟨g', cap, e, _, _, _, _, _, h7, _⟩
                  · cases e
                  · cases e
                    rw [h7 k (by omega)]
                    simp [bv, List.getD_eq_getElem?_getD, hkl, hu]
                have gf : wr.frozen? ⟨g, k, none⟩ = false := by
                  have h : OwnK wr 0 5 1 (.slice (some ⟨g, 0, none⟩) n xc) n (bv l) := H.head
                  rcases h.form with ⟨e, _⟩ | ⟨g', cap, e, _, _, _, _, _, _, h8⟩
                  · cases e
                  · cases e; exact h8 k
                have hk0 : 0 ≤ (k : Int) := by omega
                have hk1 : (k : Int) < (n : Int) := by omega
                have HN := Lib.hid (own_store H.drew k (.int .u8 yv))
                rw [bv_set] at HN
                have hlen2 : (l.set k yv).length = n := by rw [List.length_set]; exact hll
                have hby2 := Lib.hid (set_bytes (k := k) hlb.out hyb)
                have hll' := Lib.hid hll
                have hyv' := Lib.hid hyv
                have hlen2' := Lib.hid hlen2
                have hu1 := hbu.1
                have hu2 := hbu.2
                clear H hlb hu hll hlen2 hyb hbu hkl
                go_wp2_with fail
                go_still_tail 10, (by kernel_rfl)
                change wpList _ _ _ _ _ wr.drew
                clear hyv
                go_wp2_with fail
                go_roundw
                case rel => exact ⟨k + 1, l.set k yv, by omega, by go_num, hlen2'.out, hby2, HN.out⟩
                case measure => (simp [intOf]; try omega)
              · obtain rfl : n = k := by omega
                have HC := Lib.hid H
                clear H hlb hll
                have hs1 := run_strK (w := wr) (c := oc) (show (bs ++ [7]).length = len + 1 by rw [List.length_append, hl'.out]; rfl) (own_rdB HC.out (.there (.there (.there (.here _ _)))) (by rw [List.length_append, hl'.out]; rfl)) (fun x hx => by
                  rcases List.mem_append.1 hx with h | h
                  · exact hy'.out x h
                  · rw [List.mem_singleton.1 h]; unfold byteK; omega)
                have hs2 := run_strK (w := wr) (c := cap) hl'.out (hrO.out _ [_, _, _] HC.out).2 hy'.out
                have hcat : strK bs ++ ⟨#[7]⟩ = strK (bs ++ [7]) := by
                  unfold strK
                  rw [show toB (bs ++ [7]) = toB bs ++ [7#8] from by simp [toB], Crc.strB_append]
                  rfl
                have hsz : (strK bs).size ≤ 2000 := by have := hl'.out; simp [strK, Crc.strB, ByteArray.size, toB_length]; omega
                have hkp := Lib.hid (HC.out.kp (.there (.there (.there (.there (.here _ _))))))
                clear HC g8
                go_wp2_with fail
                go_ret
                exact ⟨rfl, hkp.out⟩
      · have hci := Lib.hid (show E = 0 ∧ ¬ (fr = x ∧ dst = y) from ⟨hE, fun h => ht h.2⟩)
        have b0 : (E == 0) = true := by simpa using hE
        have b1 : (fr != x) = false := by simpa using hf
        have b2 : (dst != y) = true := by simpa using ht
        clear hE hf ht
        rw [if_pos hci.out] at hF
        have hd4 := hd3'
        unfold ForPost at hd4
        rw [hF.out] at hd4
        unfold gmV at hd4
        unfold Gm0 at hd4
        dsimp only at hd4
        clear hF hd3'
        rw [show ([] : List Int).length = 0 from rfl, show bv [] = [] from rfl] at hd4
        refine hd4.out.mono ?_
        rintro e w8 ⟨xa, xc, rfl, H8⟩
        clear hd4
        have H9 := Lib.hid (H8.alloc [.int .i64 0, .int .i64 0, .int .i64 0, .int .u64 0, .int .i64 0, .int .u64 0, .int .u64 0, .int .u64 0, .slice xa 0 xc] 25)
        clear H8 H7
        go_upto_region 7 with (fail)
        generalize w8.alloc (.cells [Value.int .i64 0, .int .i64 0, .int .i64 0, .int .u64 0, .int .i64 0, .int .u64 0, .int .u64 0, .int .u64 0, .slice xa 0 xc].toArray 25) = w9 at *
        generalize w8.heap.size = b12 at *
        have p0 := H9.out.cell (b := b8) (o := 0) (.there (.there (.there (.there (.here _ _))))) rfl
        have p1 := H9.out.cell (b := b8) (o := 1) (.there (.there (.there (.there (.here _ _))))) rfl
        have p2 := H9.out.cell (b := b8) (o := 2) (.there (.there (.there (.there (.here _ _))))) rfl
        have p3 := H9.out.cell (b := b8) (o := 3) (.there (.there (.there (.there (.here _ _))))) rfl
        have p4 := H9.out.cell (b := b8) (o := 4) (.there (.there (.there (.there (.here _ _))))) rfl
        have p5 := H9.out.cell (b := b8) (o := 5) (.there (.there (.there (.there (.here _ _))))) rfl
        have p6 := H9.out.cell (b := b8) (o := 6) (.there (.there (.there (.there (.here _ _))))) rfl
        have p7 := H9.out.cell (b := b8) (o := 7) (.there (.there (.there (.there (.here _ _))))) rfl
        have p8 := H9.out.cell (b := b8) (o := 8) (.there (.there (.there (.there (.here _ _))))) rfl
        have q0 := H9.out.cell (b := b10) (o := 0) (.there (.there (.here _ _))) rfl
        have q1 := H9.out.cell (b := b10) (o := 1) (.there (.there (.here _ _))) rfl
        have q2 := H9.out.cell (b := b10) (o := 2) (.there (.there (.here _ _))) rfl
        have q3 := H9.out.cell (b := b10) (o := 3) (.there (.there (.here _ _))) rfl
        have q4 := H9.out.cell (b := b10) (o := 4) (.there (.there (.here _ _))) rfl
        have q5 := H9.out.cell (b := b10) (o := 5) (.there (.there (.here _ _))) rfl
        have q6 := H9.out.cell (b := b10) (o := 6) (.there (.there (.here _ _))) rfl
        have q7 := H9.out.cell (b := b10) (o := 7) (.there (.there (.here _ _))) rfl
        have q8 := H9.out.cell (b := b10) (o := 8) (.there (.there (.here _ _))) rfl
        have hs := Lib.hid (rsame_c ⟨kind, fr, dst, nn, by1, seq, ack, mask, data⟩ ⟨kind, fr, dst, nn, by1, seq, ack, mask, data⟩ ga qa gc qc H9.out hdy.out hdy.out (fun V hV => own_rdB hV (.there (.there (.there (.there (.there (.here _ _)))))) rfl) (fun V hV => own_rdB hV (.there (.there (.there (.here _ _)))) rfl) true (decide_eq_true rfl))
        unfold gmV at hs
        dsimp only at hs
        clear H9
        go_wp2_with fail
        refine hs.out.mono ?_
        rintro e wA ⟨rfl, HA⟩
        clear hs p0 p1 p2 p3 p4 p5 p6 p7 p8 q0 q1 q2 q3 q4 q5 q6 q7 q8
        have HA' := Lib.hid HA
        have q0 := HA.cell (b := b10) (o := 0) (.there (.there (.here _ _))) rfl
        have q1 := HA.cell (b := b10) (o := 1) (.there (.there (.here _ _))) rfl
        have q2 := HA.cell (b := b10) (o := 2) (.there (.there (.here _ _))) rfl
        have q3 := HA.cell (b := b10) (o := 3) (.there (.there (.here _ _))) rfl
        have q4 := HA.cell (b := b10) (o := 4) (.there (.there (.here _ _))) rfl
        have q5 := HA.cell (b := b10) (o := 5) (.there (.there (.here _ _))) rfl
        have q6 := HA.cell (b := b10) (o := 6) (.there (.there (.here _ _))) rfl
        have q7 := HA.cell (b := b10) (o := 7) (.there (.there (.here _ _))) rfl
        have q8 := HA.cell (b := b10) (o := 8) (.there (.there (.here _ _))) rfl
        have p0 := HA.cell (b := b12) (o := 0) (.here _ _) rfl
        have p1 := HA.cell (b := b12) (o := 1) (.here _ _) rfl
        have p2 := HA.cell (b := b12) (o := 2) (.here _ _) rfl
        have p3 := HA.cell (b := b12) (o := 3) (.here _ _) rfl
        have p4 := HA.cell (b := b12) (o := 4) (.here _ _) rfl
        have p5 := HA.cell (b := b12) (o := 5) (.here _ _) rfl
        have p6 := HA.cell (b := b12) (o := 6) (.here _ _) rfl
        have p7 := HA.cell (b := b12) (o := 7) (.here _ _) rfl
        have p8 := HA.cell (b := b12) (o := 8) (.here _ _) rfl
        have f0 := HA.free (b := b10) (.there (.there (.here _ _))) 0
        have f1 := HA.free (b := b10) (.there (.there (.here _ _))) 1
        have f2 := HA.free (b := b10) (.there (.there (.here _ _))) 2
        have f3 := HA.free (b := b10) (.there (.there (.here _ _))) 3
        have f4 := HA.free (b := b10) (.there (.there (.here _ _))) 4
        have f5 := HA.free (b := b10) (.there (.there (.here _ _))) 5
        have f6 := HA.free (b := b10) (.there (.there (.here _ _))) 6
        have f7 := HA.free (b := b10) (.there (.there (.here _ _))) 7
        have f8 := HA.free (b := b10) (.there (.there (.here _ _))) 8
        have HB := Lib.hid (((HA.re (.step (.there (.there (.here _ _))) (.same _))).set9 (.int .i64 0) (.int .i64 0) (.int .i64 0) (.int .u64 0) (.int .i64 0) (.int .u64 0) (.int .u64 0) (.int .u64 0) (.slice none 0 0)).re (.step (.there (.here _ _)) (.same _)))
        clear HA HA'
        go_upto_region 12 with (fail)
        generalize (((((((((wA.setCell ⟨b10, 0, none⟩ (.int .i64 0)).setCell ⟨b10, 1, none⟩ (.int .i64 0)).setCell ⟨b10, 2, none⟩ (.int .i64 0)).setCell ⟨b10, 3, none⟩ (.int .u64 0)).setCell ⟨b10, 4, none⟩ (.int .i64 0)).setCell ⟨b10, 5, none⟩ (.int .u64 0)).setCell ⟨b10, 6, none⟩ (.int .u64 0)).setCell ⟨b10, 7, none⟩ (.int .u64 0)).setCell ⟨b10, 8, none⟩ (.slice none 0 0)) = wZ at *
        clear p0 p1 p2 p3 p4 p5 p6 p7 p8 q0 q1 q2 q3 q4 q5 q6 q7 q8 f0 f1 f2 f3 f4 f5 f6 f7 f8
        have q0 := HB.out.cell (b := b10) (o := 0) (.there (.here _ _)) rfl
        have q1 := HB.out.cell (b := b10) (o := 1) (.there (.here _ _)) rfl
        have q2 := HB.out.cell (b := b10) (o := 2) (.there (.here _ _)) rfl
        have q3 := HB.out.cell (b := b10) (o := 3) (.there (.here _ _)) rfl
        have q4 := HB.out.cell (b := b10) (o := 4) (.there (.here _ _)) rfl
        have q5 := HB.out.cell (b := b10) (o := 5) (.there (.here _ _)) rfl
        have q6 := HB.out.cell (b := b10) (o := 6) (.there (.here _ _)) rfl
        have q7 := HB.out.cell (b := b10) (o := 7) (.there (.here _ _)) rfl
        have q8 := HB.out.cell (b := b10) (o := 8) (.there (.here _ _)) rfl
        have p0 := HB.out.cell (b := b12) (o := 0) (.here _ _) rfl
        have p1 := HB.out.cell (b := b12) (o := 1) (.here _ _) rfl
        have p2 := HB.out.cell (b := b12) (o := 2) (.here _ _) rfl
        have p3 := HB.out.cell (b := b12) (o := 3) (.here _ _) rfl
        have p4 := HB.out.cell (b := b12) (o := 4) (.here _ _) rfl
        have p5 := HB.out.cell (b := b12) (o := 5) (.here _ _) rfl
        have p6 := HB.out.cell (b := b12) (o := 6) (.here _ _) rfl
        have p7 := HB.out.cell (b := b12) (o := 7) (.here _ _) rfl
        have p8 := HB.out.cell (b := b12) (o := 8) (.here _ _) rfl
        have hs := Lib.hid (rsame_c Gm0 Gm0 xa none xc 0 HB.out (fun x hx => by cases hx) (fun x hx => by cases hx) (fun V hV i hi => by cases hi) (fun V hV i hi => by cases hi) true (decide_eq_true rfl))
        unfold gmV Gm0 at hs
        dsimp only at hs
        rw [show ([] : List Int).length = 0 from rfl] at hs
        clear HB
        go_wp2_with fail
        refine hs.out.mono ?_
        rintro e wB ⟨rfl, HB⟩
        clear hs p0 p1 p2 p3 p4 p5 p6 p7 p8 q0 q1 q2 q3 q4 q5 q6 q7 q8
        have HC := Lib.hid (HB.re (.step (.there (.there (.there (.there (.there (.here _ _)))))) (.step (.there (.there (.here _ _))) (.step (.there (.there (.there (.here _ _)))) (.step (.here _ _) (.drop (.drop (.same _))))))))
        clear HB
        obtain ⟨n, hn⟩ : ∃ n, data.length = n := ⟨_, rfl⟩
        have hn1 := Lib.hid hn
        rw [hn] at HC
        have hn9 : n ≤ 900 := by rw [← hn]; exact hdl.out
        clear hn
        have g8 := HC.out.cell (b := b8) (o := 8) (.there (.there (.here _ _))) rfl
        have htr : Hid (0 < n → True) := Lib.hid fun _ => trivial
        clear htr
        go_wp2_with fail
        clear g8
        go_loopw [83] (fun i V => ∃ (k : Nat) (l : List Int), k ≤ n ∧ i = .int .i64 k ∧ l.length = n ∧ Hid (∀ x ∈ l, byteK x) ∧ SL V (.own 5 1 (.slice ga n gc) n (bv l) :: .own 5 1 (.slice xa 0 xc) 0 (bv []) :: .blk b8 [.int .i64 fr, .int .i64 dst, .int .i64 kind, .int .u64 nn, .int .i64 by1, .int .u64 seq, .int .u64 ack, .int .u64 mask, .slice ga n gc] 25 :: .blk b12 [.int .i64 0, .int .i64 0, .int .i64 0, .int .u64 0, .int .i64 0, .int .u64 0, .int .u64 0, .int .u64 0, .slice xa 0 xc] 25 :: .own 5 1 (.slice oa (len + 1) oc) (len + 1) (bv (bs ++ [7])) :: .old w no :: [])) (fun i _ => n - (intOf i).toNat)
        case atStart => exact ⟨0, data, by omega, rfl, hn1.out, hdy, HC.out⟩
        case round =>
          clear HC
          obtain ⟨k, l, hk, rfl, hll, hlb, H⟩ := hrel
          have g8 := H.cell (b := b8) (o := 8) (.there (.there (.here _ _))) rfl
          by_cases hkn : k < n
          · obtain ⟨g, rfl, hcc⟩ := own_someB H (by omega)
            have hkl : k < l.length := by omega
            obtain ⟨u, hu⟩ : ∃ u, l[k]'hkl = u := ⟨_, rfl⟩
            have hbu : byteK u := by rw [← hu]; exact hlb.out _ (List.getElem_mem hkl)
            obtain ⟨yv, hyv, hyb⟩ := byte_up hbu
            have gk : wr.cell? ⟨g, k, none⟩ = some (.int .u8 u) := by
              have h : OwnK wr 0 5 1 (.slice (some ⟨g, 0, none⟩) n gc) n (bv l) := H.head
              rcases h.form with ⟨e, _⟩ | ⟨g', cap, e, _, _, _, _, _, h7, _⟩
              · cases e
              · cases e
                rw [h7 k (by omega)]
                simp [bv, List.getD_eq_getElem?_getD, hkl, hu]
            have gf : wr.frozen? ⟨g, k, none⟩ = false := by
              have h : OwnK wr 0 5 1 (.slice (some ⟨g, 0, none⟩) n gc) n (bv l) := H.head
              rcases h.form with ⟨e, _⟩ | ⟨g', cap, e, _, _, _, _, _, _, h8⟩
              · cases e
              · cases e; exact h8 k
            have hk0 : 0 ≤ (k : Int) := by omega
            have hk1 : (k : Int) < (n : Int) := by omega
            have HN := Lib.hid (own_store H.drew k (.int .u8 yv))
            rw [bv_set] at HN
            have hlen2 : (l.set k yv).length = n := by rw [List.length_set]; exact hll
            have hby2 := Lib.hid (set_bytes (k := k) hlb.out hyb)
            have hll' := Lib.hid hll
            have hyv' := Lib.hid hyv
            have hlen2' := Lib.hid hlen2
            have hu1 := hbu.1
            have hu2 := hbu.2
            clear H hlb hu hll hlen2 hyb hbu hkl
            go_wp2_with fail
            go_still_tail 10, (by kernel_rfl)
            change wpList _ _ _ _ _ wr.drew
            clear hyv
            go_wp2_with fail
            go_roundw
            case rel => exact ⟨k + 1, l.set k yv, by omega, by go_num, hlen2'.out, hby2, HN.out⟩
            case measure => (simp [intOf]; try omega)
          · obtain rfl : n = k := by omega
            have HC := Lib.hid H
            clear H hlb hll
            have HC := Lib.hid (HC.out.re (.step (.there (.here _ _)) (.drop (.same _))))
            clear g8
            have g8 := HC.out.cell (b := b12) (o := 8) (.there (.there (.here _ _))) rfl
            go_wp2_with fail
            clear g8
            go_loopw [100] (fun i V => ∃ (k : Nat), k ≤ 0 ∧ i = .int .i64 k ∧ SL V (.own 5 1 (.slice xa 0 xc) 0 (bv []) :: .blk b8 [.int .i64 fr, .int .i64 dst, .int .i64 kind, .int .u64 nn, .int .i64 by1, .int .u64 seq, .int .u64 ack, .int .u64 mask, .slice ga n gc] 25 :: .blk b12 [.int .i64 0, .int .i64 0, .int .i64 0, .int .u64 0, .int .i64 0, .int .u64 0, .int .u64 0, .int .u64 0, .slice xa 0 xc] 25 :: .own 5 1 (.slice oa (len + 1) oc) (len + 1) (bv (bs ++ [7])) :: .old w no :: [])) (fun i _ => 0 - (intOf i).toNat)
            case atStart => exact ⟨0, by omega, rfl, HC.out⟩
            case round =>
              clear HC
              obtain ⟨k, hk, rfl, H⟩ := hrel
              obtain rfl : k = 0 := by omega
              have g8 := H.cell (b := b12) (o := 8) (.there (.there (.here _ _))) rfl
              have HC := Lib.hid H
              clear H
              have hs1 := run_strK (w := wr) (c := oc) (show (bs ++ [7]).length = len + 1 by rw [List.length_append, hl'.out]; rfl) (own_rdB HC.out (.there (.there (.there (.here _ _)))) (by rw [List.length_append, hl'.out]; rfl)) (fun x hx => by
                rcases List.mem_append.1 hx with h | h
                · exact hy'.out x h
                · rw [List.mem_singleton.1 h]; unfold byteK; omega)
              have hs2 := run_strK (w := wr) (c := cap) hl'.out (hrO.out _ [_, _, _] HC.out).2 hy'.out
              have hcat : strK bs ++ ⟨#[7]⟩ = strK (bs ++ [7]) := by
                unfold strK
                rw [show toB (bs ++ [7]) = toB bs ++ [7#8] from by simp [toB], Crc.strB_append]
                rfl
              have hsz : (strK bs).size ≤ 2000 := by have := hl'.out; simp [strK, Crc.strB, ByteArray.size, toB_length]; omega
              have hkp := Lib.hid (HC.out.kp (.there (.there (.there (.there (.here _ _))))))
              clear HC g8
              go_wp2_with fail
              go_ret
              exact ⟨rfl, hkp.out⟩
    · have hci := Lib.hid (show E = 0 ∧ ¬ (fr = x ∧ dst = y) from ⟨hE, fun h => hf h.1⟩)
      have b0 : (E == 0) = true := by simpa using hE
      have b1 : (fr != x) = true := by simpa using hf
      clear hE hf
      rw [if_pos hci.out] at hF
      have hd4 := hd3'
      unfold ForPost at hd4
      rw [hF.out] at hd4
      unfold gmV at hd4
      unfold Gm0 at hd4
      dsimp only at hd4
      clear hF hd3'
      rw [show ([] : List Int).length = 0 from rfl, show bv [] = [] from rfl] at hd4
      refine hd4.out.mono ?_
      rintro e w8 ⟨xa, xc, rfl, H8⟩
      clear hd4
      have H9 := Lib.hid (H8.alloc [.int .i64 0, .int .i64 0, .int .i64 0, .int .u64 0, .int .i64 0, .int .u64 0, .int .u64 0, .int .u64 0, .slice xa 0 xc] 25)
      clear H8 H7
      go_upto_region 7 with (fail)
      generalize w8.alloc (.cells [Value.int .i64 0, .int .i64 0, .int .i64 0, .int .u64 0, .int .i64 0, .int .u64 0, .int .u64 0, .int .u64 0, .slice xa 0 xc].toArray 25) = w9 at *
      generalize w8.heap.size = b12 at *
      have p0 := H9.out.cell (b := b8) (o := 0) (.there (.there (.there (.there (.here _ _))))) rfl
      have p1 := H9.out.cell (b := b8) (o := 1) (.there (.there (.there (.there (.here _ _))))) rfl
      have p2 := H9.out.cell (b := b8) (o := 2) (.there (.there (.there (.there (.here _ _))))) rfl
      have p3 := H9.out.cell (b := b8) (o := 3) (.there (.there (.there (.there (.here _ _))))) rfl
      have p4 := H9.out.cell (b := b8) (o := 4) (.there (.there (.there (.there (.here _ _))))) rfl
      have p5 := H9.out.cell (b := b8) (o := 5) (.there (.there (.there (.there (.here _ _))))) rfl
      have p6 := H9.out.cell (b := b8) (o := 6) (.there (.there (.there (.there (.here _ _))))) rfl
      have p7 := H9.out.cell (b := b8) (o := 7) (.there (.there (.there (.there (.here _ _))))) rfl
      have p8 := H9.out.cell (b := b8) (o := 8) (.there (.there (.there (.there (.here _ _))))) rfl
      have q0 := H9.out.cell (b := b10) (o := 0) (.there (.there (.here _ _))) rfl
      have q1 := H9.out.cell (b := b10) (o := 1) (.there (.there (.here _ _))) rfl
      have q2 := H9.out.cell (b := b10) (o := 2) (.there (.there (.here _ _))) rfl
      have q3 := H9.out.cell (b := b10) (o := 3) (.there (.there (.here _ _))) rfl
      have q4 := H9.out.cell (b := b10) (o := 4) (.there (.there (.here _ _))) rfl
      have q5 := H9.out.cell (b := b10) (o := 5) (.there (.there (.here _ _))) rfl
      have q6 := H9.out.cell (b := b10) (o := 6) (.there (.there (.here _ _))) rfl
      have q7 := H9.out.cell (b := b10) (o := 7) (.there (.there (.here _ _))) rfl
      have q8 := H9.out.cell (b := b10) (o := 8) (.there (.there (.here _ _))) rfl
      have hs := Lib.hid (rsame_c ⟨kind, fr, dst, nn, by1, seq, ack, mask, data⟩ ⟨kind, fr, dst, nn, by1, seq, ack, mask, data⟩ ga qa gc qc H9.out hdy.out hdy.out (fun V hV => own_rdB hV (.there (.there (.there (.there (.there (.here _ _)))))) rfl) (fun V hV => own_rdB hV (.there (.there (.there (.here _ _)))) rfl) true (decide_eq_true rfl))
      unfold gmV at hs
      dsimp only at hs
      clear H9
      go_wp2_with fail
      refine hs.out.mono ?_
      rintro e wA ⟨rfl, HA⟩
      clear hs p0 p1 p2 p3 p4 p5 p6 p7 p8 q0 q1 q2 q3 q4 q5 q6 q7 q8
      have HA' := Lib.hid HA
      have q0 := HA.cell (b := b10) (o := 0) (.there (.there (.here _ _))) rfl
      have q1 := HA.cell (b := b10) (o := 1) (.there (.there (.here _ _))) rfl
      have q2 := HA.cell (b := b10) (o := 2) (.there (.there (.here _ _))) rfl
      have q3 := HA.cell (b := b10) (o := 3) (.there (.there (.here _ _))) rfl
      have q4 := HA.cell (b := b10) (o := 4) (.there (.there (.here _ _))) rfl
      have q5 := HA.cell (b := b10) (o := 5) (.there (.there (.here _ _))) rfl
      have q6 := HA.cell (b := b10) (o := 6) (.there (.there (.here _ _))) rfl
      have q7 := HA.cell (b := b10) (o := 7) (.there (.there (.here _ _))) rfl
      have q8 := HA.cell (b := b10) (o := 8) (.there (.there (.here _ _))) rfl
      have p0 := HA.cell (b := b12) (o := 0) (.here _ _) rfl
      have p1 := HA.cell (b := b12) (o := 1) (.here _ _) rfl
      have p2 := HA.cell (b := b12) (o := 2) (.here _ _) rfl
      have p3 := HA.cell (b := b12) (o := 3) (.here _ _) rfl
      have p4 := HA.cell (b := b12) (o := 4) (.here _ _) rfl
      have p5 := HA.cell (b := b12) (o := 5) (.here _ _) rfl
      have p6 := HA.cell (b := b12) (o := 6) (.here _ _) rfl
      have p7 := HA.cell (b := b12) (o := 7) (.here _ _) rfl
      have p8 := HA.cell (b := b12) (o := 8) (.here _ _) rfl
      have f0 := HA.free (b := b10) (.there (.there (.here _ _))) 0
      have f1 := HA.free (b := b10) (.there (.there (.here _ _))) 1
      have f2 := HA.free (b := b10) (.there (.there (.here _ _))) 2
      have f3 := HA.free (b := b10) (.there (.there (.here _ _))) 3
      have f4 := HA.free (b := b10) (.there (.there (.here _ _))) 4
      have f5 := HA.free (b := b10) (.there (.there (.here _ _))) 5
      have f6 := HA.free (b := b10) (.there (.there (.here _ _))) 6
      have f7 := HA.free (b := b10) (.there (.there (.here _ _))) 7
      have f8 := HA.free (b := b10) (.there (.there (.here _ _))) 8
      have HB := Lib.hid (((HA.re (.step (.there (.there (.here _ _))) (.same _))).set9 (.int .i64 0) (.int .i64 0) (.int .i64 0) (.int .u64 0) (.int .i64 0) (.int .u64 0) (.int .u64 0) (.int .u64 0) (.slice none 0 0)).re (.step (.there (.here _ _)) (.same _)))
      clear HA HA'
      go_upto_region 12 with (fail)
      generalize (((((((((wA.setCell ⟨b10, 0, none⟩ (.int .i64 0)).setCell ⟨b10, 1, none⟩ (.int .i64 0)).setCell ⟨b10, 2, none⟩ (.int .i64 0)).setCell ⟨b10, 3, none⟩ (.int .u64 0)).setCell ⟨b10, 4, none⟩ (.int .i64 0)).setCell ⟨b10, 5, none⟩ (.int .u64 0)).setCell ⟨b10, 6, none⟩ (.int .u64 0)).setCell ⟨b10, 7, none⟩ (.int .u64 0)).setCell ⟨b10, 8, none⟩ (.slice none 0 0)) = wZ at *
      clear p0 p1 p2 p3 p4 p5 p6 p7 p8 q0 q1 q2 q3 q4 q5 q6 q7 q8 f0 f1 f2 f3 f4 f5 f6 f7 f8
      have q0 := HB.out.cell (b := b10) (o := 0) (.there (.here _ _)) rfl
      have q1 := HB.out.cell (b := b10) (o := 1) (.there (.here _ _)) rfl
      have q2 := HB.out.cell (b := b10) (o := 2) (.there (.here _ _)) rfl
      have q3 := HB.out.cell (b := b10) (o := 3) (.there (.here _ _)) rfl
      have q4 := HB.out.cell (b := b10) (o := 4) (.there (.here _ _)) rfl
      have q5 := HB.out.cell (b := b10) (o := 5) (.there (.here _ _)) rfl
      have q6 := HB.out.cell (b := b10) (o := 6) (.there (.here _ _)) rfl
      have q7 := HB.out.cell (b := b10) (o := 7) (.there (.here _ _)) rfl
      have q8 := HB.out.cell (b := b10) (o := 8) (.there (.here _ _)) rfl
      have p0 := HB.out.cell (b := b12) (o := 0) (.here _ _) rfl
      have p1 := HB.out.cell (b := b12) (o := 1) (.here _ _) rfl
      have p2 := HB.out.cell (b := b12) (o := 2) (.here _ _) rfl
      have p3 := HB.out.cell (b := b12) (o := 3) (.here _ _) rfl
      have p4 := HB.out.cell (b := b12) (o := 4) (.here _ _) rfl
      have p5 := HB.out.cell (b := b12) (o := 5) (.here _ _) rfl
      have p6 := HB.out.cell (b := b12) (o := 6) (.here _ _) rfl
      have p7 := HB.out.cell (b := b12) (o := 7) (.here _ _) rfl
      have p8 := HB.out.cell (b := b12) (o := 8) (.here _ _) rfl
      have hs := Lib.hid (rsame_c Gm0 Gm0 xa none xc 0 HB.out (fun x hx => by cases hx) (fun x hx => by cases hx) (fun V hV i hi => by cases hi) (fun V hV i hi => by cases hi) true (decide_eq_true rfl))
      unfold gmV Gm0 at hs
      dsimp only at hs
      rw [show ([] : List Int).length = 0 from rfl] at hs
      clear HB
      go_wp2_with fail
      refine hs.out.mono ?_
      rintro e wB ⟨rfl, HB⟩
      clear hs p0 p1 p2 p3 p4 p5 p6 p7 p8 q0 q1 q2 q3 q4 q5 q6 q7 q8
      have HC := Lib.hid (HB.re (.step (.there (.there (.there (.there (.there (.here _ _)))))) (.step (.there (.there (.here _ _))) (.step (.there (.there (.there (.here _ _)))) (.step (.here _ _) (.drop (.drop (.same _))))))))
      clear HB
      obtain ⟨n, hn⟩ : ∃ n, data.length = n := ⟨_, rfl⟩
      have hn1 := Lib.hid hn
      rw [hn] at HC
      have hn9 : n ≤ 900 := by rw [← hn]; exact hdl.out
      clear hn
      have g8 := HC.out.cell (b := b8) (o := 8) (.there (.there (.here _ _))) rfl
      have htr : Hid (0 < n → True) := Lib.hid fun _ => trivial
      clear htr
      go_wp2_with fail
      clear g8
      go_loopw [83] (fun i V => ∃ (k : Nat) (l : List Int), k ≤ n ∧ i = .int .i64 k ∧ l.length = n ∧ Hid (∀ x ∈ l, byteK x) ∧ SL V (.own 5 1 (.slice ga n gc) n (bv l) :: .own 5 1 (.slice xa 0 xc) 0 (bv []) :: .blk b8 [.int .i64 fr, .int .i64 dst, .int .i64 kind, .int .u64 nn, .int .i64 by1, .int .u64 seq, .int .u64 ack, .int .u64 mask, .slice ga n gc] 25 :: .blk b12 [.int .i64 0, .int .i64 0, .int .i64 0, .int .u64 0, .int .i64 0, .int .u64 0, .int .u64 0, .int .u64 0, .slice xa 0 xc] 25 :: .own 5 1 (.slice oa (len + 1) oc) (len + 1) (bv (bs ++ [7])) :: .old w no :: [])) (fun i _ => n - (intOf i).toNat)
      case atStart => exact ⟨0, data, by omega, rfl, hn1.out, hdy, HC.out⟩
      case round =>
        clear HC
        obtain ⟨k, l, hk, rfl, hll, hlb, H⟩ := hrel
        have g8 := H.cell (b := b8) (o := 8) (.there (.there (.here _ _))) rfl
        by_cases hkn : k < n
        · obtain ⟨g, rfl, hcc⟩ := own_someB H (by omega)
          have hkl : k < l.length := by omega
          obtain ⟨u, hu⟩ : ∃ u, l[k]'hkl = u := ⟨_, rfl⟩
          have hbu : byteK u := by rw [← hu]; exact hlb.out _ (List.getElem_mem hkl)
          obtain ⟨yv, hyv, hyb⟩ := byte_up hbu
          have gk : wr.cell? ⟨g, k, none⟩ = some (.int .u8 u) := by
            have h : OwnK wr 0 5 1 (.slice (some ⟨g, 0, none⟩) n gc) n (bv l) := H.head
            rcases h.form with ⟨e, _⟩ | ⟨g', cap, e, _, _, _, _, _, h7, _⟩
            · cases e
            · cases e
              rw [h7 k (by omega)]
              simp [bv, List.getD_eq_getElem?_getD, hkl, hu]
          have gf : wr.frozen? ⟨g, k, none⟩ = false := by
            have h : OwnK wr 0 5 1 (.slice (some ⟨g, 0, none⟩) n gc) n (bv l) := H.head
            rcases h.form with ⟨e, _⟩ | ⟨g', cap, e, _, _, _, _, _, _, h8⟩
            · cases e
            · cases e; exact h8 k
          have hk0 : 0 ≤ (k : Int) := by omega
          have hk1 : (k : Int) < (n : Int) := by omega
          have HN := Lib.hid (own_store H.drew k (.int .u8 yv))
          rw [bv_set] at HN
          have hlen2 : (l.set k yv).length = n := by rw [List.length_set]; exact hll
          have hby2 := Lib.hid (set_bytes (k := k) hlb.out hyb)
          have hll' := Lib.hid hll
          have hyv' := Lib.hid hyv
          have hlen2' := Lib.hid hlen2
          have hu1 := hbu.1
          have hu2 := hbu.2
          clear H hlb hu hll hlen2 hyb hbu hkl
          go_wp2_with fail
          go_still_tail 10, (by kernel_rfl)
          change wpList _ _ _ _ _ wr.drew
          clear hyv
          go_wp2_with fail
          go_roundw
          case rel => exact ⟨k + 1, l.set k yv, by omega, by go_num, hlen2'.out, hby2, HN.out⟩
          case measure => (simp [intOf]; try omega)
        · obtain rfl : n = k := by omega
          have HC := Lib.hid H
          clear H hlb hll
          have HC := Lib.hid (HC.out.re (.step (.there (.here _ _)) (.drop (.same _))))
          clear g8
          have g8 := HC.out.cell (b := b12) (o := 8) (.there (.there (.here _ _))) rfl
          go_wp2_with fail
          clear g8
          go_loopw [100] (fun i V => ∃ (k : Nat), k ≤ 0 ∧ i = .int .i64 k ∧ SL V (.own 5 1 (.slice xa 0 xc) 0 (bv []) :: .blk b8 [.int .i64 fr, .int .i64 dst, .int .i64 kind, .int .u64 nn, .int .i64 by1, .int .u64 seq, .int .u64 ack, .int .u64 mask, .slice ga n gc] 25 :: .blk b12 [.int .i64 0, .int .i64 0, .int .i64 0, .int .u64 0, .int .i64 0, .int .u64 0, .int .u64 0, .int .u64 0, .slice xa 0 xc] 25 :: .own 5 1 (.slice oa (len + 1) oc) (len + 1) (bv (bs ++ [7])) :: .old w no :: [])) (fun i _ => 0 - (intOf i).toNat)
          case atStart => exact ⟨0, by omega, rfl, HC.out⟩
          case round =>
            clear HC
            obtain ⟨k, hk, rfl, H⟩ := hrel
            obtain rfl : k = 0 := by omega
            have g8 := H.cell (b := b12) (o := 8) (.there (.there (.here _ _))) rfl
            have HC := Lib.hid H
            clear H
            have hs1 := run_strK (w := wr) (c := oc) (show (bs ++ [7]).length = len + 1 by rw [List.length_append, hl'.out]; rfl) (own_rdB HC.out (.there (.there (.there (.here _ _)))) (by rw [List.length_append, hl'.out]; rfl)) (fun x hx => by
              rcases List.mem_append.1 hx with h | h
              · exact hy'.out x h
              · rw [List.mem_singleton.1 h]; unfold byteK; omega)
            have hs2 := run_strK (w := wr) (c := cap) hl'.out (hrO.out _ [_, _, _] HC.out).2 hy'.out
            have hcat : strK bs ++ ⟨#[7]⟩ = strK (bs ++ [7]) := by
              unfold strK
              rw [show toB (bs ++ [7]) = toB bs ++ [7#8] from by simp [toB], Crc.strB_append]
              rfl
            have hsz : (strK bs).size ≤ 2000 := by have := hl'.out; simp [strK, Crc.strB, ByteArray.size, toB_length]; omega
            have hkp := Lib.hid (HC.out.kp (.there (.there (.there (.there (.here _ _))))))
            clear HC g8
            go_wp2_with fail
            go_ret
            exact ⟨rfl, hkp.out⟩
  · have hci := Lib.hid (show ¬ (E = 0 ∧ ¬ (fr = x ∧ dst = y)) from fun h => hE h.1)
    have b0 : (E == 0) = false := by simpa using hE
    clear hE
    rw [if_neg hci.out] at hF
    have hd4 := hd3'
    unfold ForPost at hd4
    rw [hF.out] at hd4
    unfold gmV at hd4
    dsimp only at hd4
    clear hF hd3'
    refine hd4.out.mono ?_
    rintro e w8 ⟨xa, xc, rfl, H8⟩
    clear hd4
    have H9 := Lib.hid (H8.alloc [.int .i64 fr, .int .i64 dst, .int .i64 kind, .int .u64 nn, .int .i64 by1, .int .u64 seq, .int .u64 ack, .int .u64 mask, .slice xa data.length xc] 25)
    clear H8 H7
    go_upto_region 7 with (fail)
    generalize w8.alloc (.cells [Value.int .i64 fr, .int .i64 dst, .int .i64 kind, .int .u64 nn, .int .i64 by1, .int .u64 seq, .int .u64 ack, .int .u64 mask, .slice xa data.length xc].toArray 25) = w9 at *
    generalize w8.heap.size = b12 at *
    have p0 := H9.out.cell (b := b8) (o := 0) (.there (.there (.there (.there (.here _ _))))) rfl
    have p1 := H9.out.cell (b := b8) (o := 1) (.there (.there (.there (.there (.here _ _))))) rfl
    have p2 := H9.out.cell (b := b8) (o := 2) (.there (.there (.there (.there (.here _ _))))) rfl
    have p3 := H9.out.cell (b := b8) (o := 3) (.there (.there (.there (.there (.here _ _))))) rfl
    have p4 := H9.out.cell (b := b8) (o := 4) (.there (.there (.there (.there (.here _ _))))) rfl
    have p5 := H9.out.cell (b := b8) (o := 5) (.there (.there (.there (.there (.here _ _))))) rfl
    have p6 := H9.out.cell (b := b8) (o := 6) (.there (.there (.there (.there (.here _ _))))) rfl
    have p7 := H9.out.cell (b := b8) (o := 7) (.there (.there (.there (.there (.here _ _))))) rfl
    have p8 := H9.out.cell (b := b8) (o := 8) (.there (.there (.there (.there (.here _ _))))) rfl
    have q0 := H9.out.cell (b := b10) (o := 0) (.there (.there (.here _ _))) rfl
    have q1 := H9.out.cell (b := b10) (o := 1) (.there (.there (.here _ _))) rfl
    have q2 := H9.out.cell (b := b10) (o := 2) (.there (.there (.here _ _))) rfl
    have q3 := H9.out.cell (b := b10) (o := 3) (.there (.there (.here _ _))) rfl
    have q4 := H9.out.cell (b := b10) (o := 4) (.there (.there (.here _ _))) rfl
    have q5 := H9.out.cell (b := b10) (o := 5) (.there (.there (.here _ _))) rfl
    have q6 := H9.out.cell (b := b10) (o := 6) (.there (.there (.here _ _))) rfl
    have q7 := H9.out.cell (b := b10) (o := 7) (.there (.there (.here _ _))) rfl
    have q8 := H9.out.cell (b := b10) (o := 8) (.there (.there (.here _ _))) rfl
    have hs := Lib.hid (rsame_c ⟨kind, fr, dst, nn, by1, seq, ack, mask, data⟩ ⟨kind, fr, dst, nn, by1, seq, ack, mask, data⟩ ga qa gc qc H9.out hdy.out hdy.out (fun V hV => own_rdB hV (.there (.there (.there (.there (.there (.here _ _)))))) rfl) (fun V hV => own_rdB hV (.there (.there (.there (.here _ _)))) rfl) true (decide_eq_true rfl))
    unfold gmV at hs
    dsimp only at hs
    clear H9
    go_wp2_with fail
    refine hs.out.mono ?_
    rintro e wA ⟨rfl, HA⟩
    clear hs p0 p1 p2 p3 p4 p5 p6 p7 p8 q0 q1 q2 q3 q4 q5 q6 q7 q8
    have HA' := Lib.hid HA
    have q0 := HA.cell (b := b10) (o := 0) (.there (.there (.here _ _))) rfl
    have q1 := HA.cell (b := b10) (o := 1) (.there (.there (.here _ _))) rfl
    have q2 := HA.cell (b := b10) (o := 2) (.there (.there (.here _ _))) rfl
    have q3 := HA.cell (b := b10) (o := 3) (.there (.there (.here _ _))) rfl
    have q4 := HA.cell (b := b10) (o := 4) (.there (.there (.here _ _))) rfl
    have q5 := HA.cell (b := b10) (o := 5) (.there (.there (.here _ _))) rfl
    have q6 := HA.cell (b := b10) (o := 6) (.there (.there (.here _ _))) rfl
    have q7 := HA.cell (b := b10) (o := 7) (.there (.there (.here _ _))) rfl
    have q8 := HA.cell (b := b10) (o := 8) (.there (.there (.here _ _))) rfl
    have p0 := HA.cell (b := b12) (o := 0) (.here _ _) rfl
    have p1 := HA.cell (b := b12) (o := 1) (.here _ _) rfl
    have p2 := HA.cell (b := b12) (o := 2) (.here _ _) rfl
    have p3 := HA.cell (b := b12) (o := 3) (.here _ _) rfl
    have p4 := HA.cell (b := b12) (o := 4) (.here _ _) rfl
    have p5 := HA.cell (b := b12) (o := 5) (.here _ _) rfl
    have p6 := HA.cell (b := b12) (o := 6) (.here _ _) rfl
    have p7 := HA.cell (b := b12) (o := 7) (.here _ _) rfl
    have p8 := HA.cell (b := b12) (o := 8) (.here _ _) rfl
    have hs := Lib.hid (rsame_c ⟨kind, fr, dst, nn, by1, seq, ack, mask, data⟩ ⟨kind, fr, dst, nn, by1, seq, ack, mask, data⟩ xa qa xc qc HA'.out hdy.out hdy.out (fun V hV => own_rdB hV (.there (.here _ _)) rfl) (fun V hV => own_rdB hV (.there (.there (.there (.here _ _)))) rfl) true (decide_eq_true rfl))
    unfold gmV at hs
    dsimp only at hs
    clear HA HA'
    go_wp2_with fail
    refine hs.out.mono ?_
    rintro e wB ⟨rfl, HB⟩
    clear hs p0 p1 p2 p3 p4 p5 p6 p7 p8 q0 q1 q2 q3 q4 q5 q6 q7 q8
    have HC := Lib.hid (HB.re (.step (.there (.there (.there (.there (.there (.here _ _)))))) (.step (.there (.here _ _)) (.step (.there (.there (.there (.here _ _)))) (.step (.here _ _) (.drop (.drop (.same _))))))))
    clear HB
    obtain ⟨n, hn⟩ : ∃ n, data.length = n := ⟨_, rfl⟩
    have hn1 := Lib.hid hn
    rw [hn] at HC
    have hn9 : n ≤ 900 := by rw [← hn]; exact hdl.out
    clear hn
    have g8 := HC.out.cell (b := b8) (o := 8) (.there (.there (.here _ _))) rfl
    have htr : Hid (0 < n → True) := Lib.hid fun _ => trivial
    clear htr
    go_wp2_with fail
    clear g8
    go_loopw [83] (fun i V => ∃ (k : Nat) (l : List Int), k ≤ n ∧ i = .int .i64 k ∧ l.length = n ∧ Hid (∀ x ∈ l, byteK x) ∧ SL V (.own 5 1 (.slice ga n gc) n (bv l) :: .own 5 1 (.slice xa n xc) n (bv data) :: .blk b8 [.int .i64 fr, .int .i64 dst, .int .i64 kind, .int .u64 nn, .int .i64 by1, .int .u64 seq, .int .u64 ack, .int .u64 mask, .slice ga n gc] 25 :: .blk b12 [.int .i64 fr, .int .i64 dst, .int .i64 kind, .int .u64 nn, .int .i64 by1, .int .u64 seq, .int .u64 ack, .int .u64 mask, .slice xa n xc] 25 :: .own 5 1 (.slice oa (len + 1) oc) (len + 1) (bv (bs ++ [7])) :: .old w no :: [])) (fun i _ => n - (intOf i).toNat)
    case atStart => exact ⟨0, data, by omega, rfl, hn1.out, hdy, HC.out⟩
    case round =>
      clear HC
      obtain ⟨k, l, hk, rfl, hll, hlb, H⟩ := hrel
      have g8 := H.cell (b := b8) (o := 8) (.there (.there (.here _ _))) rfl
      by_cases hkn : k < n
      · obtain ⟨g, rfl, hcc⟩ := own_someB H (by omega)
        have hkl : k < l.length := by omega
        obtain ⟨u, hu⟩ : ∃ u, l[k]'hkl = u := ⟨_, rfl⟩
        have hbu : byteK u := by rw [← hu]; exact hlb.out _ (List.getElem_mem hkl)
        obtain ⟨yv, hyv, hyb⟩ := byte_up hbu
        have gk : wr.cell? ⟨g, k, none⟩ = some (.int .u8 u) := by
          have h : OwnK wr 0 5 1 (.slice (some ⟨g, 0, none⟩) n gc) n (bv l) := H.head
          rcases h.form with ⟨e, _⟩ | ⟨g', cap, e, _, _, _, _, _, h7, _⟩
          · cases e
          · cases e
            rw [h7 k (by omega)]
            simp [bv, List.getD_eq_getElem?_getD, hkl, hu]
        have gf : wr.frozen? ⟨g, k, none⟩ = false := by
          have h : OwnK wr 0 5 1 (.slice (some ⟨g, 0, none⟩) n gc) n (bv l) := H.head
          rcases h.form with ⟨e, _⟩ | ⟨g', cap, e, _, _, _, _, _, _, h8⟩
          · cases e
          · cases e; exact h8 k
        have hk0 : 0 ≤ (k : Int) := by omega
        have hk1 : (k : Int) < (n : Int) := by omega
        have HN := Lib.hid (own_store H.drew k (.int .u8 yv))
        rw [bv_set] at HN
        have hlen2 : (l.set k yv).length = n := by rw [List.length_set]; exact hll
        have hby2 := Lib.hid (set_bytes (k := k) hlb.out hyb)
        have hll' := Lib.hid hll
        have hyv' := Lib.hid hyv
        have hlen2' := Lib.hid hlen2
        have hu1 := hbu.1
        have hu2 := hbu.2
        clear H hlb hu hll hlen2 hyb hbu hkl
        go_wp2_with fail
        go_still_tail 10, (by kernel_rfl)
        change wpList _ _ _ _ _ wr.drew
        clear hyv
        go_wp2_with fail
        go_roundw
        case rel => exact ⟨k + 1, l.set k yv, by omega, by go_num, hlen2'.out, hby2, HN.out⟩
        case measure => (simp [intOf]; try omega)
      · obtain rfl : n = k := by omega
        have HC := Lib.hid H
        clear H hlb hll
        have HC := Lib.hid (HC.out.re (.step (.there (.here _ _)) (.drop (.same _))))
        clear g8
        have g8 := HC.out.cell (b := b12) (o := 8) (.there (.there (.here _ _))) rfl
        go_wp2_with fail
        clear g8
        go_loopw [100] (fun i V => ∃ (k : Nat) (l : List Int), k ≤ n ∧ i = .int .i64 k ∧ l.length = n ∧ Hid (∀ x ∈ l, byteK x) ∧ SL V (.own 5 1 (.slice xa n xc) n (bv l) :: .blk b8 [.int .i64 fr, .int .i64 dst, .int .i64 kind, .int .u64 nn, .int .i64 by1, .int .u64 seq, .int .u64 ack, .int .u64 mask, .slice ga n gc] 25 :: .blk b12 [.int .i64 fr, .int .i64 dst, .int .i64 kind, .int .u64 nn, .int .i64 by1, .int .u64 seq, .int .u64 ack, .int .u64 mask, .slice xa n xc] 25 :: .own 5 1 (.slice oa (len + 1) oc) (len + 1) (bv (bs ++ [7])) :: .old w no :: [])) (fun i _ => n - (intOf i).toNat)
        case atStart => exact ⟨0, data, by omega, rfl, hn1.out, hdy, HC.out⟩
        case round =>
          clear HC
          obtain ⟨k, l, hk, rfl, hll, hlb, H⟩ := hrel
          have g8 := H.cell (b := b12) (o := 8) (.there (.there (.here _ _))) rfl
          by_cases hkn : k < n
          · obtain ⟨g, rfl, hcc⟩ := own_someB H (by omega)
            have hkl : k < l.length := by omega
            obtain ⟨u, hu⟩ : ∃ u, l[k]'hkl = u := ⟨_, rfl⟩
            have hbu : byteK u := by rw [← hu]; exact hlb.out _ (List.getElem_mem hkl)
            obtain ⟨yv, hyv, hyb⟩ := byte_up hbu
            have gk : wr.cell? ⟨g, k, none⟩ = some (.int .u8 u) := by
              have h : OwnK wr 0 5 1 (.slice (some ⟨g, 0, none⟩) n xc) n (bv l) := H.head
              rcases h.form with ⟨e, _⟩ | ⟨g', cap, e, _, _, _, _, _, h7, _⟩
              · cases e
              · cases e
                rw [h7 k (by omega)]
                simp [bv, List.getD_eq_getElem?_getD, hkl, hu]
            have gf : wr.frozen? ⟨g, k, none⟩ = false := by
              have h : OwnK wr 0 5 1 (.slice (some ⟨g, 0, none⟩) n xc) n (bv l) := H.head
              rcases h.form with ⟨e, _⟩ | ⟨g', cap, e, _, _, _, _, _, _, h8⟩
              · cases e
              · cases e; exact h8 k
            have hk0 : 0 ≤ (k : Int) := by omega
            have hk1 : (k : Int) < (n : Int) := by omega
            have HN := Lib.hid (own_store H.drew k (.int .u8 yv))
            rw [bv_set] at HN
            have hlen2 : (l.set k yv).length = n := by rw [List.length_set]; exact hll
            have hby2 := Lib.hid (set_bytes (k := k) hlb.out hyb)
            have hll' := Lib.hid hll
            have hyv' := Lib.hid hyv
            have hlen2' := Lib.hid hlen2
            have hu1 := hbu.1
            have hu2 := hbu.2
            clear H hlb hu hll hlen2 hyb hbu hkl
            go_wp2_with fail
            go_still_tail 10, (by kernel_rfl)
            change wpList _ _ _ _ _ wr.drew
            clear hyv
            go_wp2_with fail
            go_roundw
            case rel => exact ⟨k + 1, l.set k yv, by omega, by go_num, hlen2'.out, hby2, HN.out⟩
            case measure => (simp [intOf]; try omega)
          · obtain rfl : n = k := by omega
            have HC := Lib.hid H
            clear H hlb hll
            have hs1 := run_strK (w := wr) (c := oc) (show (bs ++ [7]).length = len + 1 by rw [List.length_append, hl'.out]; rfl) (own_rdB HC.out (.there (.there (.there (.here _ _)))) (by rw [List.length_append, hl'.out]; rfl)) (fun x hx => by
              rcases List.mem_append.1 hx with h | h
              · exact hy'.out x h
              · rw [List.mem_singleton.1 h]; unfold byteK; omega)
            have hs2 := run_strK (w := wr) (c := cap) hl'.out (hrO.out _ [_, _, _] HC.out).2 hy'.out
            have hcat : strK bs ++ ⟨#[7]⟩ = strK (bs ++ [7]) := by
              unfold strK
              rw [show toB (bs ++ [7]) = toB bs ++ [7#8] from by simp [toB], Crc.strB_append]
              rfl
            have hsz : (strK bs).size ≤ 2000 := by have := hl'.out; simp [strK, Crc.strB, ByteArray.size, toB_length]; omega
            have hkp := Lib.hid (HC.out.kp (.there (.there (.there (.there (.here _ _))))))
            clear HC g8
            go_wp2_with fail
            go_ret
            exact ⟨rfl, hkp.out⟩
end Go.Proofs.Ytilpkfgdlehmpaa
