/- The reference's First. -/
import Derived.Test.YthafggbmomdkkaaDoorTP
import Derived.Lib.QuoteLoop
namespace Go.Proofs.YthafggbmomdkkaaDoor
open Go.RowKit
theorem rune_form {w : World} {B n : Nat} {v : Value} {xs : List Value} (h : w.ownsRow B 21 1 v n xs) : ∃ A cap, v = .slice A n cap := by
  rcases Joins.ownsRow_forms h with ⟨rfl, rfl⟩ | ⟨g, cap, rfl⟩
  · exact ⟨_, _, rfl⟩
  · exact ⟨_, _, rfl⟩
theorem ownA_lt {w : World} {B : Nat} {e : TypeId} {v : Value} {n : Nat} {xs : List Value} (h : w.ownsRow B e 1 v n xs) {w' : World} (hb : Below w.heap.size w w') : w'.ownsRow B e 1 v n xs := by
  refine ⟨h.1, ?_⟩
  rcases h.2 with h0 | ⟨g, cap, cur, h1, h2, h3, h4⟩
  · exact .inl h0
  · exact .inr ⟨g, cap, cur, h1, h2, (hb.block g (Array.getElem?_eq_some_iff.1 h3).1).trans h3, h4⟩
theorem SlI.tail {k : IntKind} {w : World} {ad : Addr} {n cap : Nat} {xs : List Int} (h : SlI k w (some ad) n cap xs) {j : Nat} (hj : j ≤ n) (hc : cap = j) : SlI k w (some ad) (n - j) (cap - j) (xs.drop j) := by
  obtain ⟨h1, h2, h3, h3', h4⟩ := h
  refine ⟨by rw [List.length_drop]; omega, by omega, by omega, fun x hx => h3' x (List.mem_of_mem_drop hx), .inr ⟨ad, rfl, fun i hi => by omega⟩⟩
theorem SlI.heap {k : IntKind} {w w' : World} {ad : Addr} {n cap : Nat} {xs : List Int} (h : SlI k w (some ad) n cap xs) (hh : w'.heap[ad.block]? = w.heap[ad.block]?) : SlI k w' (some ad) n cap xs := by
  obtain ⟨h1, h2, h3, h3', h4⟩ := h
  refine ⟨h1, h2, h3, h3', ?_⟩
  rcases h4 with ⟨h4, _⟩ | ⟨ad', h5, h6⟩
  · cases h4
  · cases h5
    refine .inr ⟨ad, rfl, fun j hj => ?_⟩
    rw [← h6 j hj]
    have e : (ad.add j).block = ad.block := by cases j <;> rfl
    exact World.cell?_of_block (w := w) (by rw [e]; exact hh)
/-- Between two rounds: the text's scalars, the candidates. -/
structure RInv (w W : World) (va : Value) (gb capb : Nat) (a : List Int) (l : List ByteArray) : Prop where
  bl : Below w.heap.size w W
  ar : W.ownsRow w.heap.size 21 1 va a.length (a.map (Value.int .i32))
  br : W.ownsRow w.heap.size 9 1 (.slice (some ⟨gb, 0, none⟩) l.length capb) l.length (l.map Value.string)
theorem RInv.below {w W X : World} {va : Value} {gb capb : Nat} {a : List Int} {l : List ByteArray} (h : RInv w W va gb capb a l) (hb : Below W.heap.size W X) : RInv w X va gb capb a l :=
  ⟨below_then h.bl h.bl.size hb, own_lt h.ar hb, ownA_lt h.br hb⟩
theorem RInv.drewN {w W : World} {va : Value} {gb capb : Nat} {a : List Int} {l : List ByteArray} (h : RInv w W va gb capb a l) (n : Nat) : RInv w (W.drewN n) va gb capb a l :=
  ⟨below_drewN h.bl n, h.ar, h.br⟩
set_option maxRecDepth 100000 in
set_option maxHeartbeats 6400000 in
theorem rfirst_any (u : Int) (s : ByteArray) (hs : s.size ≤ 300) (w : World) : Calls Tryd.prog 15 #[.int .i32 u, .string s] w fun e w' => e = .returned (.tuple #[.string ((firstL u s).getD ⟨#[]⟩), .bool (firstL u s).isSome]) ∧ Below w.heap.size w w' := by
  obtain ⟨i0, hi, hz0, hz1, hz2⟩ := info_parts info21
  have hcb := fun (s : ByteArray) (w : World) => Lib.run_convert_string_bytes (P := Tryd.prog) w 9 35 5 s Tryd.underlying9 Tryd.underlying35 Tryd.underlying5
  go_enter Tryd.func15, Tryd.ntmps15
  go_wp2_with fail
  go_loopg [6, 7] s.size (fun gg va vb wr => ∃ (p n cap : Nat) (ad : Addr) (l1 : List Int), vb = .slice (some ad) n cap ∧ ad.block = w.heap.size ∧ w.heap.size < wr.heap.size ∧ n + p = s.size ∧ s.size ≤ gg + p ∧ l1.length ≤ p ∧ n ≤ cap ∧ Hid (l1 ++ runesF s gg p = runesL s) ∧ Hid (SlI .u8 wr (some ad) n cap ((bytesL s).drop p)) ∧ Hid (wr.ownsRow (w.heap.size + 1) 21 1 va l1.length (l1.map (Value.int .i32))) ∧ Hid (Below w.heap.size w wr))
  case atStart =>
    exact ⟨0, s.size, _, _, [], rfl, rfl, by rw [Lib.bytesWorld_size]; omega, by omega, by omega, by simp, grownCap_ge _ _ _ _, Lib.hid rfl, Lib.hid (sl_bytes w s _ (by omega) (grownCap_ge _ _ _ _)), Lib.hid (World.ownsRow_nil _ _ _ _), Lib.hid (below_bytes (Below.refl _ _) (Nat.le_refl _) 5 s)⟩
  case round =>
    obtain ⟨p, n, cap, ad, l1, rfl, had, hlw, hnp, hgp, hl1, hcap, HE, HS, HO, HB⟩ := hrel
    by_cases hlt : p < s.size
    · have hG := get_dec s p hlt
      obtain ⟨gg', rfl⟩ : ∃ g, gk = g + 1 := ⟨gk - 1, by omega⟩
      have HE2 := Lib.hid (by have := HE.out; rwa [runes_step s gg' p hlt] at this)
      have hw1 := width_pos s p hlt
      have hw2 : (Utf8.decode s p).2 ≤ n := by have h5 : (Utf8.decode s p).2 ≤ s.size - p := by { rw [Lib.decode_at]; exact Lib.decodeN_width_le _ _ _ _ _ (by omega) }; omega
      obtain ⟨⟨dr, m⟩, hd⟩ : ∃ d, Utf8.decode s p = d := ⟨_, rfl⟩
      rw [hd] at hG hw1 hw2
      have HE3 := Lib.hid (show l1 ++ (dr : Int) :: runesF s gg' (p + m) = runesL s by have := HE2.out; rwa [hd] at this)
      clear hd HE2
      dsimp only at hw1 hw2
      obtain ⟨⟨ge, gn, gk1, gx⟩, hg⟩ : ∃ g, getU ((bytesL s).drop p) = g := ⟨_, rfl⟩
      rw [hg] at hG
      have hgc := fun W (h : SlI .u8 W (some ad) n cap ((bytesL s).drop p)) => gget_any _ _ _ _ W h
      rw [hg] at hgc
      unfold gotV gotC at hgc
      dsimp only at hgc
      have HG := Lib.hid hgc
      clear hg hgc
      have hsz : w.heap.size ≤ wr.heap.size := HB.out.size
      have hn0 : (0 : Int) < (n : Int) := by omega
      rcases hG with ⟨k1, k2, k3⟩ | ⟨k1, k2⟩
      · dsimp only at k1 k2 k3
        subst k1 k2 k3
        have hm0 : (0 : Int) ≤ (m : Int) := by omega
        have hmn : (m : Int) ≤ (n : Int) := by omega
        go_wp2_with fail
        refine (HG.out _ HS.out).mono ?_
        rintro e w1 ⟨rfl, hb⟩
        have B1 := Lib.hid (below_then HB.out hsz hb)
        have S1 := Lib.hid (HS.out.below hb)
        have O1 := Lib.hid ((own_lt HO.out hb).alloc (.cells #[.int .i64 ge, .int .i64 (m : Int), .int .i64 1, .int .i32 (dr : Int), .int .i32 0, .int .i64 0, .int .i64 0, .int .u32 0, .int .i32 0] 50))
        have O2 := Lib.hid (O1.out.alloc (.cells #[.int .i32 (dr : Int)] 21))
        have hsz1 : w.heap.size ≤ w1.heap.size := Nat.le_trans hsz hb.size
        have hsz2 : wr.heap.size ≤ w1.heap.size := hb.size
        clear hb
        go_wp2_with (at_builtin; go_loud (refine wpList_append_own _ rfl _ _ 23 rfl (w.heap.size + 1) 21 i0 (.int .i32 0) 1 4 Tryd.underlying23 hi hz0 hz1 hz2 rfl (by decide) _ _ _ rfl O2.out ⟨w1.heap.size + 1, 0, none⟩ 1 1 [.int .i32 (dr : Int)] rfl rfl (fun j u hj => one_new2 _ _ _ _ hj) (by simp [Value.oneCell']) (by unfold maxLen; omega) (by omega) (by simp; omega) ?_))
        intro v' w2 hown hgrow _
        have O3 := Lib.hid hown
        have B3 := Lib.hid (((B1.out.alloc hsz1 (.cells #[.int .i64 ge, .int .i64 (m : Int), .int .i64 1, .int .i32 (dr : Int), .int .i32 0, .int .i64 0, .int .i64 0, .int .u32 0, .int .i32 0] 50)).alloc (by simp; omega) (.cells #[.int .i32 (dr : Int)] 21)).grown hgrow (by simp; omega) (fun q hq => by have := (O1.out.lt q hq).1; omega))
        have P3 := (hgrow.block w1.heap.size (by simp; omega) (fun e => by have := HO.out.lt _ e.symm; omega)).trans (heap_alloc2_old w1 _ _)
        obtain ⟨p0, p1, p2, p3⟩ := got9 P3
        have S3 : SlI .u8 w2 (some ad) n cap ((bytesL s).drop p) := S1.out.heap ((hgrow.block ad.block (by simp; omega) (fun e => by have := (HO.out.lt _ e.symm).1; omega)).trans ((heap_alloc_old _ _ (by simp; omega)).trans (heap_alloc_old _ _ (by omega))))
        clear hown P3
        have HZ := Lib.hid (show w.heap.size < w2.heap.size from by have h1 := B3.out; have := hgrow.size; simp at this; omega)
        clear hgrow
        by_cases hcm : cap = m
        · have HT := Lib.hid (show SlI .u8 w2 (some ad) (n - m) (cap - m) ((bytesL s).drop (p + m)) by have := S3.tail (j := m) hw2 hcm; rwa [List.drop_drop] at this)
          obtain ⟨c0, hc0⟩ : ∃ c0, cap - m = c0 := ⟨_, rfl⟩
          have hc1 : c0 = 0 := by omega
          rw [hc0, hc1] at HT
          clear hc0 hc1
          clear S3
          go_wp2_with fail
          go_roundg gg'
          case measure => omega
          case rel => exact ⟨p + m, n - m, 0, ad, l1 ++ [(dr : Int)], rfl, had, HZ.out, by omega, by omega, by simp; omega, by omega, Lib.hid (by rw [← HE3.out]; simp), HT, Lib.hid (by simpa using O3.out), B3⟩
        · have HT := Lib.hid (show SlI .u8 w2 (some (ad.add m)) (n - m) (cap - m) ((bytesL s).drop (p + m)) by have := S3.drop (j := m) hw2; rwa [List.drop_drop] at this)
          clear S3
          go_wp2_with fail
          go_roundg gg'
          case measure => omega
          case rel => exact ⟨p + m, n - m, cap - m, ad.add m, l1 ++ [(dr : Int)], rfl, (by rw [← had]; cases m <;> rfl), HZ.out, by omega, by omega, by simp; omega, by omega, Lib.hid (by rw [← HE3.out]; simp), HT, Lib.hid (by simpa using O3.out), B3⟩
      · dsimp only at k1 k2
        subst k1
        cases k2
        have hm1 : (1 : Int) ≤ (n : Int) := by omega
        go_wp2_with fail
        refine (HG.out _ HS.out).mono ?_
        rintro e w1 ⟨rfl, hb⟩
        have B1 := Lib.hid (below_then HB.out hsz hb)
        have S1 := Lib.hid (HS.out.below hb)
        have O1 := Lib.hid ((own_lt HO.out hb).alloc (.cells #[.int .i64 ge, .int .i64 gn, .int .i64 0, .int .i32 gx, .int .i32 0, .int .i64 0, .int .i64 0, .int .u32 0, .int .i32 0] 50))
        have O2 := Lib.hid (O1.out.alloc (.cells #[.int .i32 65533] 21))
        have hsz1 : w.heap.size ≤ w1.heap.size := Nat.le_trans hsz hb.size
        have hsz2 : wr.heap.size ≤ w1.heap.size := hb.size
        clear hb
        go_wp2_with (at_builtin; go_loud (refine wpList_append_own _ rfl _ _ 23 rfl (w.heap.size + 1) 21 i0 (.int .i32 0) 1 4 Tryd.underlying23 hi hz0 hz1 hz2 rfl (by decide) _ _ _ rfl O2.out ⟨w1.heap.size + 1, 0, none⟩ 1 1 [.int .i32 65533] rfl rfl (fun j u hj => one_new2 _ _ _ _ hj) (by simp [Value.oneCell']) (by unfold maxLen; omega) (by omega) (by simp; omega) ?_))
        intro v' w2 hown hgrow _
        have O3 := Lib.hid hown
        have B3 := Lib.hid (((B1.out.alloc hsz1 (.cells #[.int .i64 ge, .int .i64 gn, .int .i64 0, .int .i32 gx, .int .i32 0, .int .i64 0, .int .i64 0, .int .u32 0, .int .i32 0] 50)).alloc (by simp; omega) (.cells #[.int .i32 65533] 21)).grown hgrow (by simp; omega) (fun q hq => by have := (O1.out.lt q hq).1; omega))
        have P3 := (hgrow.block w1.heap.size (by simp; omega) (fun e => by have := HO.out.lt _ e.symm; omega)).trans (heap_alloc2_old w1 _ _)
        obtain ⟨p0, p1, p2, p3⟩ := got9 P3
        have S3 : SlI .u8 w2 (some ad) n cap ((bytesL s).drop p) := S1.out.heap ((hgrow.block ad.block (by simp; omega) (fun e => by have := (HO.out.lt _ e.symm).1; omega)).trans ((heap_alloc_old _ _ (by simp; omega)).trans (heap_alloc_old _ _ (by omega))))
        clear hown P3
        have HZ := Lib.hid (show w.heap.size < w2.heap.size from by have h1 := B3.out; have := hgrow.size; simp at this; omega)
        clear hgrow
        by_cases hcm : cap = 1
        · have HT := Lib.hid (show SlI .u8 w2 (some ad) (n - 1) (cap - 1) ((bytesL s).drop (p + 1)) by have := S3.tail (j := 1) hw2 hcm; rwa [List.drop_drop] at this)
          obtain ⟨c0, hc0⟩ : ∃ c0, cap - 1 = c0 := ⟨_, rfl⟩
          have hc1 : c0 = 0 := by omega
          rw [hc0, hc1] at HT
          clear hc0 hc1
          clear S3
          go_wp2_with fail
          go_roundg gg'
          case measure => omega
          case rel => exact ⟨p + 1, n - 1, 0, ad, l1 ++ [65533], rfl, had, HZ.out, by omega, by omega, by simp; omega, by omega, Lib.hid (by rw [← HE3.out]; simp), HT, Lib.hid (by simpa using O3.out), B3⟩
        · have HT := Lib.hid (show SlI .u8 w2 (some (ad.add 1)) (n - 1) (cap - 1) ((bytesL s).drop (p + 1)) by have := S3.drop (j := 1) hw2; rwa [List.drop_drop] at this)
          rw [show ad.add 1 = ⟨w.heap.size, ad.off + 1, none⟩ by rw [← had]; rfl] at HT
          clear S3
          go_wp2_with fail
          go_roundg gg'
          case measure => omega
          case rel => exact ⟨p + 1, n - 1, cap - 1, ⟨w.heap.size, ad.off + 1, none⟩, l1 ++ [65533], rfl, rfl, HZ.out, by omega, by omega, by simp; omega, by omega, Lib.hid (by rw [← HE3.out]; simp), HT, Lib.hid (by simpa using O3.out), B3⟩
    · obtain rfl : n = 0 := by omega
      have HF := Lib.hid (show l1 = runesL s by have := HE.out; rwa [runesF_end hlt, List.append_nil] at this)
      have hl3 : l1.length ≤ 300 := by omega
      have hsz : w.heap.size ≤ wr.heap.size := HB.out.size
      clear HE HS
      obtain ⟨Aa, capa, rfl⟩ := rune_form HO.out
      by_cases hcl : candL u = []
      · have HA := Lib.hid (rcand_nil u hcl)
        have HR := Lib.hid (show firstL u s = none by unfold firstL; rw [hcl]; rfl)
        clear hcl
        go_wp2_with fail
        refine (HA.out _).mono ?_
        rintro e w1 ⟨A1, cap1, rfl, hb⟩
        have B1 := Lib.hid (below_then HB.out hsz hb)
        clear hb
        go_wp2_with fail
        refine wp_loop_rounds 1 ?_
        rw [rounds_succ]
        go_wp2_with fail
        first | rw [Exit.noGoto_ret] | skip
        go_ret2
        exact ⟨by rw [HR.out]; rfl, B1.out⟩
      · obtain ⟨l, hl⟩ : ∃ l, candL u = l := ⟨_, rfl⟩
        have HA := Lib.hid (rcand_some u l hl (by rw [← hl]; exact hcl))
        have HR := Lib.hid (show firstL u s = l.find? (okB s) by unfold firstL; rw [hl])
        have HS := Lib.hid (show ∀ c ∈ l, shortB u c = true ∧ c.size ≤ 10 from fun c hc => ⟨(cand_short u).1 c (by rw [hl]; exact hc), (cand_len u).2 c (by rw [hl]; exact hc)⟩)
        have hlen : l.length ≤ 1000 := by have := (cand_len u).1; rw [hl] at this; omega
        clear hl hcl
        go_wp2_with fail
        refine (HA.out _).mono ?_
        rintro e w1 ⟨gb, capb, hg, rfl, hc, hb⟩
        have I1 := Lib.hid (show RInv w w1 (.slice Aa l1.length capa) gb capb l1 l from ⟨below_then HB.out hsz hb, Joins.ownsRow_le (ownA_lt HO.out hb) (by omega), Joins.ownsRow_le hc (by omega)⟩)
        clear hg hc hb HO HB
        go_wp2_with fail
        go_loopg [10] l.length (fun gg i wr => ∃ k : Nat, k + gg = l.length ∧ i = .int .i64 (k : Int) ∧ Hid (l.find? (okB s) = (l.drop k).find? (okB s)) ∧ Hid (RInv w wr (.slice Aa l1.length capa) gb capb l1 l))
        case atStart => exact ⟨0, by omega, rfl, Lib.hid rfl, I1⟩
        case round =>
          obtain ⟨k, hk, rfl, HD, HI⟩ := hrel
          cases gk with
          | zero =>
            have hkz : ¬ ((k : Int) < (l.length : Int)) := by omega
            have HN := Lib.hid (show l.find? (okB s) = none by rw [HD.out, List.drop_eq_nil_of_le (by omega)]; rfl)
            go_wp2_with fail
            first | rw [Exit.noGoto_ret] | skip
            go_ret2
            exact ⟨by rw [HR.out, HN.out]; rfl, HI.out.bl⟩
          | succ gg =>
            have hkz : (k : Int) < (l.length : Int) := by omega
            have hk0 : (0 : Int) ≤ (k : Int) := by omega
            obtain ⟨c, hc⟩ : ∃ c, l[k]? = some c := ⟨_, List.getElem?_eq_getElem (by omega)⟩
            have c1 := str_at HI.out.br hc
            have hcs := HS.out c (List.mem_of_getElem? hc)
            obtain ⟨rl, hr1, hr2, hr3, hr4⟩ := short_parts hcs.1
            have hsz := hcs.2
            have HC := Lib.hid hc
            have HQ := Lib.hid (show okB s c = rl.all (hasB s) by unfold okB; rw [dec_all hr1])
            have HX := Lib.hid (show (l.drop k).find? (okB s) = if rl.all (hasB s) then some c else (l.drop (k + 1)).find? (okB s) by rw [Lib.drop_at hc, List.find?_cons, HQ.out]; cases rl.all (hasB s) <;> rfl)
            have HSC := Lib.hid (fun cap (hcap : c.size ≤ cap) W => scal_calls (some ⟨W.heap.size, 0, none⟩) c.size cap (bytesL c) rl hr1 (by omega) (Lib.bytesWorld W 5 c) (sl_bytes W c cap (by omega) hcap))
            have I2 := Lib.hid (HI.out.below (below_bytes (Below.refl _ _) (Nat.le_refl _) 5 c))
            clear hc hcs hr1 hr4
            go_wp2_with fail
            refine (HSC.out _ (grownCap_ge _ _ _ _) _).mono ?_
            rintro e w2 ⟨v, rfl, ho, hb⟩
            obtain ⟨gr, capr, rfl⟩ := Joins.ownsRow_form ho (by omega)
            have I3 := Lib.hid (I2.out.below hb)
            have O3 := Lib.hid (Joins.ownsRow_le ho (Nat.zero_le _))
            clear ho hb
            go_wp2_with fail
            go_loopg [14, 15] rl.length (fun g2 vr i2 wx => ∃ (m n : Nat) (r : Bool), m + g2 = rl.length ∧ vr = .bool r ∧ i2 = .int .i64 (m : Int) ∧ Hid ((r && (rl.drop m).all (hasB s)) = rl.all (hasB s)) ∧ wx = w2.drewN n)
            case atStart => exact ⟨0, 0, true, by omega, rfl, rfl, Lib.hid (by simp), rfl⟩
            case round =>
              obtain ⟨m, n, r, hm, rfl, rfl, HM, rfl⟩ := hrel
              cases gk with
              | zero =>
                have hmz : ¬ ((m : Int) < (rl.length : Int)) := by omega
                have HM2 := Lib.hid (show r = rl.all (hasB s) by rw [← HM.out, List.drop_eq_nil_of_le (by omega)]; simp)
                have c2 := str_at (I3.out.drewN n).br HC.out
                cases r with
                | true =>
                  have HN := Lib.hid (show l.find? (okB s) = some c by rw [HD.out, HX.out, ← HM2.out]; rfl)
                  go_wp2_with fail
                  first | rw [Exit.noGoto_ret] | skip
                  go_ret2
                  exact ⟨by rw [HR.out, HN.out]; rfl, (I3.out.drewN n).bl⟩
                | false =>
                  have HN := Lib.hid (show l.find? (okB s) = (l.drop (k + 1)).find? (okB s) by rw [HD.out, HX.out, ← HM2.out]; rfl)
                  go_wp2_with fail
                  go_roundg gg
                  case measure => omega
                  case rel => exact ⟨k + 1, by omega, by go_num, HN, Lib.hid (I3.out.drewN n)⟩
              | succ g2 =>
                have hmz : (m : Int) < (rl.length : Int) := by omega
                have hm0 : (0 : Int) ≤ (m : Int) := by omega
                obtain ⟨x, hx⟩ : ∃ x, rl[m]? = some x := ⟨_, List.getElem?_eq_getElem (by omega)⟩
                have HY := Lib.hid (show (rl.drop m).all (hasB s) = (hasB s x && (rl.drop (m + 1)).all (hasB s)) by rw [Lib.drop_at hx]; rfl)
                have HXX := Lib.hid hx
                clear hx
                go_wp2_with fail
                go_loopg [16, 17] l1.length (fun g3 vi i3 wx => ∃ (j n : Nat) (r2 : Bool), j + g3 = l1.length ∧ vi = .bool r2 ∧ i3 = .int .i64 (j : Int) ∧ Hid ((r2 || (l1.drop j).any (· == x)) = hasB s x) ∧ wx = w2.drewN n)
                case atStart => exact ⟨0, n, false, by omega, rfl, rfl, Lib.hid (by rw [HF.out]; rfl), rfl⟩
                case round =>
                  obtain ⟨j, n, r2, hj, rfl, rfl, HJ, rfl⟩ := hrel
                  cases gk with
                  | zero =>
                    have hjz : ¬ ((j : Int) < (l1.length : Int)) := by omega
                    have HJ2 := Lib.hid (show r2 = hasB s x by rw [← HJ.out, List.drop_eq_nil_of_le (by omega)]; simp)
                    cases r with
                    | true =>
                      go_wp2_with fail
                      go_roundg g2
                      case measure => omega
                      case rel => exact ⟨m + 1, _, r2, by omega, rfl, by go_num, Lib.hid (by rw [← HM.out, HY.out, ← HJ2.out]; simp), rfl⟩
                    | false =>
                      go_wp2_with fail
                      go_roundg g2
                      case measure => omega
                      case rel => exact ⟨m + 1, _, false, by omega, rfl, by go_num, Lib.hid (by rw [← HM.out]; simp), rfl⟩
                  | succ g3 =>
                    have hjz : (j : Int) < (l1.length : Int) := by omega
                    have hj0 : (0 : Int) ≤ (j : Int) := by omega
                    obtain ⟨y, hy⟩ : ∃ y, l1[j]? = some y := ⟨_, List.getElem?_eq_getElem (by omega)⟩
                    have HZ := Lib.hid (show (l1.drop j).any (· == x) = ((y == x) || (l1.drop (j + 1)).any (· == x)) by rw [Lib.drop_at hy]; rfl)
                    have har := (I3.out.drewN n).ar
                    obtain ⟨ga, capa', hform⟩ := Joins.ownsRow_form har (by omega)
                    injection hform with f1 f2 f3
                    subst f1 f3
                    have x1 := row_at har hy
                    have x2 := row_at (w := w2.drewN n) O3.out HXX.out
                    obtain ⟨X, hX⟩ : ∃ X, w2.drewN n = X := ⟨_, rfl⟩
                    have HXW := Lib.hid hX
                    clear har hy
                    rw [hX] at x1 x2 ⊢
                    clear hX
                    cases r2 with
                    | true =>
                      go_wp2_with fail
                      go_quiet (fail)
                      go_wp2_with fail
                      go_roundg g3
                      case measure => omega
                      case rel => exact ⟨j + 1, _, true, by omega, rfl, by go_num, Lib.hid (by rw [← HJ.out]; simp), by rw [← HXW.out, World.drewN_drewN]⟩
                    | false =>
                      go_wp2_with fail
                      go_quiet (fail)
                      go_wp2_with fail
                      go_roundg g3
                      case measure => omega
                      case rel => exact ⟨j + 1, _, (y == x), by omega, rfl, by go_num, Lib.hid (by rw [← HJ.out, HZ.out]; simp), by rw [← HXW.out, World.drewN_drewN]⟩
end Go.Proofs.YthafggbmomdkkaaDoor
