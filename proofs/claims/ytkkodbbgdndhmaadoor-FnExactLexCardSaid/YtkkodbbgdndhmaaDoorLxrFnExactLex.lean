/- The contracts of internal/strconv.formatBits at base 16, FormatUint, impl.floatText. -/
import Derived.Test.YtkkodbbgdndhmaaDoorLxqFnExactLex
namespace Go.Proofs.YtkkodbbgdndhmaaDoor.LxFnExactLex
open Go.RowKit Go.Proofs.YtkkodbbgdndhmaaDoor.QFnExactLex Go.Proofs.YtkkodbbgdndhmaaDoorW.PrintWords Go.Proofs.YtkkodbbgdndhmaaDoorW.PrintLast Go.Proofs.YtkkodbbgdndhmaaDoor.LexA
set_option linter.unusedSimpArgs false
set_option linter.unusedVariables false

def digitBytes : ByteArray := ⟨#[48, 49, 50, 51, 52, 53, 54, 55, 56, 57, 97, 98, 99, 100, 101, 102, 103, 104, 105, 106, 107, 108, 109, 110, 111, 112, 113, 114, 115, 116, 117, 118, 119, 120, 121, 122]⟩
/-- The small digit of base 16. -/
def hx (d : Nat) : UInt8 := if d < 10 then UInt8.ofNat (48 + d) else UInt8.ofNat (87 + d)
theorem hx_at : ∀ (i : Nat) (h : i < 36), i < 16 → (((digitBytes[i]'h).toNat : Nat) : Int) = ((hx i).toNat : Int) := by decide
def hexL (u : Nat) : List UInt8 := if h : u < 16 then [hx u] else hexL (u / 16) ++ [hx (u % 16)]
termination_by u
decreasing_by omega
theorem hexL_small {u : Nat} (h : u < 16) : hexL u = [hx u] := by rw [hexL, dif_pos h]
theorem hexL_big {u : Nat} (h : ¬ u < 16) : hexL u = hexL (u / 16) ++ [hx (u % 16)] := by rw [hexL, dif_neg h]
theorem hexL_len : ∀ (j u : Nat), u < 16 ^ (j + 1) → (hexL u).length ≤ j + 1
  | 0, u, h => by rw [hexL_small (by simpa using h)]; exact Nat.le_refl _
  | j + 1, u, h => by
    by_cases hu : u < 16
    · rw [hexL_small hu]; simp
    · rw [hexL_big hu, List.length_append]
      have := hexL_len j (u / 16) (by rw [Nat.pow_succ] at h; omega)
      simp; omega

theorem nums8_length (l : List UInt8) : (nums8 l).length = l.length := List.length_map _
theorem strOf_nums8 (l : List UInt8) : strOfNums (nums8 l) = ⟨l.toArray⟩ := by
  unfold strOfNums nums8
  rw [List.map_map]
  congr 2
  refine (List.map_congr_left fun b _ => ?_).trans (List.map_id l)
  show UInt8.ofNat ((b.toNat : Int)).toNat = b
  rw [Int.toNat_natCast]
  exact UInt8.ofNat_toNat
theorem add_plain' (g j i : Nat) : (⟨g, j, none⟩ : Addr).add i = ⟨g, j + i, none⟩ := Addr.add_lit g j i
theorem nums8_getD (l : List UInt8) (i : Nat) : (nums8 l).getD i 0 = ((l.getD i 0).toNat : Int) := by
  unfold nums8
  rw [List.getD_eq_getElem?_getD, List.getD_eq_getElem?_getD, List.getElem?_map]
  cases l[i]? <;> rfl
/-- The array in block g: from i on it holds acc. -/
def Arr (g i : Nat) (acc : List UInt8) (w0 w : World) : Prop := Below w0.heap.size w0 w ∧ w0.heap.size ≤ g ∧ i + acc.length = 65 ∧ ∃ cs : Array Value, w.heap[g]? = some (.cells cs 109 (0, 0)) ∧ cs.size = 65 ∧ (∀ j, j < 65 → ∃ z, cs[j]? = some (.int .u8 z)) ∧ ∀ j, j < acc.length → cs[i + j]? = some (.int .u8 ((acc.getD j 0).toNat : Int))
theorem Arr.put {g i : Nat} {acc : List UInt8} {w0 w : World} (h : Arr g (i + 1) acc w0 w) (b : UInt8) : Arr g i (b :: acc) w0 (w.setCell ⟨g, i, none⟩ (.int .u8 (b.toNat : Int))) := by
  obtain ⟨h1, h2, h3, cs, h4, h5, h6, h7⟩ := h
  refine ⟨below_set h1 h2, h2, by rw [List.length_cons]; omega, cs.setIfInBounds i (.int .u8 (b.toNat : Int)), by simpa using blk_set h4 i (.int .u8 (b.toNat : Int)), by rw [Array.size_setIfInBounds]; exact h5, fun j hj => ?_, fun j hj => ?_⟩
  · rw [Array.getElem?_setIfInBounds]
    by_cases e : i = j
    · subst e; exact ⟨_, by rw [if_pos rfl, if_pos (by omega)]⟩
    · rw [if_neg e]; exact h6 j hj
  · rw [Array.getElem?_setIfInBounds]
    rcases j with _ | j
    · rw [if_pos (by omega), if_pos (by omega)]; rfl
    · rw [if_neg (by omega), show i + (j + 1) = i + 1 + j by omega, h7 j (by rw [List.length_cons] at hj; omega)]; rfl

set_option maxHeartbeats 8000000 in
set_option maxRecDepth 100000 in
theorem bits16_c (u : Nat) (hu : u < 18446744073709551616) (w : World) (hL : LW w) : Calls Tryd.prog 82 #[.slice none 0 0, .int .u64 u, .int .i64 16, .bool false, .bool false] w fun e w' => e = .returned (.tuple #[.slice none 0 0, .string ⟨(hexL u).toArray⟩]) ∧ Below w.heap.size w w' := by
  have HL := Lib.hid hL
  clear hL
  go_enter Tryd.func82, Tryd.ntmps82
  go_upto_region 4 with ((with_reducible refine gate_dst (N := 12) rfl ?_); refine box_event ?hg (N := 12) ?hd (cs := Array.replicate 65 (.int .u8 0)) (t := 109) ?hr ?_; (case hd => rfl); (case hg => rfl); (case hr => first | (go_simp; done) | (go_simp; rfl)); intro g hg w1 hbox hb; have HG := Lib.hid (Nat.le_of_eq hg.symm); have HB := Lib.hid hb; have HX := Lib.hid hbox; clear hg hbox hb)
  have HA0 : Hid (Arr g 65 [] w w1) := Lib.hid ⟨HB.out, HG.out, rfl, _, HX.out, Array.size_replicate, fun j hj => ⟨0, by rw [Array.getElem?_replicate, if_pos hj]⟩, fun j hj => absurd hj (by simp)⟩
  have HL1 := Lib.hid (HL.out.below HB.out)
  clear HG HB HX HL
  go_upto_region 9 with (first | (go_at_call 90; refine (pow2_c _).mono ?_; rintro e w' ⟨rfl, rfl⟩) | (go_at_call 91; refine (zeros_c _ HL1.out.db).mono ?_; rintro e w' ⟨rfl, rfl⟩))
  go_wp2
  go_loopw [1, 13] (fun v1 v13 wr => ∃ (a : Int) (i : Nat), v1 = .int .u64 a ∧ v13 = .int .i64 i ∧ 0 ≤ a ∧ a < 18446744073709551616 ∧ 49 ≤ i ∧ i ≤ 65 ∧ Hid (∃ (q : Nat) (acc : List UInt8), a = q ∧ Arr g i acc w wr ∧ hexL u = hexL q ++ acc ∧ q * 16 ^ acc.length ≤ u)) (fun v1 _ _ => (intOf v1).toNat)
  case atStart => exact ⟨u, 65, rfl, rfl, by omega, by omega, by omega, by omega, Lib.hid ⟨u, [], rfl, HA0.out, by rw [List.append_nil], by simp⟩⟩
  case round =>
    obtain ⟨a, i, rfl, rfl, ha0, ha1, hi0, hi1, HH⟩ := hrel
    obtain ⟨j, rfl⟩ : ∃ j, i = j + 1 := ⟨i - 1, by omega⟩
    obtain ⟨q, acc, hq, hA, he, hm⟩ := HH.out
    clear HH
    obtain ⟨_, _, hl65, cs, hb, _, hc6, _⟩ := id hA
    obtain ⟨z, hz⟩ := hc6 j (by omega)
    have z0 := (blk_cell hb j).trans hz
    have f0 := blk_frozen hb j
    have hA := Lib.hid hA
    have he := Lib.hid he
    have hq0 := Lib.hid hq
    have e65 : acc.length = 64 - j := by omega
    have hp1 : (j : Int) < 65 := by omega
    have hp0 : (0 : Int) ≤ (j : Int) := by omega
    have ej : IntKind.i64.wrap (((j + 1 : Nat) : Int) - 1) = (j : Int) := by rw [i64_w]; unfold wrap64; omega
    have h16 : 16 ^ (64 - j) * q ≤ u := by rw [Nat.mul_comm, ← e65]; exact hm
    clear hc6 hb hz
    by_cases hlt : 16 ≤ a
    · have d1 : decide (16 ≤ a) = true := decide_eq_true hlt
      have hj : 50 ≤ j := by
        refine Classical.byContradiction fun h => ?_
        have h1 : 16 ^ 15 ≤ 16 ^ (64 - j) := Nat.pow_le_pow_right (by decide) (by omega)
        have h2 : (16 : Nat) ^ 15 = 1152921504606846976 := by decide
        have h3 : 1152921504606846976 * 16 ≤ 16 ^ (64 - j) * q := Nat.mul_le_mul (by omega) (by omega)
        omega
      obtain ⟨mm, hmm⟩ : ∃ mm, mm = q % 16 := ⟨_, rfl⟩
      have hand : bits .and .u64 a 15 = (mm : Int) := by
        rw [hmm]
        have h := u64_and_nat q 15 (by omega) (by decide)
        rw [show (15 : Int) = ((15 : Nat) : Int) from rfl, hq0.out, h, show (15 : Nat) = 2 ^ 4 - 1 from rfl, Nat.and_two_pow_sub_one_eq_mod]
      have hmA : mm < 16 := by omega
      have hmB : mm < 36 := by omega
      have hs := hx_at mm hmB hmA
      have hi36 : (mm : Int) < 36 := by omega
      have HA2 := Lib.hid (hA.out.put (hx mm))
      have HE2 : Hid (hexL u = hexL (q / 16) ++ (hx mm :: acc)) := Lib.hid (by rw [hmm, he.out, hexL_big (show ¬ q < 16 by omega), List.append_assoc]; rfl)
      have HM2 : Hid (q / 16 * 16 ^ (acc.length + 1) ≤ u) := Lib.hid (by
        rw [Nat.pow_succ, Nat.mul_comm (16 ^ acc.length), ← Nat.mul_assoc]
        exact Nat.le_trans (Nat.mul_le_mul_right _ (Nat.div_mul_le_self q 16)) hm)
      have hqd : Hid (a / 16 = ((q / 16 : Nat) : Int)) := Lib.hid (by omega)
      have hab : 0 ≤ a / 16 ∧ a / 16 < a := by omega
      clear hm he hA h16 hmm hq
      go_wp2
      refine ⟨⟨a / 16, j, rfl, rfl, by omega, by omega, by omega, by omega, Lib.hid ⟨q / 16, hx mm :: acc, hqd.out, ?_, HE2.out, HM2.out⟩⟩, by simp [intOf]; omega⟩
      have h := HA2.out
      rw [← hs] at h
      exact h
    · have d1 : decide (16 ≤ a) = false := decide_eq_false hlt
      subst hq
      have hqA : q < 16 := by omega
      have hqB : q < 36 := by omega
      have hi36 : (q : Int) < 36 := by omega
      have hs := hx_at q hqB hqA
      have HW : Hid (∀ w2, w2 = wr.setCell ⟨g, j, none⟩ (.int .u8 ((hx q).toNat : Int)) → Below w.heap.size w w2 ∧ (convert 22 9 (.slice (some ⟨g, j, none⟩) (65 - j) (65 - j))).run Tryd.prog w2 = .ok (.string ⟨(hexL u).toArray⟩) w2) := Lib.hid (by
        rintro w2 rfl
        have h := hA.out.put (hx q)
        refine ⟨h.1, ?_⟩
        have e : hexL u = hx q :: acc := by rw [he.out, hexL_small hqA]; rfl
        obtain ⟨h1, h2, h3, cs, h4, h5, h6, h7⟩ := h
        rw [e, ← strOf_nums8]
        have hl : (hx q :: acc).length = 65 - j := by omega
        rw [← hl]
        refine string_of_reads Tryd.underlying22 Tryd.underlying5 Tryd.underlying9 (A := some ⟨g, j, none⟩) ⟨by rw [nums8_length], by omega, fun _ => ⟨_, rfl, fun i hi => ?_⟩⟩
        have h8 := h7 i hi
        rw [add_plain', blk_cell h4, h8, nums8_getD])
      clear he hA h16 hm
      go_upto_region 30 with fail
      generalize hW : World.setCell wr _ _ = w2
      obtain ⟨hB, hcv⟩ := HW.out w2 (by rw [← hW, ← hs]; rfl)
      have HB2 := Lib.hid hB
      clear HW hW hB z0 f0
      have hp2 : (j : Int) ≤ 65 := by omega
      have hp3 : ¬ (65 = j) := by omega
      go_wp2
      go_ret2
      exact ⟨rfl, HB2.out⟩

theorem fmtI_c (u : Nat) (hu : u < 18446744073709551616) (w : World) (hL : LW w) : Calls Tryd.prog 64 #[.int .u64 u, .int .i64 16] w fun e w' => e = .returned (.string ⟨(hexL u).toArray⟩) ∧ Below w.heap.size w w' := by
  have HC := Lib.hid (bits16_c u hu w hL)
  clear hL
  go_enter Tryd.func64, Tryd.ntmps64
  go_wp2_with (go_at_call 82; refine HC.out.mono ?_; rintro e w' ⟨rfl, hb⟩; have HB := Lib.hid hb; clear hb)
  go_ret
  exact ⟨rfl, HB.out⟩
theorem fmt_c (u : Nat) (hu : u < 18446744073709551616) (w : World) (hL : LW w) : Calls Tryd.prog 47 #[.int .u64 u, .int .i64 16] w fun e w' => e = .returned (.string ⟨(hexL u).toArray⟩) ∧ Below w.heap.size w w' := by
  have HC := Lib.hid (fmtI_c u hu w hL)
  clear hL
  go_enter Tryd.func47, Tryd.ntmps47
  go_wp2_with (go_at_call 64; refine HC.out.mono ?_; rintro e w' ⟨rfl, hb⟩; have HB := Lib.hid hb; clear hb)
  go_ret
  exact ⟨rfl, HB.out⟩
/-- A float's text. -/
def flt (u : Nat) : List UInt8 := 48 :: 102 :: (List.replicate (16 - (hexL u).length) 48 ++ hexL u)
theorem repeatL_one (b : UInt8) : ∀ c, Lib.repeatL [b] c = List.replicate c b
  | 0 => rfl
  | c + 1 => by show [b] ++ Lib.repeatL [b] c = _; rw [repeatL_one b c]; rfl
theorem ba_append (a b : List UInt8) : (⟨a.toArray⟩ : ByteArray) ++ (⟨b.toArray⟩ : ByteArray) = ⟨(a ++ b).toArray⟩ := by
  apply ByteArray.ext
  rw [ByteArray.data_append]
  simp
set_option maxHeartbeats 8000000 in
set_option maxRecDepth 100000 in
theorem text_c (n : Int) (w : World) (hL : LW w) : Calls Tryd.prog 37 #[.int .i64 n] w fun e w' => e = .returned (.string ⟨(flt (Go.Proofs.YtkkodbbgdndhmaaDoor.Fw.wordOf n)).toArray⟩) ∧ Below w.heap.size w w' := by
  have hu := Go.Proofs.YtkkodbbgdndhmaaDoor.Fw.wordOf_lt n
  have hc := Go.Proofs.YtkkodbbgdndhmaaDoor.Fw.wordOf_cast n
  generalize Go.Proofs.YtkkodbbgdndhmaaDoor.Fw.wordOf n = u at *
  have HC := Lib.hid (fmt_c u (by omega) w hL)
  have hlen := hexL_len 15 u (by omega)
  obtain ⟨S, hS⟩ : ∃ S : ByteArray, S = ⟨(hexL u).toArray⟩ := ⟨_, rfl⟩
  have hsz : S.size = (hexL u).length := by rw [hS]; show (hexL u).toArray.size = _; simp
  obtain ⟨c, hcc⟩ : ∃ c, c = 16 - S.size := ⟨_, rfl⟩
  have hR := fun w1 => Go.Proofs.YtkkodbbgdndhmaaDoor.Lb.strings_Repeat ⟨#[48]⟩ c w1 (by omega) (by show 1 * c ≤ _; omega)
  obtain ⟨R, hRe⟩ : ∃ R : ByteArray, R = ⟨(Lib.repeatL [48] c).toArray⟩ := ⟨_, rfl⟩
  have hR16 : R.size ≤ 16 := by rw [hRe, repeatL_one]; show (List.replicate c (48 : UInt8)).toArray.size ≤ 16; rw [List.size_toArray, List.length_replicate]; omega
  have hS16 : S.size ≤ 16 := by omega
  have HR : Hid (∀ w1, Calls Tryd.prog 48 #[.string ⟨#[48]⟩, .int .i64 c] w1 fun e w' => e = .returned (.string R) ∧ Below w1.heap.size w1 w') := Lib.hid (fun w1 => by rw [hRe]; exact hR w1)
  have ec : IntKind.i64.wrap (16 - (S.size : Int)) = (c : Int) := by rw [i64_w]; unfold wrap64; omega
  have HF : Hid ((⟨#[48, 102]⟩ : ByteArray) ++ R ++ S = ⟨(flt u).toArray⟩) := Lib.hid (by
    rw [hRe, hS, show (⟨#[48, 102]⟩ : ByteArray) = ⟨([48, 102] : List UInt8).toArray⟩ from rfl, ba_append, ba_append, repeatL_one, hcc, hsz]; rfl)
  rw [← hS] at HC
  clear hS hL hlen hR hsz hcc hRe
  go_enter Tryd.func37, Tryd.ntmps37
  go_wp2_with (first | (go_at_call 47; refine HC.out.mono ?_; rintro e w1 ⟨rfl, hb⟩; have HB := Lib.hid hb; clear hb) | (go_at_call 48; go_loud (refine (HR.out _).mono ?_); rintro e w2 ⟨rfl, hb2⟩; have HB2 := Lib.hid (below_step HB.out hb2); clear hb2))
  go_ret
  exact ⟨by rw [← HF.out]; rfl, HB2.out⟩

end Go.Proofs.YtkkodbbgdndhmaaDoor.LxFnExactLex
