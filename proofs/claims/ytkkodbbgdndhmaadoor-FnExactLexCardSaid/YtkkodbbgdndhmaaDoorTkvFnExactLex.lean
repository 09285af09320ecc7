/- Tokens whose texts may lie in blocks with a frozen rest (what []byte of a constant gives): the list, shallow, and the texts, each for itself. -/
import Derived.Test.YtkkodbbgdndhmaaDoorLxyFnExactLex
namespace Go.Proofs.YtkkodbbgdndhmaaDoor.LxFnExactLex
open Go.RowKit Go.Proofs.YtkkodbbgdndhmaaDoor.QFnExactLex Go.Proofs.YtkkodbbgdndhmaaDoorW.PrintWords Go.Proofs.YtkkodbbgdndhmaaDoorW.PrintLast
set_option linter.unusedVariables false

def Own (u : Value) (k : Nat) : Prop := some k = u.ownBlock
/-- A token and the value that holds its text. -/
abbrev TV := S34 × Value
def tz : TV := (z34, .slice none 0 0)
def kv : Kd TV where
  sz := 4
  E := []
  K := fun _ x cs => cs = [.int .i64 x.1.f0, .int .i64 x.1.f1, .int .i64 x.1.f2, x.2] ∧ x.2.oneCell' = true
  M := fun _ _ _ x cs => cs = [.int .i64 x.1.f0, .int .i64 x.1.f1, .int .i64 x.1.f2, x.2] ∧ x.2.oneCell' = true
  K_len := by
    rintro w x cs ⟨rfl, _⟩
    rfl
  K_one := by
    rintro w x cs ⟨rfl, h⟩ u hu
    simp only [List.mem_cons, List.not_mem_nil, or_false] at hu
    rcases hu with rfl | rfl | rfl | rfl
    · rfl
    · rfl
    · rfl
    · exact h
  K_below := fun _ h => h
  K_of_M := fun h => h
  M_mono := fun _ h => h
  M_bound := fun h => h
  M_move := fun _ h => h
  M_lower := fun _ h => h

/-! a text -/
def Txt (w : World) (v : Value) (xs : List Int) : Prop := (v = .slice none 0 0 ∧ xs = []) ∨ ∃ b cap cur fz, v = .slice (some ⟨b, 0, none⟩) xs.length cap ∧ w.heap[b]? = some (.cells cur 5 fz) ∧ xs.length ≤ cap ∧ xs.length ≤ 9223372036854775807 ∧ (∀ i, i < xs.length → cur[i]? = some (.int .u8 (xs.getD i 0))) ∧ (fz = (0, 0) ∨ xs.length ≤ fz.1)
theorem cell_blk {w : World} {b t : Nat} {cur : Array Value} {fz : Nat × Nat} (h : w.heap[b]? = some (.cells cur t fz)) (i : Nat) : w.cell? ⟨b, i, none⟩ = cur[i]? := by
  simp [World.cell?, h]
theorem Txt.of_R {w : World} {base : Nat} {ok : Nat → Prop} {v : Value} {xs : List Int} (h : Kd.R (Kd.int .u8) 5 w base ok v xs) : Txt w v xs := by
  by_cases hp : 0 < xs.length
  · obtain ⟨g, cap, rfl, hg, hlt, cells, hc⟩ := Kd.R_form h hp
    obtain ⟨_, hcap, hC⟩ := Kd.R_reads' h
    refine .inr ⟨g, cap, cells, (0, 0), rfl, hc, hcap, hC.2.1, fun i hi => ?_, .inl rfl⟩
    obtain ⟨ad, e, hcell⟩ := Kd.at_int hC (i : Int) (by omega) (by omega)
    injection e with e
    subst e
    rw [Int.toNat_natCast] at hcell
    have hx : (⟨g, 0, none⟩ : Addr).add i = ⟨g, i, none⟩ := by
      unfold Addr.add
      by_cases h0 : i = 0
      · rw [if_pos h0, h0]
      · rw [if_neg h0, Nat.zero_add]
    rw [hx, cell_blk hc] at hcell
    rw [hcell]
    unfold rd
    rw [Int.toNat_natCast]
  · have e : xs = [] := List.eq_nil_of_length_eq_zero (by omega)
    subst e
    obtain ⟨_, inner, ⟨hl, ho⟩, hr⟩ := h
    rcases ho with ⟨rfl, _⟩ | ⟨g, cap, cur, rfl, hg, hh, r1, r2, r3, r4⟩
    · exact .inl ⟨rfl, rfl⟩
    · exact .inr ⟨g, cap, cur, (0, 0), rfl, hh, Nat.zero_le _, Nat.zero_le _, fun i hi => absurd hi (Nat.not_lt_zero _), .inl rfl⟩
theorem Txt.move {w w' : World} {v : Value} {xs : List Int} (h : Txt w v xs) (hm : ∀ k, Own v k → k < w.heap.size → w'.heap[k]? = w.heap[k]?) : Txt w' v xs := by
  rcases h with h | ⟨b, cap, cur, fz, rfl, hb, r⟩
  · exact .inl h
  · exact .inr ⟨b, cap, cur, fz, rfl, (hm b (by simp [Own, Value.ownBlock]) (blk_lt hb)).trans hb, r⟩
theorem Txt.below {w w' : World} {v : Value} {xs : List Int} (h : Txt w v xs) (hb : Below w.heap.size w w') : Txt w' v xs := h.move (fun k _ hk => hb.block k hk)
theorem Txt.reads {w : World} {v : Value} {xs : List Int} (h : Txt w v xs) : ∃ A c, v = .slice A xs.length c ∧ xs.length ≤ c ∧ Kd.C (Kd.int .u8) w A xs.length xs := by
  rcases h with ⟨rfl, rfl⟩ | ⟨b, cap, cur, fz, rfl, hb, h1, h2, h3, h4⟩
  · exact ⟨none, 0, rfl, Nat.le_refl _, rfl, Nat.zero_le _, fun h => absurd h (Nat.lt_irrefl _)⟩
  · refine ⟨_, _, rfl, h1, rfl, h2, fun _ => ⟨_, rfl, fun j p hp => ⟨[.int .u8 p], rfl, rfl, fun i u hu => ?_⟩⟩⟩
    obtain ⟨hj, e⟩ := List.getElem?_eq_some_iff.1 hp
    have hi : i = 0 := by
      by_cases h0 : i = 0
      · exact h0
      · rw [List.getElem?_eq_none (by simp; omega)] at hu; cases hu
    subst hi
    injection hu with hu
    subst hu
    have hx : (⟨b, 0, none⟩ : Addr).add (j * (Kd.int .u8).sz + 0) = ⟨b, j, none⟩ := by
      show (⟨b, 0, none⟩ : Addr).add (j * 1 + 0) = _
      rw [Nat.mul_one, Nat.add_zero]
      unfold Addr.add
      by_cases h0 : j = 0
      · rw [if_pos h0, h0]
      · rw [if_neg h0, Nat.zero_add]
    rw [hx, cell_blk hb, h3 j hj, List.getD_eq_getElem?_getD, hp]
    rfl
theorem Txt.typed {w : World} {v : Value} {xs : List Int} (h : Txt w v xs) (k : Nat) (hk : Own v k) : ∃ cur fz, w.heap[k]? = some (.cells cur 5 fz) := by
  rcases h with ⟨rfl, _⟩ | ⟨b, cap, cur, fz, rfl, hb, _⟩
  · simp [Own, Value.ownBlock] at hk
  · have e : k = b := by simpa [Own, Value.ownBlock] using hk
    subst e
    exact ⟨cur, fz, hb⟩
theorem Txt.one {w : World} {v : Value} {xs : List Int} (h : Txt w v xs) : v.oneCell' = true := by
  rcases h with ⟨rfl, _⟩ | ⟨b, cap, cur, fz, rfl, _⟩ <;> rfl

/-! the texts of a list -/
def Deep (w : World) (lo : Nat) (ps : List TV) : Prop := (∀ p ∈ ps, Txt w p.2 p.1.f3 ∧ ∀ k, Own p.2 k → lo ≤ k) ∧ ps.Pairwise (fun p q => ∀ k, Own p.2 k → ¬ Own q.2 k)
theorem Deep.move {w w' : World} {lo : Nat} {ps : List TV} (h : Deep w lo ps) (hm : ∀ p ∈ ps, ∀ k, Own p.2 k → k < w.heap.size → w'.heap[k]? = w.heap[k]?) : Deep w' lo ps := ⟨fun p hp => ⟨(h.1 p hp).1.move (hm p hp), (h.1 p hp).2⟩, h.2⟩
theorem Deep.below {w w' : World} {lo : Nat} {ps : List TV} (h : Deep w lo ps) (hb : Below w.heap.size w w') : Deep w' lo ps := h.move (fun _ _ k _ hk => hb.block k hk)
theorem Deep.nil (w : World) (lo : Nat) : Deep w lo [] := ⟨fun p hp => (by cases hp), List.Pairwise.nil⟩
theorem Txt.lt {w : World} {v : Value} {xs : List Int} (h : Txt w v xs) (k : Nat) (hk : Own v k) : k < w.heap.size := by
  obtain ⟨cur, fz, hb⟩ := h.typed k hk
  exact blk_lt hb
theorem Deep.snoc {w : World} {lo : Nat} {ps : List TV} {p : TV} (h : Deep w lo ps) (ht : Txt w p.2 p.1.f3) (hlo : ∀ k, Own p.2 k → lo ≤ k) (hne : ∀ q ∈ ps, ∀ k, Own q.2 k → ¬ Own p.2 k) : Deep w lo (ps ++ [p]) := by
  refine ⟨fun q hq => ?_, List.pairwise_append.2 ⟨h.2, List.pairwise_singleton _ _, fun q hq r hr => ?_⟩⟩
  · rcases List.mem_append.1 hq with hq | hq
    · exact h.1 q hq
    · rw [List.mem_singleton.1 hq]; exact ⟨ht, hlo⟩
  · rw [List.mem_singleton.1 hr]
    exact hne q hq
/-- A list of tokens, and the texts. -/
def TokS (w : World) (base : Nat) (v : Value) (ps : List TV) : Prop := Kd.S kv 34 w base (fun _ => True) v ps ∧ Deep w base ps
theorem TokS.below {w w' : World} {base : Nat} {v : Value} {ps : List TV} (h : TokS w base v ps) (hb : Below w.heap.size w w') : TokS w' base v ps := ⟨Kd.S_below h.1 hb, h.2.below hb⟩
theorem TokS.lower {w : World} {base base' : Nat} {v : Value} {ps : List TV} (h : TokS w base v ps) (hb : base' ≤ base) : TokS w base' v ps := ⟨Kd.S_lower h.1 hb, fun p hp => ⟨(h.2.1 p hp).1, fun k hk => Nat.le_trans hb ((h.2.1 p hp).2 k hk)⟩, h.2.2⟩
def toks (ps : List TV) : List S34 := ps.map Prod.fst
theorem toks_len (ps : List TV) : (toks ps).length = ps.length := List.length_map _
theorem TokS.reads {w : World} {base : Nat} {v : Value} {ps : List TV} (h : TokS w base v ps) : ∃ A c, v = .slice A ps.length c ∧ ps.length ≤ c ∧ Kd.C k34 w A ps.length (toks ps) := by
  obtain ⟨A, c, rfl, hc, hC⟩ := Kd.S_reads h.1
  refine ⟨A, c, rfl, hc, toks_len ps, hC.2.1, fun hp => ?_⟩
  obtain ⟨ad, e, hr⟩ := hC.2.2 hp
  refine ⟨ad, e, fun j p hj => ?_⟩
  unfold toks at hj
  rw [List.getElem?_map] at hj
  obtain ⟨q, hq, rfl⟩ := Option.map_eq_some_iff.1 hj
  obtain ⟨cs, hl, ⟨hcs, _⟩, hcell⟩ := hr j q hq
  obtain ⟨A3, c3, e3, l3, g3⟩ := ((h.2.1 q (List.mem_of_getElem? hq)).1).reads
  refine ⟨cs, hl, ?_, hcell⟩
  rw [hcs, e3]
  exact k34_mk w q.1 l3 g3
/-- What was not of the tokens' blocks was turned: nothing of them has turned. -/
theorem TokS.kept {w w' : World} {base : Nat} {v : Value} {ps : List TV} (h : TokS w base v ps) (hm : ∀ k, base ≤ k → k < w.heap.size → w'.heap[k]? = w.heap[k]?) : TokS w' base v ps := by
  refine ⟨Kd.S_mono (Kd.S_step (Kd.S_bound h.1) (fun k hk hlt => hm k hk.2.1 hlt)) (fun _ _ => trivial), h.2.move (fun p hp k hk hlt => hm k ((h.2.1 p hp).2 k hk) hlt)⟩
theorem tok_nil (w : World) (base : Nat) : TokS w base (.slice none 0 0) [] := ⟨Kd.S_nil _ _ _ _ _, Deep.nil _ _⟩

end Go.Proofs.YtkkodbbgdndhmaaDoor.LxFnExactLex
