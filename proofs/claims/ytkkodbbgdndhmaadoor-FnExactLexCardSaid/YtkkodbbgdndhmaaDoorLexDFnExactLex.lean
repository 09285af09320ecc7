/- Plain words of lexing: the next token of a text, the tokens of a text. -/
import Derived.Test.YtkkodbbgdndhmaaDoorLexCFnExactLex
namespace Go.Proofs.YtkkodbbgdndhmaaDoor.LxFnExactLex
open Go.RowKit Go.Proofs.YtkkodbbgdndhmaaDoor.QFnExactLex Go.Proofs.YtkkodbbgdndhmaaDoorW.PrintWords Go.Proofs.YtkkodbbgdndhmaaDoorW.PrintLast Go.Proofs.YtkkodbbgdndhmaaDoor.LexA Go.Proofs.YtkkodbbgdndhmaaDoor.Fw

/-- How many bytes of a text's first piece are taken for a sign of a number. -/
def lead (l : List Int) : Nat := if l.getD 0 0 = 45 ∧ 1 < l.length ∧ digitB (l.getD 1 0) = true then 1 else 0
def IsRun (l : List Int) (n : Nat) : Prop := lead l ≤ n ∧ n ≤ l.length ∧ (∀ j, lead l ≤ j → j < n → innerB (l.getD j 0) = true) ∧ (n < l.length → innerB (l.getD n 0) = false)
def Dbl (l : List Int) : Prop := l.getD 0 0 = 61 ∧ l.getD 1 0 = 61
def Next (l : List Int) (t : S34) (n : Nat) : Prop :=
  (∃ r, IsRun l r ∧ 0 < r ∧ n = r ∧ IsPiece (l.take r) t) ∨
  (IsRun l 0 ∧ Dbl l ∧ n = 2 ∧ t = ⟨4, 0, 0, [61, 61]⟩) ∨
  (IsRun l 0 ∧ ¬ Dbl l ∧ l.getD 0 0 ∈ signs ∧ n = 1 ∧ t = ⟨4, 0, 0, [l.getD 0 0]⟩)
def NoNext (l : List Int) : Prop :=
  (∃ r, IsRun l r ∧ 0 < r ∧ ∀ t, ¬ IsPiece (l.take r) t) ∨
  (IsRun l 0 ∧ ¬ Dbl l ∧ ¬ l.getD 0 0 ∈ signs)
def blankB (b : Int) : Bool := decide (b = 32) || decide (b = 10)
/-- From place 'at' on, with these tokens before, the text gives these tokens and this number. -/
inductive Lexed (l : List Int) : Nat → List S34 → List S34 → Int → Prop
  | done (at' : Nat) (out : List S34) (h : l.length ≤ at') : Lexed l at' out out (-1)
  | blank (at' : Nat) (out r : List S34) (c : Int) (h : at' < l.length) (hb : blankB (l.getD at' 0) = true) (k : Lexed l (at' + 1) out r c) : Lexed l at' out r c
  | tok (at' n : Nat) (t : S34) (out r : List S34) (c : Int) (h : at' < l.length) (hb : blankB (l.getD at' 0) = false) (hn : Next (l.drop at') t n) (k : Lexed l (at' + n) (out ++ [⟨t.f0, at', t.f2, t.f3⟩]) r c) : Lexed l at' out r c
  | bad (at' : Nat) (out : List S34) (h : at' < l.length) (hb : blankB (l.getD at' 0) = false) (hn : NoNext (l.drop at')) : Lexed l at' out [] at'
/-- What Lex answers. -/
def LexOf (l : List Int) (r : List S34) (c : Int) : Prop := (6000 < l.length ∧ r = [] ∧ c = 0) ∨ (l.length ≤ 6000 ∧ Lexed l 0 [] r c)

theorem IsRun.one {l : List Int} {a b : Nat} (h : IsRun l a) (k : IsRun l b) : a = b := by
  rcases Nat.lt_trichotomy a b with hlt | he | hlt
  · have h1 := h.2.2.2 (by have := k.2.1; omega)
    rw [k.2.2.1 a h.1 hlt] at h1
    cases h1
  · exact he
  · have h1 := k.2.2.2 (by have := h.2.1; omega)
    rw [h.2.2.1 b k.1 hlt] at h1
    cases h1

end Go.Proofs.YtkkodbbgdndhmaaDoor.LxFnExactLex
