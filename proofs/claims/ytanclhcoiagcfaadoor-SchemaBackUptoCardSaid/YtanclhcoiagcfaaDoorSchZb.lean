/- THE WALK over the law's worked examples. -/
import Derived.Test.YtanclhcoiagcfaaDoorSchZa
import Derived.Deep.Cut
namespace Go.Proofs.YtanclhcoiagcfaaDoor
open Go.RowKit

def uR : RuleP := ⟨1, 0, ⟨#[65]⟩, ⟨#[107]⟩, ⟨#[]⟩, ⟨#[]⟩⟩
def xR : RuleP := ⟨2, 0, ⟨#[65]⟩, ⟨#[107]⟩, ⟨#[]⟩, ⟨#[]⟩⟩
def nR : RuleP := ⟨6, 0, ⟨#[75, 78, 79, 87, 83]⟩, ⟨#[]⟩, ⟨#[80, 101, 114, 115, 111, 110]⟩, ⟨#[]⟩⟩
def kR : RuleP := ⟨6, 0, ⟨#[]⟩, ⟨#[107]⟩, ⟨#[]⟩, ⟨#[]⟩⟩
def pR : RuleP := ⟨6, 0, ⟨#[84]⟩, ⟨#[]⟩, ⟨#[]⟩, ⟨#[66]⟩⟩
theorem chk_u : chkR uR = 0 := by decide
theorem chk_x : chkR xR = 0 := by decide
theorem chk_n : chkR nR = 0 := by decide
theorem chk_k : chkR kR = 1 := by decide
theorem chk_p : chkR pR = 0 := by decide
theorem ord_ux : ordR uR xR = -1 := by rfl
theorem ord_xu : ordR xR uR = 1 := by rfl
theorem text_n : textL nR = [101, 110, 100, 115, 32, 75, 78, 79, 87, 83, 32, 80, 101, 114, 115, 111, 110, 32, 42] := by decide
theorem text_p : textL pR = [101, 110, 100, 115, 32, 84, 32, 42, 32, 66] := by decide
theorem val_nil : validB [] = true := by decide
theorem val_x : validB [xR] = true := validB_iff.2 ⟨by decide, by intro r hr; rcases List.mem_singleton.1 hr with rfl; exact chk_x, List.pairwise_singleton _ _⟩
theorem val_ux : validB [uR, xR] = true := validB_iff.2 ⟨by decide, by
  intro r hr
  simp only [List.mem_cons, List.not_mem_nil, or_false] at hr
  rcases hr with rfl | rfl
  · exact chk_u
  · exact chk_x, List.pairwise_cons.2 ⟨by intro r hr; rcases List.mem_singleton.1 hr with rfl; rw [ord_ux]; decide, List.pairwise_singleton _ _⟩⟩
theorem val_xu : validB [xR, uR] = false := by
  refine valid_no (k := 1) (by decide) ?_
  rw [step_low (k := 1) (s := [xR, uR]) chk_u (by decide)]
  show decide (ordR xR uR < 0) = false
  rw [ord_xu]; rfl
theorem add_1 : addR [] xR = ([xR], 0) := add_eq val_nil chk_x (by simp) (by decide)
theorem add_2 : addR [xR] uR = ([uR, xR], 0) := by
  rw [add_eq val_x chk_u (by simp only [List.mem_singleton]; decide) (by decide)]
  unfold insR lowN
  rw [ord_xu]; rfl
theorem add_3 : addR [uR, xR] uR = ([], 7) := by
  unfold addR
  rw [val_ux, if_neg (by simp), if_neg (by rw [chk_u]; simp), if_pos (List.mem_cons_self ..)]
theorem drop_1 : dropR [uR, xR] xR = ([uR], 0) := by
  rw [drop_eq val_ux chk_x (by simp)]
  unfold delR lowN
  rw [ord_ux]
  unfold lowN
  rw [ord_irr]; rfl

theorem parse_1 {r : RuleP} {e : Int} (h : ParsedR [101, 110, 100, 115, 32, 84, 32, 42, 32, 66] r e) : r = pR ∧ e = 0 := by
  rcases h with ⟨he, hc, ht⟩ | ⟨_, _, hn⟩
  · exact ⟨textL_inj hc chk_p (ht.trans text_p.symm), he⟩
  · exact absurd text_p (hn pR chk_p)
theorem parse_2 {r : RuleP} {e : Int} (h : ParsedR [109, 97, 120, 111, 117, 116, 32, 84, 32, 48, 51] r e) : r = zeroR ∧ e = 2 := by
  rcases h with ⟨he, hc, ht⟩ | ⟨he, hr, _⟩
  · exfalso
    have hw : ([asB [109, 97, 120, 111, 117, 116], asB [84], asB [48, 51]] : List ByteArray).map (·.data.toList) = allW r := by
      rw [← pieces_text hc, ht]; decide
    have hg := guessR_all hc hw
    have e2 : guessR [asB [109, 97, 120, 111, 117, 116], asB [84], asB [48, 51]] = ⟨7, 3, asB [84], emptyB, emptyB, emptyB⟩ := by
      unfold guessR
      simp [asB, edgeL, uniqueL, existsL, kindL, endsL, numG, IntKind.wrap_i64]
    rw [e2] at hg
    rw [← hg] at ht hc
    have hl := congrArg List.length ht
    rw [textL_head hc] at hl
    simp [headL, tailW, keyK, joinW, asB, Lib.itoa] at hl
    have hd := decDigits_one (m := 3) (by omega)
    rw [hd] at hl
    simp at hl
  · exact ⟨hr, he⟩

theorem rules_lit (w : World) (l : List RuleP) (h : l.length ≤ 1000) : Rules (w.alloc (.cells (flatR l).toArray 23)) (some ⟨w.heap.size, 0, none⟩) l := by
  have ho := World.ownsRow_lit (size := 6) (e := 23) w (flatR l).toArray l.length (Nat.le_refl _) (by unfold maxLen; omega) (by simpa using flatR_len l)
  rw [List.toList_toArray] at ho
  obtain ⟨A, c, hv, hl⟩ := own_lies RuleP.cells_len ho rfl
  obtain ⟨rfl, -⟩ : some ⟨w.heap.size, 0, none⟩ = A ∧ True := by injection hv with h1; exact ⟨h1, trivial⟩
  exact .of_lies hl

theorem two_boxes (w : World) : ∃ (g1 g2 : Nat) (w1 : World), g1 = w.heap.size ∧ g2 = w.heap.size + 1 ∧ w1 = (w.alloc (.cells #[.int .i64 1, .int .i64 0, .string ⟨#[65]⟩, .string ⟨#[107]⟩, .string ⟨#[]⟩, .string ⟨#[]⟩] 23)).alloc (.cells #[.int .i64 2, .int .i64 0, .string ⟨#[65]⟩, .string ⟨#[107]⟩, .string ⟨#[]⟩, .string ⟨#[]⟩] 23) ∧ CellsR w1 g1 0 uR ∧ CellsR w1 g2 0 xR ∧ Ext w w1 :=
  ⟨_, _, _, rfl, rfl, rfl, ⟨by go_simp; rfl, by go_simp; rfl, by go_simp; rfl, by go_simp; rfl, by go_simp; rfl, by go_simp; rfl⟩, ⟨by go_simp; rfl, by go_simp; rfl, by go_simp; rfl, by go_simp; rfl, by go_simp; rfl, by go_simp; rfl⟩, ((Ext.refl _).alloc _).alloc _⟩

end Go.Proofs.YtanclhcoiagcfaaDoor
