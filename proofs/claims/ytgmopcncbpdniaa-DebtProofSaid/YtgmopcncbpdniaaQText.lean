/- text of package num, at a number of one digit. -/
import Derived.Test.YtgmopcncbpdniaaQRat5
import Derived.Handy
import Derived.Laws.BytesString
set_option linter.unusedVariables false
set_option linter.unusedSimpArgs false
namespace Go.Proofs.Ytgmopcncbpdniaa
open Go.RowKit
attribute [local go_sem ↓] Go.wp_at_zero Go.wp_at_succ

theorem info8 : (Try.prog.info? 5).map (fun i => (i.zero, i.size, i.bytes)) = some (some (.int .u8 0), 1, 1) := by kernel_rfl

theorem byWord_small (u : Value) (x : Nat) (w : World) (hu : Mag w u x) (hx : x < 1000000000) :
    Calls Try.prog 86 #[u, .int .u32 1000000000] w fun e w' => ∃ a c, e = .returned (.tuple #[.slice a 0 c, .int .u32 x]) ∧ Below w.heap.size w w' := by
  have hn : nl x ≤ 1 := by rw [nl_le]; omega
  refine (byWord_any u x 1000000000 w hu (by omega) (by omega) (by omega)).mono ?_
  rintro e w' ⟨r, rfl, hr, hb⟩
  rw [Nat.div_eq_of_lt hx] at hr
  obtain ⟨a, b, o, c, rfl, -⟩ := hr
  refine ⟨a, c, ?_, hb⟩
  rw [Nat.mod_eq_of_lt hx]
  rfl

set_option maxHeartbeats 1000000 in
theorem reverse_one (a : Option Addr) (cap : Nat) (w : World) :
    Calls Try.prog 87 #[.slice a 1 cap] w fun e w' => e = .returned (.tuple #[]) ∧ w = w' := by
  go_enter Try.func87, Try.ntmps87
  go_wp2
  go_rounds 2
  go_end0
  exact ⟨rfl, rfl⟩

/-- string(b) of one byte -/
theorem conv_one (W : World) (b c : Nat) (z : Int) (h : W.cell? ⟨b, 0, none⟩ = some (.int .u8 z)) :
    (convert 44 9 (.slice (some ⟨b, 0, none⟩) 1 c)).run Try.prog W = .ok (.string ⟨#[UInt8.ofNat z.toNat]⟩) W := by
  rw [run_convert_bytes_string W 44 9 5 _ _ _ Try.underlying44 Try.underlying5 Try.underlying9,
    run_bytesToString W ⟨b, 0, none⟩ 1 c [z] (run_loadCells_list _ _ [Value.int .u8 z] (fun j v hv => by
      match j, hv with
      | 0, hv => simp at hv; subst hv; simpa [Addr.add] using h))]
  rfl

set_option maxHeartbeats 1000000 in
set_option maxRecDepth 100000 in
theorem text_small (u : Value) (x : Nat) (w : World) (hu : Mag w u x) (h0 : 0 < x) (h9 : x < 10) :
    Calls Try.prog 68 #[u] w fun e w' => e = .returned (.string ⟨#[48 + UInt8.ofNat x]⟩) ∧ Below w.heap.size w w' := by
  have hn : nl x = 1 := by
    have h1 : nl x ≤ 1 := by rw [nl_le]; omega
    have := (nl_pos x).2 h0
    omega
  have HU := Lib.hid hu
  obtain ⟨a1, b1, o1, c1, rfl, i1⟩ := hu
  rw [hn] at HU ⊢
  clear i1 hn
  have hq : (x : Int) / 10 = 0 := by omega
  have hm : (x : Int) % 10 = x := by omega
  have hz : (48 + (x : Int)).toNat = 48 + x := by omega
  have HZ := Lib.hid hz
  clear hz
  obtain ⟨i0, hi, hz0, hz1, hz2⟩ := info_parts info8
  go_enter Try.func68, Try.ntmps68
  go_wp2
  refine wp_loop_rounds 2 ?_
  rw [rounds_succ]
  go_wp2_with (first
    | (go_at_call 86; (with_reducible refine (byWord_small _ x _ HU.out (by omega)).mono ?_); rintro e w1 ⟨a2, c2, rfl, hb1⟩))
  refine wp_loop_rounds 2 ?_
  rw [rounds_succ]
  go_wp2
  generalize (Question.appendCap 1 0 5).cut (w1.tape w1.drawn (Question.appendCap 1 0 5)) = cap
  rw [rounds_succ]
  go_wp2
  rw [rounds_succ]
  have HCV := fun W => conv_one W (w1.heap.size + 1) cap (48 + x)
  rw [HZ.out] at HCV
  have hcv := HCV (((w1.alloc (Obj.cells #[Value.int IntKind.u8 (48 + ↑x)] 5)).alloc (Obj.cells (#[Value.int IntKind.u8 (48 + ↑x)] ++ Builtin.zeroCells #[Value.int IntKind.u8 0] (cap - 1)) 5)).drew) (by simp [go_sem]; rw [Array.getElem?_append_left (by simp)]; rfl)
  clear HCV
  go_wp2_with (first
    | (go_at_call 87; (with_reducible refine (reverse_one _ _ _).mono ?_); rintro e w2 ⟨rfl, rfl⟩))
  go_ret
  refine ⟨rfl, ?_⟩
  refine Below.trans hb1 ?_
  exact ((((Below.refl _ _).alloc (Nat.le_refl _) _).alloc (by simp) _).drew).mono hb1.size

end Go.Proofs.Ytgmopcncbpdniaa
