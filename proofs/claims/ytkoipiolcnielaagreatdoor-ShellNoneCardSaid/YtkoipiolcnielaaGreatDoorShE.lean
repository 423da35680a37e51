/- The table of commands (function 26): what its walk shows. Over the whole program of the cut; no condition beyond those that each theorem names. -/
import Derived.Test.YtkoipiolcnielaaGreatDoorShD
import Derived.Deep.Cut
namespace Go.Proofs.Sh
open Go.RowKit
/-- The table of commands. -/
def verbs : List (Verb × Bool) :=
  [(⟨⟨#[102, 97, 116, 101]⟩, 41, [9, 14, 7, 11], 0⟩, true),
   (⟨⟨#[110, 101, 116]⟩, 42, [1], 7⟩, true),
   (⟨⟨#[102, 105, 108, 101]⟩, 43, [1, 11], 0⟩, true),
   (⟨⟨#[102, 105, 108, 108]⟩, 44, [1, 10, 7], 0⟩, true),
   (⟨⟨#[112, 117, 116]⟩, 45, [1, 2, 3], 0⟩, false),
   (⟨⟨#[103, 101, 116]⟩, 46, [1, 2, 4], 0⟩, true),
   (⟨⟨#[114, 97, 110, 103, 101]⟩, 47, [1, 2, 4, 7, 7], 0⟩, true),
   (⟨⟨#[99, 97, 112]⟩, 48, [1, 13], 0⟩, true),
   (⟨⟨#[119, 101, 97, 107, 101, 110]⟩, 49, [1, 4], 0⟩, true),
   (⟨⟨#[115, 104, 111, 119]⟩, 50, [3], 0⟩, true),
   (⟨⟨#[100, 105, 103, 101, 115, 116]⟩, 51, [3], 0⟩, true),
   (⟨⟨#[115, 97, 109, 101]⟩, 52, [3, 3], 0⟩, true),
   (⟨⟨#[99, 104, 101, 99, 107]⟩, 53, [2, 4], 0⟩, true),
   (⟨⟨#[114, 101, 112, 97, 105, 114]⟩, 54, [2, 4, 8, 7], 0⟩, true),
   (⟨⟨#[115, 112, 111, 105, 108]⟩, 55, [2, 7, 4, 7, 7, 7], 0⟩, true),
   (⟨⟨#[119, 97, 105, 116]⟩, 56, [2, 7], 0⟩, true),
   (⟨⟨#[115, 116, 97, 116, 101]⟩, 57, [2], 0⟩, true),
   (⟨⟨#[116, 114, 97, 99, 101]⟩, 58, [1, 2, 7], 0⟩, true),
   (⟨⟨#[97, 103, 97, 105, 110]⟩, 59, [4, 6], 0⟩, true),
   (⟨⟨#[99, 108, 97, 115, 104]⟩, 60, [4, 6, 6], 0⟩, true),
   (⟨⟨#[116, 114, 101, 101]⟩, 61, [1], 0⟩, true),
   (⟨⟨#[108, 101, 97, 102]⟩, 62, [5, 12, 3], 0⟩, true),
   (⟨⟨#[107, 101, 101, 112]⟩, 63, [1, 2, 5], 0⟩, false),
   (⟨⟨#[114, 101, 115, 116, 111, 114, 101]⟩, 64, [1, 2, 4], 0⟩, true),
   (⟨⟨#[108, 101, 97, 118, 101, 115]⟩, 65, [5], 0⟩, true),
   (⟨⟨#[99, 97, 112, 115]⟩, 66, [2, 4], 0⟩, true),
   (⟨⟨#[114, 101, 110, 101, 119]⟩, 67, [2, 4, 8, 7], 0⟩, true),
   (⟨⟨#[116, 104, 105, 110, 103, 115]⟩, 68, [], 0⟩, false)]

theorem wp_region_ops {P : Program} {Q : Exit → Act → World → Prop} {a : Act} {w : World} {id : Nat} {l : List Oper} (h : ∀ ops, wpList P ops Q l a w) : (Code.region id l.toArray false).wp P Q a w := wp_region_lit (h _)

theorem start_table {P : Program} {ops : Array Oper} {Q : Exit → Act → World → Prop} {rest : List Oper} {a : Act} {w : World} {B M kb : Nat} {s : Value} {W : World} {L : List (Verb × Bool)} {kp : Value}
    (hf : FrOk s (.map (some M)) kp a) (hi : CmdInv B M kb s L W w) (hK : ∀ a' w', FrOk s (.map (some M)) kp a' → CmdInv B M kb s L W w' → wpList P ops Q rest a' w') : wpList P ops Q rest a w := hK _ _ hf hi

theorem buildKept (w : World) : (Instr.buildSlice 66 7 #[(0, .int .u8 7), (1, .int .u8 7), (2, .int .u8 7), (3, .int .u8 7), (4, .int .u8 11), (5, .int .u8 8), (6, .int .u8 7)]).run Tryz.prog w =
    .ok (.slice (some ⟨w.heap.size, 0, none⟩) 7 7) (w.alloc (.cells keptCells 67)) := by kernel_rfl

/-- What (*Shell).commands hands back. -/
def CmdsRet (s : Value) (w : World) (e : Ending) (w' : World) : Prop := ∃ M kb, e = .returned (.map (some M)) ∧ CmdInv w.heap.size M kb s verbs w w'

set_option maxRecDepth 100000 in
set_option maxHeartbeats 4000000 in
theorem commands_any (s : Value) (w : World) :
    Calls Tryz.prog 26 #[s] w (CmdsRet s w) := by
  go_enter Tryz.func26, Tryz.ntmps26
  have hbk := buildKept
  go_upto_region 3 with (go_at_call 40; refine (kinds_any _ _).mono ?_; rintro e w' ⟨rfl, rfl⟩)
  refine wp_region_ops fun ops => ?_
  simp only [List.append]
  -- the map itself
  refine st_value (v := .map (some _)) (w' := _) rfl (by simp only [execOp, Option.map_none, Sem.run_bind, run_makeMap, Result.andThen]; rfl) ?_
  have hsz : (w.alloc (.cells keptCells 67)).heap.size = w.heap.size + 1 := by simp
  have hkb : (w.alloc (.cells keptCells 67)).heap[w.heap.size]? = some (.cells keptCells 67) := by show (w.heap.push _)[w.heap.size]? = _; simp
  have hi0 : CmdInv w.heap.size (w.heap.size + 1) w.heap.size s [] w ((w.alloc (.cells keptCells 67)).alloc (.map #[] 0)) := by
    refine ⟨((Below.refl _ _).alloc (Nat.le_refl _) _).alloc (by simp) _, by omega, by simp, ⟨Nat.le_refl _, alloc_old hkb⟩, [], ?_, rfl, fun j x hx => by simp at hx⟩
    show ((w.alloc (.cells keptCells 67)).heap.push (.map #[] 0))[w.heap.size + 1]? = _
    rw [← hsz, Array.getElem?_push_size]; rfl
  rw [show (w.alloc (.cells #[.int .u8 7, .int .u8 7, .int .u8 7, .int .u8 7, .int .u8 11, .int .u8 8, .int .u8 7] 67)).heap.size = w.heap.size + 1 from hsz]
  refine start_table (M := w.heap.size + 1) (kb := w.heap.size) (kp := .slice (some ⟨w.heap.size, 0, none⟩) 7 7) ⟨rfl, rfl, rfl, rfl, rfl, rfl⟩ hi0 ?_
  clear hi0 hkb hsz hbk
  generalize w.heap.size + 1 = M
  intro a w1 hf hi
  refine entry_step ⟨⟨#[102, 97, 116, 101]⟩, 41, [9, 14, 7, 11], 0⟩ 9 10 11 12 13 14 4 _ (by decide) rfl (fun a w => by kernel_rfl) (by kernel_rfl) hf hi ?_
  clear hf hi
  intro a w1 hf hi
  refine entry_step ⟨⟨#[110, 101, 116]⟩, 42, [1], 7⟩ 15 16 17 18 19 20 1 _ (by decide) rfl (fun a w => by kernel_rfl) (by kernel_rfl) hf hi ?_
  clear hf hi
  intro a w1 hf hi
  refine entry_step ⟨⟨#[102, 105, 108, 101]⟩, 43, [1, 11], 0⟩ 21 22 23 24 25 26 2 _ (by decide) rfl (fun a w => by kernel_rfl) (by kernel_rfl) hf hi ?_
  clear hf hi
  intro a w1 hf hi
  refine entry_step ⟨⟨#[102, 105, 108, 108]⟩, 44, [1, 10, 7], 0⟩ 27 28 29 30 31 32 3 _ (by decide) rfl (fun a w => by kernel_rfl) (by kernel_rfl) hf hi ?_
  clear hf hi
  intro a w1 hf hi
  refine entry_app ⟨⟨#[112, 117, 116]⟩, 45, [1, 2, 3], 0⟩ 33 34 35 36 37 38 39 40 3 _ (by decide) rfl (by decide) (fun a w => by kernel_rfl) (by kernel_rfl) hf hi ?_
  clear hf hi
  intro a w1 hf hi
  refine entry_step ⟨⟨#[103, 101, 116]⟩, 46, [1, 2, 4], 0⟩ 41 42 43 44 45 46 3 _ (by decide) rfl (fun a w => by kernel_rfl) (by kernel_rfl) hf hi ?_
  clear hf hi
  intro a w1 hf hi
  refine entry_step ⟨⟨#[114, 97, 110, 103, 101]⟩, 47, [1, 2, 4, 7, 7], 0⟩ 47 48 49 50 51 52 5 _ (by decide) rfl (fun a w => by kernel_rfl) (by kernel_rfl) hf hi ?_
  clear hf hi
  intro a w1 hf hi
  refine entry_step ⟨⟨#[99, 97, 112]⟩, 48, [1, 13], 0⟩ 53 54 55 56 57 58 2 _ (by decide) rfl (fun a w => by kernel_rfl) (by kernel_rfl) hf hi ?_
  clear hf hi
  intro a w1 hf hi
  refine entry_step ⟨⟨#[119, 101, 97, 107, 101, 110]⟩, 49, [1, 4], 0⟩ 59 60 61 62 63 64 2 _ (by decide) rfl (fun a w => by kernel_rfl) (by kernel_rfl) hf hi ?_
  clear hf hi
  intro a w1 hf hi
  refine entry_step ⟨⟨#[115, 104, 111, 119]⟩, 50, [3], 0⟩ 65 66 67 68 69 70 1 _ (by decide) rfl (fun a w => by kernel_rfl) (by kernel_rfl) hf hi ?_
  clear hf hi
  intro a w1 hf hi
  refine entry_step ⟨⟨#[100, 105, 103, 101, 115, 116]⟩, 51, [3], 0⟩ 71 72 73 74 75 76 1 _ (by decide) rfl (fun a w => by kernel_rfl) (by kernel_rfl) hf hi ?_
  clear hf hi
  intro a w1 hf hi
  refine entry_step ⟨⟨#[115, 97, 109, 101]⟩, 52, [3, 3], 0⟩ 77 78 79 80 81 82 2 _ (by decide) rfl (fun a w => by kernel_rfl) (by kernel_rfl) hf hi ?_
  clear hf hi
  intro a w1 hf hi
  refine entry_step ⟨⟨#[99, 104, 101, 99, 107]⟩, 53, [2, 4], 0⟩ 83 84 85 86 87 88 2 _ (by decide) rfl (fun a w => by kernel_rfl) (by kernel_rfl) hf hi ?_
  clear hf hi
  intro a w1 hf hi
  refine entry_step ⟨⟨#[114, 101, 112, 97, 105, 114]⟩, 54, [2, 4, 8, 7], 0⟩ 89 90 91 92 93 94 4 _ (by decide) rfl (fun a w => by kernel_rfl) (by kernel_rfl) hf hi ?_
  clear hf hi
  intro a w1 hf hi
  refine entry_step ⟨⟨#[115, 112, 111, 105, 108]⟩, 55, [2, 7, 4, 7, 7, 7], 0⟩ 95 96 97 98 99 100 6 _ (by decide) rfl (fun a w => by kernel_rfl) (by kernel_rfl) hf hi ?_
  clear hf hi
  intro a w1 hf hi
  refine entry_step ⟨⟨#[119, 97, 105, 116]⟩, 56, [2, 7], 0⟩ 101 102 103 104 105 106 2 _ (by decide) rfl (fun a w => by kernel_rfl) (by kernel_rfl) hf hi ?_
  clear hf hi
  intro a w1 hf hi
  refine entry_step ⟨⟨#[115, 116, 97, 116, 101]⟩, 57, [2], 0⟩ 107 108 109 110 111 112 1 _ (by decide) rfl (fun a w => by kernel_rfl) (by kernel_rfl) hf hi ?_
  clear hf hi
  intro a w1 hf hi
  refine entry_step ⟨⟨#[116, 114, 97, 99, 101]⟩, 58, [1, 2, 7], 0⟩ 113 114 115 116 117 118 3 _ (by decide) rfl (fun a w => by kernel_rfl) (by kernel_rfl) hf hi ?_
  clear hf hi
  intro a w1 hf hi
  refine entry_step ⟨⟨#[97, 103, 97, 105, 110]⟩, 59, [4, 6], 0⟩ 119 120 121 122 123 124 2 _ (by decide) rfl (fun a w => by kernel_rfl) (by kernel_rfl) hf hi ?_
  clear hf hi
  intro a w1 hf hi
  refine entry_step ⟨⟨#[99, 108, 97, 115, 104]⟩, 60, [4, 6, 6], 0⟩ 125 126 127 128 129 130 3 _ (by decide) rfl (fun a w => by kernel_rfl) (by kernel_rfl) hf hi ?_
  clear hf hi
  intro a w1 hf hi
  refine entry_step ⟨⟨#[116, 114, 101, 101]⟩, 61, [1], 0⟩ 131 132 133 134 135 136 1 _ (by decide) rfl (fun a w => by kernel_rfl) (by kernel_rfl) hf hi ?_
  clear hf hi
  intro a w1 hf hi
  refine entry_step ⟨⟨#[108, 101, 97, 102]⟩, 62, [5, 12, 3], 0⟩ 137 138 139 140 141 142 3 _ (by decide) rfl (fun a w => by kernel_rfl) (by kernel_rfl) hf hi ?_
  clear hf hi
  intro a w1 hf hi
  refine entry_app ⟨⟨#[107, 101, 101, 112]⟩, 63, [1, 2, 5], 0⟩ 143 144 145 146 147 148 149 150 3 _ (by decide) rfl (by decide) (fun a w => by kernel_rfl) (by kernel_rfl) hf hi ?_
  clear hf hi
  intro a w1 hf hi
  refine entry_step ⟨⟨#[114, 101, 115, 116, 111, 114, 101]⟩, 64, [1, 2, 4], 0⟩ 151 152 153 154 155 156 3 _ (by decide) rfl (fun a w => by kernel_rfl) (by kernel_rfl) hf hi ?_
  clear hf hi
  intro a w1 hf hi
  refine entry_step ⟨⟨#[108, 101, 97, 118, 101, 115]⟩, 65, [5], 0⟩ 157 158 159 160 161 162 1 _ (by decide) rfl (fun a w => by kernel_rfl) (by kernel_rfl) hf hi ?_
  clear hf hi
  intro a w1 hf hi
  refine entry_step ⟨⟨#[99, 97, 112, 115]⟩, 66, [2, 4], 0⟩ 163 164 165 166 167 168 2 _ (by decide) rfl (fun a w => by kernel_rfl) (by kernel_rfl) hf hi ?_
  clear hf hi
  intro a w1 hf hi
  refine entry_step ⟨⟨#[114, 101, 110, 101, 119]⟩, 67, [2, 4, 8, 7], 0⟩ 169 170 171 172 173 174 4 _ (by decide) rfl (fun a w => by kernel_rfl) (by kernel_rfl) hf hi ?_
  clear hf hi
  intro a w1 hf hi
  refine entry_nil ⟨⟨#[116, 104, 105, 110, 103, 115]⟩, 68, [], 0⟩ 175 176 177 (by decide) (by kernel_rfl) hf hi ?_
  clear hf hi
  intro a w1 hf hi
  refine st_value (v := .map (some M)) (w' := w1) rfl (by simp only [execOp, Act.eval, hf.t8]; rfl) ?_
  have g1 := hf.got 178 (.map (some M)) (by decide)
  have s1 : (a.put (some 178) (.map (some M))).tmps.size = 179 := by simp [Act.put, hf.size]
  have d1 : (a.put (some 178) (.map (some M))).defers = [] := hf.df
  generalize a.put (some 178) (.map (some M)) = a1 at *
  refine st_value (v := .map (some M)) (w' := w1) rfl (by simp only [execOp, Act.eval, g1]; rfl) ?_
  have g2 : (a1.put (some 2) (.map (some M))).tmps.getD 2 undef = .map (some M) := by simp only [Act.put]; exact getD_set_same _ _ _ (by omega)
  have d2 : (a1.put (some 2) (.map (some M))).defers = [] := d1
  generalize a1.put (some 2) (.map (some M)) = a2 at *
  refine wpList_nil ?_
  simp only [Exit.then]
  have HI := Lib.hid hi
  clear hf hi g1 s1 d1
  go_wp2
  refine bodyPost_ret (results_tmp rfl _ _ _) d2 ?_
  rw [g2]
  exact ⟨M, w.heap.size, rfl, HI.out⟩
end Go.Proofs.Sh
