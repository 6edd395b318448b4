/-
  The functions of this seat that are of simple make.
-/
import Derived.Test.YthmgpkcijolljaaH2
import Derived.Test.YthmgpkcijolljaaHKLift2
import Derived.Test.YthmgpkcijolljaaProg
import Derived.ProofKit
namespace Go.Proofs.Ythmgpkcijolljaa
open Go.Conc
set_option linter.unusedSimpArgs false
set_option linter.unusedVariables false
def Sf : List FuncId := [10, 11, 12, 14, 15, 17, 18, 19, 21, 22, 23, 24, 25, 26, 28, 30, 31, 32, 33, 34, 36, 37, 38, 39, 40, 41, 42, 43, 44, 45, 46, 47, 48, 55, 56, 71, 77]
theorem sf10 : ∃ c, Try.f10.body = some c ∧ (Try.f10.name == "runtime.NumGoroutine") = false ∧ codeOk Try.prog Sf c = true := ⟨_, rfl, by kernel_rfl, by kernel_rfl⟩
theorem sf11 : ∃ c, Try.f11.body = some c ∧ (Try.f11.name == "runtime.NumGoroutine") = false ∧ codeOk Try.prog Sf c = true := ⟨_, rfl, by kernel_rfl, by kernel_rfl⟩
theorem sf12 : ∃ c, Try.f12.body = some c ∧ (Try.f12.name == "runtime.NumGoroutine") = false ∧ codeOk Try.prog Sf c = true := ⟨_, rfl, by kernel_rfl, by kernel_rfl⟩
theorem sf14 : ∃ c, Try.f14.body = some c ∧ (Try.f14.name == "runtime.NumGoroutine") = false ∧ codeOk Try.prog Sf c = true := ⟨_, rfl, by kernel_rfl, by kernel_rfl⟩
theorem sf15 : ∃ c, Try.f15.body = some c ∧ (Try.f15.name == "runtime.NumGoroutine") = false ∧ codeOk Try.prog Sf c = true := ⟨_, rfl, by kernel_rfl, by kernel_rfl⟩
theorem sf17 : ∃ c, Try.f17.body = some c ∧ (Try.f17.name == "runtime.NumGoroutine") = false ∧ codeOk Try.prog Sf c = true := ⟨_, rfl, by kernel_rfl, by kernel_rfl⟩
theorem sf18 : ∃ c, Try.f18.body = some c ∧ (Try.f18.name == "runtime.NumGoroutine") = false ∧ codeOk Try.prog Sf c = true := ⟨_, rfl, by kernel_rfl, by kernel_rfl⟩
theorem sf19 : ∃ c, Try.f19.body = some c ∧ (Try.f19.name == "runtime.NumGoroutine") = false ∧ codeOk Try.prog Sf c = true := ⟨_, rfl, by kernel_rfl, by kernel_rfl⟩
theorem sf21 : ∃ c, Try.f21.body = some c ∧ (Try.f21.name == "runtime.NumGoroutine") = false ∧ codeOk Try.prog Sf c = true := ⟨_, rfl, by kernel_rfl, by kernel_rfl⟩
theorem sf22 : ∃ c, Try.f22.body = some c ∧ (Try.f22.name == "runtime.NumGoroutine") = false ∧ codeOk Try.prog Sf c = true := ⟨_, rfl, by kernel_rfl, by kernel_rfl⟩
theorem sf23 : ∃ c, Try.f23.body = some c ∧ (Try.f23.name == "runtime.NumGoroutine") = false ∧ codeOk Try.prog Sf c = true := ⟨_, rfl, by kernel_rfl, by kernel_rfl⟩
theorem sf24 : ∃ c, Try.f24.body = some c ∧ (Try.f24.name == "runtime.NumGoroutine") = false ∧ codeOk Try.prog Sf c = true := ⟨_, rfl, by kernel_rfl, by kernel_rfl⟩
theorem sf25 : ∃ c, Try.f25.body = some c ∧ (Try.f25.name == "runtime.NumGoroutine") = false ∧ codeOk Try.prog Sf c = true := ⟨_, rfl, by kernel_rfl, by kernel_rfl⟩
theorem sf26 : ∃ c, Try.f26.body = some c ∧ (Try.f26.name == "runtime.NumGoroutine") = false ∧ codeOk Try.prog Sf c = true := ⟨_, rfl, by kernel_rfl, by kernel_rfl⟩
theorem sf28 : ∃ c, Try.f28.body = some c ∧ (Try.f28.name == "runtime.NumGoroutine") = false ∧ codeOk Try.prog Sf c = true := ⟨_, rfl, by kernel_rfl, by kernel_rfl⟩
theorem sf30 : ∃ c, Try.f30.body = some c ∧ (Try.f30.name == "runtime.NumGoroutine") = false ∧ codeOk Try.prog Sf c = true := ⟨_, rfl, by kernel_rfl, by kernel_rfl⟩
theorem sf31 : ∃ c, Try.f31.body = some c ∧ (Try.f31.name == "runtime.NumGoroutine") = false ∧ codeOk Try.prog Sf c = true := ⟨_, rfl, by kernel_rfl, by kernel_rfl⟩
theorem sf32 : ∃ c, Try.f32.body = some c ∧ (Try.f32.name == "runtime.NumGoroutine") = false ∧ codeOk Try.prog Sf c = true := ⟨_, rfl, by kernel_rfl, by kernel_rfl⟩
theorem sf33 : ∃ c, Try.f33.body = some c ∧ (Try.f33.name == "runtime.NumGoroutine") = false ∧ codeOk Try.prog Sf c = true := ⟨_, rfl, by kernel_rfl, by kernel_rfl⟩
theorem sf34 : ∃ c, Try.f34.body = some c ∧ (Try.f34.name == "runtime.NumGoroutine") = false ∧ codeOk Try.prog Sf c = true := ⟨_, rfl, by kernel_rfl, by kernel_rfl⟩
theorem sf36 : ∃ c, Try.f36.body = some c ∧ (Try.f36.name == "runtime.NumGoroutine") = false ∧ codeOk Try.prog Sf c = true := ⟨_, rfl, by kernel_rfl, by kernel_rfl⟩
theorem sf37 : ∃ c, Try.f37.body = some c ∧ (Try.f37.name == "runtime.NumGoroutine") = false ∧ codeOk Try.prog Sf c = true := ⟨_, rfl, by kernel_rfl, by kernel_rfl⟩
theorem sf38 : ∃ c, Try.f38.body = some c ∧ (Try.f38.name == "runtime.NumGoroutine") = false ∧ codeOk Try.prog Sf c = true := ⟨_, rfl, by kernel_rfl, by kernel_rfl⟩
theorem sf39 : ∃ c, Try.f39.body = some c ∧ (Try.f39.name == "runtime.NumGoroutine") = false ∧ codeOk Try.prog Sf c = true := ⟨_, rfl, by kernel_rfl, by kernel_rfl⟩
theorem sf40 : ∃ c, Try.f40.body = some c ∧ (Try.f40.name == "runtime.NumGoroutine") = false ∧ codeOk Try.prog Sf c = true := ⟨_, rfl, by kernel_rfl, by kernel_rfl⟩
theorem sf41 : ∃ c, Try.f41.body = some c ∧ (Try.f41.name == "runtime.NumGoroutine") = false ∧ codeOk Try.prog Sf c = true := ⟨_, rfl, by kernel_rfl, by kernel_rfl⟩
theorem sf42 : ∃ c, Try.f42.body = some c ∧ (Try.f42.name == "runtime.NumGoroutine") = false ∧ codeOk Try.prog Sf c = true := ⟨_, rfl, by kernel_rfl, by kernel_rfl⟩
theorem sf43 : ∃ c, Try.f43.body = some c ∧ (Try.f43.name == "runtime.NumGoroutine") = false ∧ codeOk Try.prog Sf c = true := ⟨_, rfl, by kernel_rfl, by kernel_rfl⟩
theorem sf44 : ∃ c, Try.f44.body = some c ∧ (Try.f44.name == "runtime.NumGoroutine") = false ∧ codeOk Try.prog Sf c = true := ⟨_, rfl, by kernel_rfl, by kernel_rfl⟩
theorem sf45 : ∃ c, Try.f45.body = some c ∧ (Try.f45.name == "runtime.NumGoroutine") = false ∧ codeOk Try.prog Sf c = true := ⟨_, rfl, by kernel_rfl, by kernel_rfl⟩
theorem sf46 : ∃ c, Try.f46.body = some c ∧ (Try.f46.name == "runtime.NumGoroutine") = false ∧ codeOk Try.prog Sf c = true := ⟨_, rfl, by kernel_rfl, by kernel_rfl⟩
theorem sf47 : ∃ c, Try.f47.body = some c ∧ (Try.f47.name == "runtime.NumGoroutine") = false ∧ codeOk Try.prog Sf c = true := ⟨_, rfl, by kernel_rfl, by kernel_rfl⟩
theorem sf48 : ∃ c, Try.f48.body = some c ∧ (Try.f48.name == "runtime.NumGoroutine") = false ∧ codeOk Try.prog Sf c = true := ⟨_, rfl, by kernel_rfl, by kernel_rfl⟩
theorem sf55 : ∃ c, Try.f55.body = some c ∧ (Try.f55.name == "runtime.NumGoroutine") = false ∧ codeOk Try.prog Sf c = true := ⟨_, rfl, by kernel_rfl, by kernel_rfl⟩
theorem sf56 : ∃ c, Try.f56.body = some c ∧ (Try.f56.name == "runtime.NumGoroutine") = false ∧ codeOk Try.prog Sf c = true := ⟨_, rfl, by kernel_rfl, by kernel_rfl⟩
theorem sf71 : ∃ c, Try.f71.body = some c ∧ (Try.f71.name == "runtime.NumGoroutine") = false ∧ codeOk Try.prog Sf c = true := ⟨_, rfl, by kernel_rfl, by kernel_rfl⟩
theorem sf77 : ∃ c, Try.f77.body = some c ∧ (Try.f77.name == "runtime.NumGoroutine") = false ∧ codeOk Try.prog Sf c = true := ⟨_, rfl, by kernel_rfl, by kernel_rfl⟩
theorem sfAll : ∀ f ∈ Sf, ∃ fn c, Try.prog.funcs[f]? = some fn ∧ fn.body = some c ∧ (fn.name == "runtime.NumGoroutine") = false ∧ codeOk Try.prog Sf c = true := by
 intro f hf
 simp only [Sf, List.mem_cons, List.not_mem_nil, or_false] at hf
 rcases hf with rfl | rfl | rfl | rfl | rfl | rfl | rfl | rfl | rfl | rfl | rfl | rfl | rfl | rfl | rfl | rfl | rfl | rfl | rfl | rfl | rfl | rfl | rfl | rfl | rfl | rfl | rfl | rfl | rfl | rfl | rfl | rfl | rfl | rfl | rfl | rfl | rfl
 ·obtain ⟨c, h1, h2, h3⟩ := sf10; exact ⟨_, c, Try.func10, h1, h2, h3⟩
 ·obtain ⟨c, h1, h2, h3⟩ := sf11; exact ⟨_, c, Try.func11, h1, h2, h3⟩
 ·obtain ⟨c, h1, h2, h3⟩ := sf12; exact ⟨_, c, Try.func12, h1, h2, h3⟩
 ·obtain ⟨c, h1, h2, h3⟩ := sf14; exact ⟨_, c, Try.func14, h1, h2, h3⟩
 ·obtain ⟨c, h1, h2, h3⟩ := sf15; exact ⟨_, c, Try.func15, h1, h2, h3⟩
 ·obtain ⟨c, h1, h2, h3⟩ := sf17; exact ⟨_, c, Try.func17, h1, h2, h3⟩
 ·obtain ⟨c, h1, h2, h3⟩ := sf18; exact ⟨_, c, Try.func18, h1, h2, h3⟩
 ·obtain ⟨c, h1, h2, h3⟩ := sf19; exact ⟨_, c, Try.func19, h1, h2, h3⟩
 ·obtain ⟨c, h1, h2, h3⟩ := sf21; exact ⟨_, c, Try.func21, h1, h2, h3⟩
 ·obtain ⟨c, h1, h2, h3⟩ := sf22; exact ⟨_, c, Try.func22, h1, h2, h3⟩
 ·obtain ⟨c, h1, h2, h3⟩ := sf23; exact ⟨_, c, Try.func23, h1, h2, h3⟩
 ·obtain ⟨c, h1, h2, h3⟩ := sf24; exact ⟨_, c, Try.func24, h1, h2, h3⟩
 ·obtain ⟨c, h1, h2, h3⟩ := sf25; exact ⟨_, c, Try.func25, h1, h2, h3⟩
 ·obtain ⟨c, h1, h2, h3⟩ := sf26; exact ⟨_, c, Try.func26, h1, h2, h3⟩
 ·obtain ⟨c, h1, h2, h3⟩ := sf28; exact ⟨_, c, Try.func28, h1, h2, h3⟩
 ·obtain ⟨c, h1, h2, h3⟩ := sf30; exact ⟨_, c, Try.func30, h1, h2, h3⟩
 ·obtain ⟨c, h1, h2, h3⟩ := sf31; exact ⟨_, c, Try.func31, h1, h2, h3⟩
 ·obtain ⟨c, h1, h2, h3⟩ := sf32; exact ⟨_, c, Try.func32, h1, h2, h3⟩
 ·obtain ⟨c, h1, h2, h3⟩ := sf33; exact ⟨_, c, Try.func33, h1, h2, h3⟩
 ·obtain ⟨c, h1, h2, h3⟩ := sf34; exact ⟨_, c, Try.func34, h1, h2, h3⟩
 ·obtain ⟨c, h1, h2, h3⟩ := sf36; exact ⟨_, c, Try.func36, h1, h2, h3⟩
 ·obtain ⟨c, h1, h2, h3⟩ := sf37; exact ⟨_, c, Try.func37, h1, h2, h3⟩
 ·obtain ⟨c, h1, h2, h3⟩ := sf38; exact ⟨_, c, Try.func38, h1, h2, h3⟩
 ·obtain ⟨c, h1, h2, h3⟩ := sf39; exact ⟨_, c, Try.func39, h1, h2, h3⟩
 ·obtain ⟨c, h1, h2, h3⟩ := sf40; exact ⟨_, c, Try.func40, h1, h2, h3⟩
 ·obtain ⟨c, h1, h2, h3⟩ := sf41; exact ⟨_, c, Try.func41, h1, h2, h3⟩
 ·obtain ⟨c, h1, h2, h3⟩ := sf42; exact ⟨_, c, Try.func42, h1, h2, h3⟩
 ·obtain ⟨c, h1, h2, h3⟩ := sf43; exact ⟨_, c, Try.func43, h1, h2, h3⟩
 ·obtain ⟨c, h1, h2, h3⟩ := sf44; exact ⟨_, c, Try.func44, h1, h2, h3⟩
 ·obtain ⟨c, h1, h2, h3⟩ := sf45; exact ⟨_, c, Try.func45, h1, h2, h3⟩
 ·obtain ⟨c, h1, h2, h3⟩ := sf46; exact ⟨_, c, Try.func46, h1, h2, h3⟩
 ·obtain ⟨c, h1, h2, h3⟩ := sf47; exact ⟨_, c, Try.func47, h1, h2, h3⟩
 ·obtain ⟨c, h1, h2, h3⟩ := sf48; exact ⟨_, c, Try.func48, h1, h2, h3⟩
 ·obtain ⟨c, h1, h2, h3⟩ := sf55; exact ⟨_, c, Try.func55, h1, h2, h3⟩
 ·obtain ⟨c, h1, h2, h3⟩ := sf56; exact ⟨_, c, Try.func56, h1, h2, h3⟩
 ·obtain ⟨c, h1, h2, h3⟩ := sf71; exact ⟨_, c, Try.func71, h1, h2, h3⟩
 ·obtain ⟨c, h1, h2, h3⟩ := sf77; exact ⟨_, c, Try.func77, h1, h2, h3⟩
theorem closedS : Closed Try.prog Sf :=
 ⟨fun f hf => let ⟨fn, c, h1, h2, h3, _⟩ := sfAll f hf; ⟨fn, c, h1, h2, h3⟩, fun f hf fn h1 c h2 => by
  obtain ⟨fn', c', h3, h4, _, h5⟩ := sfAll f hf
  rw [h1] at h3; obtain rfl := Option.some.inj h3
  rw [h2] at h4; obtain rfl := Option.some.inj h4
  exact h5⟩
end Go.Proofs.Ythmgpkcijolljaa
