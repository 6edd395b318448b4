/-
  The functions of this seat that are of simple make.
-/
import Derived.Test.YtoimhdhplebhgaaG1
import Derived.Test.YtoimhdhplebhgaaKLift2
import Derived.Test.YtoimhdhplebhgaaProg
import Derived.ProofKit
namespace Go.Proofs.Ytoimhdhplebhgaa
open Go.Conc
set_option linter.unusedSimpArgs false
set_option linter.unusedVariables false

def Sf : List FuncId := [7, 9, 10, 11, 12, 13, 14, 15, 16, 17, 18, 20, 21, 22, 23, 26, 27, 28, 29, 30, 31, 32, 33, 34, 48, 49, 60]
theorem sf7 : ∃ c, Try.f7.body = some c ∧ (Try.f7.name == "runtime.NumGoroutine") = false ∧ codeOk Try.prog Sf c = true := ⟨_, rfl, by kernel_rfl, by kernel_rfl⟩
theorem sf9 : ∃ c, Try.f9.body = some c ∧ (Try.f9.name == "runtime.NumGoroutine") = false ∧ codeOk Try.prog Sf c = true := ⟨_, rfl, by kernel_rfl, by kernel_rfl⟩
theorem sf10 : ∃ c, Try.f10.body = some c ∧ (Try.f10.name == "runtime.NumGoroutine") = false ∧ codeOk Try.prog Sf c = true := ⟨_, rfl, by kernel_rfl, by kernel_rfl⟩
theorem sf11 : ∃ c, Try.f11.body = some c ∧ (Try.f11.name == "runtime.NumGoroutine") = false ∧ codeOk Try.prog Sf c = true := ⟨_, rfl, by kernel_rfl, by kernel_rfl⟩
theorem sf12 : ∃ c, Try.f12.body = some c ∧ (Try.f12.name == "runtime.NumGoroutine") = false ∧ codeOk Try.prog Sf c = true := ⟨_, rfl, by kernel_rfl, by kernel_rfl⟩
theorem sf13 : ∃ c, Try.f13.body = some c ∧ (Try.f13.name == "runtime.NumGoroutine") = false ∧ codeOk Try.prog Sf c = true := ⟨_, rfl, by kernel_rfl, by kernel_rfl⟩
theorem sf14 : ∃ c, Try.f14.body = some c ∧ (Try.f14.name == "runtime.NumGoroutine") = false ∧ codeOk Try.prog Sf c = true := ⟨_, rfl, by kernel_rfl, by kernel_rfl⟩
theorem sf15 : ∃ c, Try.f15.body = some c ∧ (Try.f15.name == "runtime.NumGoroutine") = false ∧ codeOk Try.prog Sf c = true := ⟨_, rfl, by kernel_rfl, by kernel_rfl⟩
theorem sf16 : ∃ c, Try.f16.body = some c ∧ (Try.f16.name == "runtime.NumGoroutine") = false ∧ codeOk Try.prog Sf c = true := ⟨_, rfl, by kernel_rfl, by kernel_rfl⟩
theorem sf17 : ∃ c, Try.f17.body = some c ∧ (Try.f17.name == "runtime.NumGoroutine") = false ∧ codeOk Try.prog Sf c = true := ⟨_, rfl, by kernel_rfl, by kernel_rfl⟩
theorem sf18 : ∃ c, Try.f18.body = some c ∧ (Try.f18.name == "runtime.NumGoroutine") = false ∧ codeOk Try.prog Sf c = true := ⟨_, rfl, by kernel_rfl, by kernel_rfl⟩
theorem sf20 : ∃ c, Try.f20.body = some c ∧ (Try.f20.name == "runtime.NumGoroutine") = false ∧ codeOk Try.prog Sf c = true := ⟨_, rfl, by kernel_rfl, by kernel_rfl⟩
theorem sf21 : ∃ c, Try.f21.body = some c ∧ (Try.f21.name == "runtime.NumGoroutine") = false ∧ codeOk Try.prog Sf c = true := ⟨_, rfl, by kernel_rfl, by kernel_rfl⟩
theorem sf22 : ∃ c, Try.f22.body = some c ∧ (Try.f22.name == "runtime.NumGoroutine") = false ∧ codeOk Try.prog Sf c = true := ⟨_, rfl, by kernel_rfl, by kernel_rfl⟩
theorem sf23 : ∃ c, Try.f23.body = some c ∧ (Try.f23.name == "runtime.NumGoroutine") = false ∧ codeOk Try.prog Sf c = true := ⟨_, rfl, by kernel_rfl, by kernel_rfl⟩
theorem sf26 : ∃ c, Try.f26.body = some c ∧ (Try.f26.name == "runtime.NumGoroutine") = false ∧ codeOk Try.prog Sf c = true := ⟨_, rfl, by kernel_rfl, by kernel_rfl⟩
theorem sf27 : ∃ c, Try.f27.body = some c ∧ (Try.f27.name == "runtime.NumGoroutine") = false ∧ codeOk Try.prog Sf c = true := ⟨_, rfl, by kernel_rfl, by kernel_rfl⟩
theorem sf28 : ∃ c, Try.f28.body = some c ∧ (Try.f28.name == "runtime.NumGoroutine") = false ∧ codeOk Try.prog Sf c = true := ⟨_, rfl, by kernel_rfl, by kernel_rfl⟩
theorem sf29 : ∃ c, Try.f29.body = some c ∧ (Try.f29.name == "runtime.NumGoroutine") = false ∧ codeOk Try.prog Sf c = true := ⟨_, rfl, by kernel_rfl, by kernel_rfl⟩
theorem sf30 : ∃ c, Try.f30.body = some c ∧ (Try.f30.name == "runtime.NumGoroutine") = false ∧ codeOk Try.prog Sf c = true := ⟨_, rfl, by kernel_rfl, by kernel_rfl⟩
theorem sf31 : ∃ c, Try.f31.body = some c ∧ (Try.f31.name == "runtime.NumGoroutine") = false ∧ codeOk Try.prog Sf c = true := ⟨_, rfl, by kernel_rfl, by kernel_rfl⟩
theorem sf32 : ∃ c, Try.f32.body = some c ∧ (Try.f32.name == "runtime.NumGoroutine") = false ∧ codeOk Try.prog Sf c = true := ⟨_, rfl, by kernel_rfl, by kernel_rfl⟩
theorem sf33 : ∃ c, Try.f33.body = some c ∧ (Try.f33.name == "runtime.NumGoroutine") = false ∧ codeOk Try.prog Sf c = true := ⟨_, rfl, by kernel_rfl, by kernel_rfl⟩
theorem sf34 : ∃ c, Try.f34.body = some c ∧ (Try.f34.name == "runtime.NumGoroutine") = false ∧ codeOk Try.prog Sf c = true := ⟨_, rfl, by kernel_rfl, by kernel_rfl⟩
theorem sf48 : ∃ c, Try.f48.body = some c ∧ (Try.f48.name == "runtime.NumGoroutine") = false ∧ codeOk Try.prog Sf c = true := ⟨_, rfl, by kernel_rfl, by kernel_rfl⟩
theorem sf49 : ∃ c, Try.f49.body = some c ∧ (Try.f49.name == "runtime.NumGoroutine") = false ∧ codeOk Try.prog Sf c = true := ⟨_, rfl, by kernel_rfl, by kernel_rfl⟩
theorem sf60 : ∃ c, Try.f60.body = some c ∧ (Try.f60.name == "runtime.NumGoroutine") = false ∧ codeOk Try.prog Sf c = true := ⟨_, rfl, by kernel_rfl, by kernel_rfl⟩
theorem sfAll : ∀ f ∈ Sf, ∃ fn c, Try.prog.funcs[f]? = some fn ∧ fn.body = some c ∧ (fn.name == "runtime.NumGoroutine") = false ∧ codeOk Try.prog Sf c = true := by
  intro f hf
  simp only [Sf, List.mem_cons, List.not_mem_nil, or_false] at hf
  rcases hf with rfl | rfl | rfl | rfl | rfl | rfl | rfl | rfl | rfl | rfl | rfl | rfl | rfl | rfl | rfl | rfl | rfl | rfl | rfl | rfl | rfl | rfl | rfl | rfl | rfl | rfl | rfl
  · obtain ⟨c, h1, h2, h3⟩ := sf7; exact ⟨_, c, Try.func7, h1, h2, h3⟩
  · obtain ⟨c, h1, h2, h3⟩ := sf9; exact ⟨_, c, Try.func9, h1, h2, h3⟩
  · obtain ⟨c, h1, h2, h3⟩ := sf10; exact ⟨_, c, Try.func10, h1, h2, h3⟩
  · obtain ⟨c, h1, h2, h3⟩ := sf11; exact ⟨_, c, Try.func11, h1, h2, h3⟩
  · obtain ⟨c, h1, h2, h3⟩ := sf12; exact ⟨_, c, Try.func12, h1, h2, h3⟩
  · obtain ⟨c, h1, h2, h3⟩ := sf13; exact ⟨_, c, Try.func13, h1, h2, h3⟩
  · obtain ⟨c, h1, h2, h3⟩ := sf14; exact ⟨_, c, Try.func14, h1, h2, h3⟩
  · obtain ⟨c, h1, h2, h3⟩ := sf15; exact ⟨_, c, Try.func15, h1, h2, h3⟩
  · obtain ⟨c, h1, h2, h3⟩ := sf16; exact ⟨_, c, Try.func16, h1, h2, h3⟩
  · obtain ⟨c, h1, h2, h3⟩ := sf17; exact ⟨_, c, Try.func17, h1, h2, h3⟩
  · obtain ⟨c, h1, h2, h3⟩ := sf18; exact ⟨_, c, Try.func18, h1, h2, h3⟩
  · obtain ⟨c, h1, h2, h3⟩ := sf20; exact ⟨_, c, Try.func20, h1, h2, h3⟩
  · obtain ⟨c, h1, h2, h3⟩ := sf21; exact ⟨_, c, Try.func21, h1, h2, h3⟩
  · obtain ⟨c, h1, h2, h3⟩ := sf22; exact ⟨_, c, Try.func22, h1, h2, h3⟩
  · obtain ⟨c, h1, h2, h3⟩ := sf23; exact ⟨_, c, Try.func23, h1, h2, h3⟩
  · obtain ⟨c, h1, h2, h3⟩ := sf26; exact ⟨_, c, Try.func26, h1, h2, h3⟩
  · obtain ⟨c, h1, h2, h3⟩ := sf27; exact ⟨_, c, Try.func27, h1, h2, h3⟩
  · obtain ⟨c, h1, h2, h3⟩ := sf28; exact ⟨_, c, Try.func28, h1, h2, h3⟩
  · obtain ⟨c, h1, h2, h3⟩ := sf29; exact ⟨_, c, Try.func29, h1, h2, h3⟩
  · obtain ⟨c, h1, h2, h3⟩ := sf30; exact ⟨_, c, Try.func30, h1, h2, h3⟩
  · obtain ⟨c, h1, h2, h3⟩ := sf31; exact ⟨_, c, Try.func31, h1, h2, h3⟩
  · obtain ⟨c, h1, h2, h3⟩ := sf32; exact ⟨_, c, Try.func32, h1, h2, h3⟩
  · obtain ⟨c, h1, h2, h3⟩ := sf33; exact ⟨_, c, Try.func33, h1, h2, h3⟩
  · obtain ⟨c, h1, h2, h3⟩ := sf34; exact ⟨_, c, Try.func34, h1, h2, h3⟩
  · obtain ⟨c, h1, h2, h3⟩ := sf48; exact ⟨_, c, Try.func48, h1, h2, h3⟩
  · obtain ⟨c, h1, h2, h3⟩ := sf49; exact ⟨_, c, Try.func49, h1, h2, h3⟩
  · obtain ⟨c, h1, h2, h3⟩ := sf60; exact ⟨_, c, Try.func60, h1, h2, h3⟩
theorem closedS : Closed Try.prog Sf :=
  ⟨fun f hf => let ⟨fn, c, h1, h2, h3, _⟩ := sfAll f hf; ⟨fn, c, h1, h2, h3⟩, fun f hf fn h1 c h2 => by
    obtain ⟨fn', c', h3, h4, _, h5⟩ := sfAll f hf
    rw [h1] at h3; obtain rfl := Option.some.inj h3
    rw [h2] at h4; obtain rfl := Option.some.inj h4
    exact h5⟩
end Go.Proofs.Ytoimhdhplebhgaa
