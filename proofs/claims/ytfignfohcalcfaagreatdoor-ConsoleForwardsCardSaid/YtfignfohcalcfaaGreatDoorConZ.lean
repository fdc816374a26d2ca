/- The awake script's answer, plainly. No function of the program. -/
import Derived.Test.YtfignfohcalcfaaGreatDoorConA
namespace Go.Proofs.YtfignfohcalcfaaGreatDoor
def awakeS : ByteArray := tx [117, 101, 32, 51, 10, 35, 32, 120, 10, 115, 101, 32, 45, 49, 10, 102, 114, 111, 98, 10, 113, 112, 32, 52, 48, 32, 48, 10, 109, 101, 100, 105, 97, 110, 32, 51, 32, 49, 32, 50, 10, 112, 111, 99, 32, 48, 32, 49, 52, 32, 49, 32, 52, 10, 101, 115, 99, 97, 112, 101, 32, 48, 48, 48, 48, 48, 49, 10, 98, 105, 110, 115, 32, 49, 52, 32, 45, 50, 32, 48]
theorem awake_is : conF awakeS = (tx [50, 48, 10, 54, 48, 10, 101, 114, 114, 111, 114, 32, 50, 55, 48, 48, 10, 51, 54, 10, 50, 10, 49, 54, 32, 49, 55, 10, 48, 48, 48, 48, 48, 51, 48, 49, 10, 101, 114, 114, 111, 114, 32, 54, 48, 48, 10], 0) := by decide +kernel
end Go.Proofs.YtfignfohcalcfaaGreatDoor
